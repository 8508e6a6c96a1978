/- Walks over the document's Feeds: how many line feeds a text has. -/
import Derived.Test.YteinadddmcicoaaDoorLexRefName
namespace Go.Proofs.YteinadddmcicoaaDoor
open Go.RowKit Go.Shelf

def feedsL (l : List UInt8) : Nat := l.count 10
theorem feedsL_at (s : ByteArray) (k : Nat) (h : k < s.size) : feedsL (s.data.toList.take (k + 1)) = feedsL (s.data.toList.take k) + if (s[k].toNat : Int) = 10 then 1 else 0 := by
  have e : s.data.toList.length = s.size := Array.length_toList
  have e2 : s.data.toList[k]'(by omega) = s[k] := rfl
  unfold feedsL
  rw [List.take_succ_eq_append_getElem (by omega), List.count_append, e2]
  congr 1
  by_cases hc : s[k] = 10
  · rw [hc]; rfl
  · rw [if_neg (by intro hh; apply hc; apply UInt8.toNat_inj.1; show s[k].toNat = 10; omega)]
    simp [List.count_cons, hc]
theorem feedsL_le (l : List UInt8) : feedsL l ≤ l.length := List.count_le_length

set_option maxHeartbeats 1600000 in
theorem refFeeds_any (s : ByteArray) (hs : s.size ≤ 9223372036854775800) (w : World) :
    Calls Tryd.prog 16 #[.string s] w fun e w' => e = .returned (.int .i64 (feedsL s.data.toList)) ∧ w = w' := by
  have e0 : s.data.toList.length = s.size := Array.length_toList
  generalize hx : feedsL s.data.toList = x
  have HX := Lib.hid hx
  clear hx
  go_enter Tryd.func16, Tryd.ntmps16
  go_wp2
  go_loop [3, 4] (fun n i => ∃ k m : Nat, k ≤ s.size ∧ m ≤ k ∧ i = .int .i64 k ∧ n = .int .i64 m ∧ m = feedsL (s.data.toList.take k)) (fun _ i => s.size - (intOf i).toNat)
  case atStart => exact ⟨0, 0, by omega, by omega, rfl, rfl, by simp [feedsL]⟩
  case round =>
    obtain ⟨k, m, hk, hm, rfl, rfl, hr⟩ := hrel
    have HR := Lib.hid hr
    clear hr
    by_cases hlt : k < s.size
    · have HA := Lib.hid (feedsL_at s k hlt)
      by_cases hc : (s[k].toNat : Int) = 10
      · have hb : ((s[k].toNat : Int) == 10) = true := by rw [beq_iff_eq]; exact hc
        have HC := Lib.hid hc
        clear hc
        go_wp2
        go_round
        case rel => exact ⟨k + 1, m + 1, by omega, by omega, by go_num, by go_num, by rw [HA.out, ← HR.out, if_pos HC.out]⟩
        case measure => simp [intOf]; omega
      · have hb : ((s[k].toNat : Int) == 10) = false := by rw [beq_eq_false_iff_ne]; exact hc
        have HC := Lib.hid hc
        clear hc
        go_wp2
        go_round
        case rel => exact ⟨k + 1, m, by omega, by omega, by go_num, rfl, by rw [HA.out, ← HR.out, if_neg HC.out]; rfl⟩
        case measure => simp [intOf]; omega
    · have HE : Hid (m = x) := Lib.hid (by have h1 := HR.out; rw [List.take_of_length_le (by omega), HX.out] at h1; exact h1)
      go_wp2
      go_ret
      exact ⟨ret_i64 (by rw [HE.out]), rfl⟩
end Go.Proofs.YteinadddmcicoaaDoor
