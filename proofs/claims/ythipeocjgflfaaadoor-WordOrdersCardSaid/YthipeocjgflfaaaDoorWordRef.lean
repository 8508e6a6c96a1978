/- Walks over the reference's Text and Parse. -/
import Derived.Test.YthipeocjgflfaaaDoorWordWalks
namespace Go.Proofs.YthipeocjgflfaaaDoor
open Go.RowKit Go.Shelf

/-- A digit's byte, behind a name. -/
def digB (k : Nat) : UInt8 := UInt8.ofNat (48 + k)
/-- The digits, none for nought. -/
def dd (k : Nat) : List UInt8 := if k = 0 then [] else Lib.decDigits k
theorem dd_step (k : Nat) (h : 0 < k) : dd k = dd (k / 10) ++ [digB (k % 10)] := by
  unfold dd digB
  rw [if_neg (by omega)]
  by_cases hs : k < 10
  · rw [WordPlain.decDigits_small hs, if_pos (by omega), Nat.mod_eq_of_lt hs]; rfl
  · rw [WordPlain.decDigits_big hs, if_neg (by omega)]

theorem ret_str {a b : List UInt8} (h : a = b) : Ending.returned (.string ⟨a.toArray⟩) = .returned (.string ⟨b.toArray⟩) := by rw [h]
theorem ret_str' {a : ByteArray} {b : List UInt8} (h : a = ⟨b.toArray⟩) : Ending.returned (.string a) = .returned (.string ⟨b.toArray⟩) := by rw [h]
theorem digB_of (k : Nat) : UInt8.ofNat (48 + (k : Int) % 10).toNat = digB (k % 10) := by
  unfold digB; congr 1
theorem dd_len (n : Nat) {k : Nat} (acc : List UInt8) (h1 : n ≤ 9223372036854775808) (h : dd k ++ acc = dd n) : acc.length ≤ 30 := by
  have e := congrArg List.length h
  rw [List.length_append] at e
  have : (dd n).length ≤ 30 := by
    unfold dd; split
    · simp
    · rw [Lib.decDigits_length]; have := WordPlain.nDigits_le19 n (by omega); omega
  omega

/-- A byte in a new array of one, as a text. -/
theorem one_byte (W : World) (x : Int) : (convert 42 9 (.slice (some ⟨W.heap.size, 0, none⟩) 1 1)).run Tryd.prog (W.alloc (.cells #[.int .u8 x] 5)) =
    .ok (.string ⟨#[UInt8.ofNat x.toNat]⟩) (W.alloc (.cells #[.int .u8 x] 5)) := by
  have h := run_convert_bytes_arg (P := Tryd.prog) (W.alloc (.cells #[.int .u8 x] 5)) 42 5 Tryd.underlying42 Tryd.underlying5 W.heap.size 0 1 1 [x] rfl
    (fun i hi => by obtain rfl : i = 0 := by omega
                    simp) 9 Tryd.underlying9
  exact h

set_option maxHeartbeats 800000 in
theorem refText_pos (n : Nat) (h0 : 1 ≤ n) (h1 : n ≤ 9223372036854775807) (w : World) :
    Calls Tryd.prog 15 #[.int .i64 n] w fun e w' => e = .returned (.string ⟨(Lib.itoa n).toArray⟩) ∧ Below w.heap.size w w' := by
  have hz : ((n : Int) == 0) = false := by simp; omega
  have hn : decide ((n : Int) < 0) = false := by simp
  go_enter Tryd.func15, Tryd.ntmps15
  go_wp2
  go_loopw [3, 4] (fun u t wr => ∃ (k : Nat) (acc : List UInt8), k ≤ n ∧ u = .int .u64 k ∧ t = .string ⟨acc.toArray⟩ ∧ dd k ++ acc = dd n ∧ Below w.heap.size w wr) (fun u _ _ => (intOf u).toNat)
  case atStart => exact ⟨n, [], Nat.le_refl _, rfl, rfl, by simp, Below.refl _ _⟩
  case round =>
    obtain ⟨k, acc, hk, rfl, rfl, hd, hb⟩ := hrel
    have HD := Lib.hid hd
    clear hd
    by_cases hk0 : 0 < k
    · have hconv := one_byte wr (48 + (k : Int) % 10)
      rw [digB_of k] at hconv
      have hl : acc.length ≤ 30 := dd_len n acc (by omega) HD.out
      go_wp2
      go_roundw
      case rel => exact ⟨k / 10, digB (k % 10) :: acc, by omega, by go_num, rfl, by have := HD.out; rw [dd_step k hk0] at this; simpa using this, hb.alloc hb.size _⟩
      case measure => simp [intOf]; omega
    · go_wp2
      go_ret
      exact ⟨ret_str (by
        have hd := HD.out
        rw [Lib.itoa_nonneg]
        simpa [dd, show k = 0 by omega, show ¬ n = 0 by omega] using hd), hb⟩

set_option maxHeartbeats 800000 in
theorem refText_neg (n : Nat) (h0 : 1 ≤ n) (h1 : n ≤ 9223372036854775808) (w : World) :
    Calls Tryd.prog 15 #[.int .i64 (-(n : Int))] w fun e w' => e = .returned (.string ⟨(Lib.itoa (-(n : Int))).toArray⟩) ∧ Below w.heap.size w w' := by
  have hz : ((-(n : Int)) == 0) = false := by simp; omega
  have hn : decide ((-(n : Int)) < 0) = true := by simp; omega
  have hn' : decide (0 < n) = true := by simp; omega
  have hw : IntKind.u64.wrap (-IntKind.u64.wrap (-(n : Int))) = n := by simp only [IntKind.wrap_u64]; omega
  go_enter Tryd.func15, Tryd.ntmps15
  go_wp2
  go_loopw [3, 4] (fun u t wr => ∃ (k : Nat) (acc : List UInt8), k ≤ n ∧ u = .int .u64 k ∧ t = .string ⟨acc.toArray⟩ ∧ dd k ++ acc = dd n ∧ Below w.heap.size w wr) (fun u _ _ => (intOf u).toNat)
  case atStart => exact ⟨n, [], Nat.le_refl _, rfl, rfl, by simp, Below.refl _ _⟩
  case round =>
    obtain ⟨k, acc, hk, rfl, rfl, hd, hb⟩ := hrel
    have HD := Lib.hid hd
    clear hd
    by_cases hk0 : 0 < k
    · have hconv := one_byte wr (48 + (k : Int) % 10)
      rw [digB_of k] at hconv
      have hl : acc.length ≤ 30 := dd_len n acc (by omega) HD.out
      go_wp2
      go_roundw
      case rel => exact ⟨k / 10, digB (k % 10) :: acc, by omega, by go_num, rfl, by have := HD.out; rw [dd_step k hk0] at this; simpa using this, hb.alloc hb.size _⟩
      case measure => simp [intOf]; omega
    · have hl : acc.length ≤ 30 := dd_len n acc (by omega) HD.out
      go_wp2
      go_ret
      exact ⟨ret_str' (by
        have hd := HD.out
        have : acc = Lib.decDigits n := by simpa [dd, show k = 0 by omega, show ¬ n = 0 by omega] using hd
        rw [Lib.itoa_neg n h0, this]
        rfl), hb⟩

theorem refText_zero (w : World) :
    Calls Tryd.prog 15 #[.int .i64 0] w fun e w' => e = .returned (.string ⟨(Lib.itoa 0).toArray⟩) ∧ Below w.heap.size w w' := by
  have h : Lib.itoa 0 = [48] := by decide +kernel
  rw [h]
  go_enter Tryd.func15, Tryd.ntmps15
  go_wp2
  go_ret
  exact ⟨rfl, Below.refl _ _⟩

theorem refText_any (n : Int) (h0 : -9223372036854775808 ≤ n) (h1 : n ≤ 9223372036854775807) (w : World) :
    Calls Tryd.prog 15 #[.int .i64 n] w fun e w' => e = .returned (.string ⟨(Lib.itoa n).toArray⟩) ∧ Below w.heap.size w w' := by
  by_cases hn : n < 0
  · obtain ⟨u, rfl⟩ : ∃ u : Nat, n = -(u : Int) := ⟨n.natAbs, by omega⟩
    exact refText_neg u (by omega) (by omega) w
  · obtain ⟨u, rfl⟩ : ∃ u : Nat, n = u := ⟨n.toNat, by omega⟩
    by_cases hz : u = 0
    · subst hz; exact refText_zero w
    · exact refText_pos u (by omega) (by omega) w
end Go.Proofs.YthipeocjgflfaaaDoor
