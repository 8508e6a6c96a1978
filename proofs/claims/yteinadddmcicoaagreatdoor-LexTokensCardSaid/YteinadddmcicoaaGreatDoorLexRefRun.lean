/- Walks over the document's run, digits. -/
import Derived.Test.YteinadddmcicoaaGreatDoorLexRefName
import Derived.Test.YteinadddmcicoaaGreatDoorLexSmall
import Derived.Test.YteinadddmcicoaaGreatDoorLexRefNumP
import Derived.IntWalk
namespace Go.Proofs.YteinadddmcicoaaGreatDoor
open Go.RowKit Go.Shelf

set_option maxHeartbeats 1600000 in
theorem refRun_part (s : ByteArray) (hs : s.size ≤ 9223372036854775800) (w : World) :
    Calls Tryz.prog 126 #[.string s, .bool true] w fun e w' => e = .returned (.int .i64 (LexPlain.spanL LexPlain.partB s.data.toList)) ∧ w = w' := by
  generalize hn : LexPlain.spanL LexPlain.partB s.data.toList = n
  have HN := Lib.hid hn
  clear hn
  go_enter Tryz.func126, Tryz.ntmps126
  go_wp2
  go_loop [5] (fun i => ∃ k : Nat, k ≤ s.size ∧ i = .int .i64 k ∧ n = k + LexPlain.spanL LexPlain.partB (s.data.toList.drop k)) (fun i => s.size - (intOf i).toNat)
  case atStart => exact ⟨0, by omega, rfl, by rw [← HN.out]; simp⟩
  case round =>
    obtain ⟨k, hk, rfl, hr⟩ := hrel
    have HR := Lib.hid hr
    clear hr
    by_cases hlt : k < s.size
    · have HA := Lib.hid (spanL_at LexPlain.partB s k hlt)
      have C1 := Lib.hid (refDigit_any s[k])
      have C2 := Lib.hid (refPart_any s[k])
      cases hp : LexPlain.partB s[k] with
      | true =>
        rw [hp] at C2
        have HP := Lib.hid hp
        clear hp
        cases hd : LexPlain.digitB s[k] with
        | true =>
          rw [hd] at C1
          clear hd
          go_wp2_with (go_at_call 129; refine (C1.out _).mono ?_; rintro e w1 ⟨rfl, rfl⟩)
          go_round
          case rel => exact ⟨k + 1, by omega, by go_num, by rw [HR.out, HA.out, if_pos HP.out]; omega⟩
          case measure => simp [intOf]; omega
        | false =>
          rw [hd] at C1
          clear hd
          go_wp2_with (first | (go_at_call 129; refine (C1.out _).mono ?_; rintro e w1 ⟨rfl, rfl⟩) | (go_at_call 208; refine (C2.out _).mono ?_; rintro e w1 ⟨rfl, rfl⟩))
          go_round
          case rel => exact ⟨k + 1, by omega, by go_num, by rw [HR.out, HA.out, if_pos HP.out]; omega⟩
          case measure => simp [intOf]; omega
      | false =>
        have hd : LexPlain.digitB s[k] = false := by
          unfold LexPlain.partB at hp
          rw [Bool.or_eq_false_iff] at hp
          exact hp.2
        rw [hp] at C2
        rw [hd] at C1
        have HP := Lib.hid hp
        clear hp hd
        go_wp2_with (first | (go_at_call 129; refine (C1.out _).mono ?_; rintro e w1 ⟨rfl, rfl⟩) | (go_at_call 208; refine (C2.out _).mono ?_; rintro e w1 ⟨rfl, rfl⟩))
        go_ret
        exact ⟨ret_i64 (by have h1 := HR.out; rw [HA.out, if_neg (by rw [HP.out]; decide)] at h1; omega), rfl⟩
    · go_wp2
      go_ret
      exact ⟨ret_i64 (by have h1 := HR.out; rw [List.drop_eq_nil_of_le (by simp; omega)] at h1; simp [LexPlain.spanL] at h1; omega), rfl⟩

set_option maxHeartbeats 1600000 in
theorem refRun_digit (s : ByteArray) (hs : s.size ≤ 9223372036854775800) (w : World) :
    Calls Tryz.prog 126 #[.string s, .bool false] w fun e w' => e = .returned (.int .i64 (LexPlain.spanL LexPlain.digitB s.data.toList)) ∧ w = w' := by
  generalize hn : LexPlain.spanL LexPlain.digitB s.data.toList = n
  have HN := Lib.hid hn
  clear hn
  go_enter Tryz.func126, Tryz.ntmps126
  go_wp2
  go_loop [5] (fun i => ∃ k : Nat, k ≤ s.size ∧ i = .int .i64 k ∧ n = k + LexPlain.spanL LexPlain.digitB (s.data.toList.drop k)) (fun i => s.size - (intOf i).toNat)
  case atStart => exact ⟨0, by omega, rfl, by rw [← HN.out]; simp⟩
  case round =>
    obtain ⟨k, hk, rfl, hr⟩ := hrel
    have HR := Lib.hid hr
    clear hr
    by_cases hlt : k < s.size
    · have HA := Lib.hid (spanL_at LexPlain.digitB s k hlt)
      have C1 := Lib.hid (refDigit_any s[k])
      cases hp : LexPlain.digitB s[k] with
      | true =>
        rw [hp] at C1
        have HP := Lib.hid hp
        clear hp
        go_wp2_with (go_at_call 129; refine (C1.out _).mono ?_; rintro e w1 ⟨rfl, rfl⟩)
        go_round
        case rel => exact ⟨k + 1, by omega, by go_num, by rw [HR.out, HA.out, if_pos HP.out]; omega⟩
        case measure => simp [intOf]; omega
      | false =>
        rw [hp] at C1
        have HP := Lib.hid hp
        clear hp
        go_wp2_with (go_at_call 129; refine (C1.out _).mono ?_; rintro e w1 ⟨rfl, rfl⟩)
        go_ret
        exact ⟨ret_i64 (by have h1 := HR.out; rw [HA.out, if_neg (by rw [HP.out]; decide)] at h1; omega), rfl⟩
    · go_wp2
      go_ret
      exact ⟨ret_i64 (by have h1 := HR.out; rw [List.drop_eq_nil_of_le (by simp; omega)] at h1; simp [LexPlain.spanL] at h1; omega), rfl⟩
end Go.Proofs.YteinadddmcicoaaGreatDoor
