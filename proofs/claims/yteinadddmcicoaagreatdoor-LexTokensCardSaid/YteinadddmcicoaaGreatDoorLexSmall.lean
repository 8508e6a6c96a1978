/- Walks over layer 2's span, Word, Name, and the reference's run, Word, Name. -/
import Derived.Test.YteinadddmcicoaaGreatDoorLexBase
namespace Go.Proofs.YteinadddmcicoaaGreatDoor
open Go.RowKit Go.Shelf

theorem spanL_at (p : UInt8 → Bool) (s : ByteArray) (k : Nat) (h : k < s.size) : LexPlain.spanL p (s.data.toList.drop k) = if p s[k] then 1 + LexPlain.spanL p (s.data.toList.drop (k + 1)) else 0 := by
  unfold LexPlain.spanL
  rw [List.drop_eq_getElem_cons (by simpa using h), List.takeWhile_cons]
  have : s.data.toList[k]'(by simpa using h) = s[k] := rfl
  rw [this]
  split
  · simp; omega
  · rfl

set_option maxHeartbeats 800000 in
theorem span_part (s : ByteArray) (hs : s.size ≤ 9223372036854775807) (w : World) :
    Calls Tryz.prog 115 #[.string s, .func (.func 118) #[] #[]] w fun e w' => e = .returned (.int .i64 (LexPlain.spanL LexPlain.partB s.data.toList)) ∧ w = w' := by
  generalize hn : LexPlain.spanL LexPlain.partB s.data.toList = n
  have HN := Lib.hid hn
  clear hn
  go_enter Tryz.func115, Tryz.ntmps115
  go_wp2
  go_loop [5] (fun i => ∃ k : Nat, k ≤ s.size ∧ i = .int .i64 k ∧ n = k + LexPlain.spanL LexPlain.partB (s.data.toList.drop k)) (fun i => s.size - (intOf i).toNat)
  case atStart => exact ⟨0, by omega, rfl, by rw [← HN.out]; simp⟩
  case round =>
    obtain ⟨k, hk, rfl, hr⟩ := hrel
    have HR := Lib.hid hr
    clear hr
    by_cases hlt : k < s.size
    · have HA := Lib.hid (spanL_at LexPlain.partB s k hlt)
      cases hp : LexPlain.partB s[k] with
      | true =>
        have C := Lib.hid (part_any s[k])
        rw [hp] at C
        have HP := Lib.hid hp
        clear hp
        go_wp2_with (go_at_call 118; refine (C.out _).mono ?_; rintro e w1 ⟨rfl, rfl⟩)
        go_round
        case rel => exact ⟨k + 1, by omega, by go_num, by rw [HR.out, HA.out, if_pos HP.out]; omega⟩
        case measure => simp [intOf]; omega
      | false =>
        have C := Lib.hid (part_any s[k])
        rw [hp] at C
        have HP := Lib.hid hp
        clear hp
        go_wp2_with (go_at_call 118; refine (C.out _).mono ?_; rintro e w1 ⟨rfl, rfl⟩)
        go_ret
        exact ⟨ret_i64 (by have h1 := HR.out; rw [HA.out, if_neg (by rw [HP.out]; decide)] at h1; omega), rfl⟩
    · go_wp2
      go_ret
      exact ⟨ret_i64 (by have h1 := HR.out; rw [List.drop_eq_nil_of_le (by simp; omega)] at h1; simp [LexPlain.spanL] at h1; omega), rfl⟩

set_option maxHeartbeats 800000 in
theorem span_notLF (s : ByteArray) (hs : s.size ≤ 9223372036854775807) (w : World) :
    Calls Tryz.prog 115 #[.string s, .func (.func 116) #[] #[]] w fun e w' => e = .returned (.int .i64 (LexPlain.spanL LexPlain.notLF s.data.toList)) ∧ w = w' := by
  generalize hn : LexPlain.spanL LexPlain.notLF s.data.toList = n
  have HN := Lib.hid hn
  clear hn
  go_enter Tryz.func115, Tryz.ntmps115
  go_wp2
  go_loop [5] (fun i => ∃ k : Nat, k ≤ s.size ∧ i = .int .i64 k ∧ n = k + LexPlain.spanL LexPlain.notLF (s.data.toList.drop k)) (fun i => s.size - (intOf i).toNat)
  case atStart => exact ⟨0, by omega, rfl, by rw [← HN.out]; simp⟩
  case round =>
    obtain ⟨k, hk, rfl, hr⟩ := hrel
    have HR := Lib.hid hr
    clear hr
    by_cases hlt : k < s.size
    · have HA := Lib.hid (spanL_at LexPlain.notLF s k hlt)
      cases hp : LexPlain.notLF s[k] with
      | true =>
        have C := Lib.hid (notLF_any s[k])
        rw [hp] at C
        have HP := Lib.hid hp
        clear hp
        go_wp2_with (go_at_call 116; refine (C.out _).mono ?_; rintro e w1 ⟨rfl, rfl⟩)
        go_round
        case rel => exact ⟨k + 1, by omega, by go_num, by rw [HR.out, HA.out, if_pos HP.out]; omega⟩
        case measure => simp [intOf]; omega
      | false =>
        have C := Lib.hid (notLF_any s[k])
        rw [hp] at C
        have HP := Lib.hid hp
        clear hp
        go_wp2_with (go_at_call 116; refine (C.out _).mono ?_; rintro e w1 ⟨rfl, rfl⟩)
        go_ret
        exact ⟨ret_i64 (by have h1 := HR.out; rw [HA.out, if_neg (by rw [HP.out]; decide)] at h1; omega), rfl⟩
    · go_wp2
      go_ret
      exact ⟨ret_i64 (by have h1 := HR.out; rw [List.drop_eq_nil_of_le (by simp; omega)] at h1; simp [LexPlain.spanL] at h1; omega), rfl⟩

set_option maxHeartbeats 800000 in
theorem span_digit (s : ByteArray) (hs : s.size ≤ 9223372036854775807) (w : World) :
    Calls Tryz.prog 115 #[.string s, .func (.func 204) #[] #[]] w fun e w' => e = .returned (.int .i64 (LexPlain.spanL LexPlain.digitB s.data.toList)) ∧ w = w' := by
  generalize hn : LexPlain.spanL LexPlain.digitB s.data.toList = n
  have HN := Lib.hid hn
  clear hn
  go_enter Tryz.func115, Tryz.ntmps115
  go_wp2
  go_loop [5] (fun i => ∃ k : Nat, k ≤ s.size ∧ i = .int .i64 k ∧ n = k + LexPlain.spanL LexPlain.digitB (s.data.toList.drop k)) (fun i => s.size - (intOf i).toNat)
  case atStart => exact ⟨0, by omega, rfl, by rw [← HN.out]; simp⟩
  case round =>
    obtain ⟨k, hk, rfl, hr⟩ := hrel
    have HR := Lib.hid hr
    clear hr
    by_cases hlt : k < s.size
    · have HA := Lib.hid (spanL_at LexPlain.digitB s k hlt)
      cases hp : LexPlain.digitB s[k] with
      | true =>
        have C := Lib.hid (digitC_any s[k])
        rw [hp] at C
        have HP := Lib.hid hp
        clear hp
        go_wp2_with (go_at_call 204; refine (C.out _).mono ?_; rintro e w1 ⟨rfl, rfl⟩)
        go_round
        case rel => exact ⟨k + 1, by omega, by go_num, by rw [HR.out, HA.out, if_pos HP.out]; omega⟩
        case measure => simp [intOf]; omega
      | false =>
        have C := Lib.hid (digitC_any s[k])
        rw [hp] at C
        have HP := Lib.hid hp
        clear hp
        go_wp2_with (go_at_call 204; refine (C.out _).mono ?_; rintro e w1 ⟨rfl, rfl⟩)
        go_ret
        exact ⟨ret_i64 (by have h1 := HR.out; rw [HA.out, if_neg (by rw [HP.out]; decide)] at h1; omega), rfl⟩
    · go_wp2
      go_ret
      exact ⟨ret_i64 (by have h1 := HR.out; rw [List.drop_eq_nil_of_le (by simp; omega)] at h1; simp [LexPlain.spanL] at h1; omega), rfl⟩

end Go.Proofs.YteinadddmcicoaaGreatDoor
