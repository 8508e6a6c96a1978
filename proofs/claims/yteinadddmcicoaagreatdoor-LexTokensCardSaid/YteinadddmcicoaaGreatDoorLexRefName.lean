/- Walks over the reference's Name and Feeds. -/
import Derived.Test.YteinadddmcicoaaGreatDoorLexRefWord
namespace Go.Proofs.YteinadddmcicoaaGreatDoor
open Go.RowKit Go.Shelf

theorem take_all (p : UInt8 → Bool) (s : ByteArray) (k : Nat) (h : k < s.size) : (s.data.toList.take (k + 1)).all p = ((s.data.toList.take k).all p && p s[k]) := by
  have e : s.data.toList.length = s.size := Array.length_toList
  rw [List.take_succ_eq_append_getElem (by omega), List.all_append]
  have e2 : s.data.toList[k]'(by omega) = s[k] := rfl
  rw [e2]; simp

theorem name_false_of_part (s : ByteArray) (k : Nat) (h : k < s.size) (hp : LexPlain.partB s[k] = false) : LexPlain.isName s.data.toList = false := by
  have e : s.data.toList.length = s.size := Array.length_toList
  have : s.data.toList.all LexPlain.partB = false := by
    rw [List.all_eq_false]
    exact ⟨s[k], List.mem_of_getElem (i := k) (h := by omega) rfl, by rw [hp]; decide⟩
  unfold LexPlain.isName
  rw [this]; simp

theorem isName_of (s : ByteArray) (h : 0 < s.size) : LexPlain.isName s.data.toList = (decide (s.size ≤ 24) && (LexPlain.headB s[0] && (s.data.toList.all LexPlain.partB && !LexPlain.isWord s.data.toList))) := by
  rw [name_eq s h]
  have e : s.data.toList.length = s.size := Array.length_toList
  have ha := all_span LexPlain.partB s.data.toList
  rw [e] at ha
  by_cases hp : LexPlain.spanL LexPlain.partB s.data.toList = s.size
  · rw [ha.1 hp, decide_eq_true hp]
  · have : s.data.toList.all LexPlain.partB = false := by
      rw [← Bool.not_eq_true]; exact fun h => hp (ha.2 h)
    rw [this, decide_eq_false hp]

set_option maxHeartbeats 1600000 in
theorem refName_any (s : ByteArray) (w : World) :
    Calls Tryz.prog 128 #[.string s] w fun e w' => e = .returned (.bool (LexPlain.isName s.data.toList)) ∧ w = w' := by
  by_cases h0 : s.size = 0
  · have hf : LexPlain.isName s.data.toList = false := by rw [ba_empty s h0]; rfl
    rw [hf]
    clear hf
    have z1 : decide ((s.size : Int) < 1) = true := by simp; omega
    have Z := Lib.hid h0
    clear h0
    go_enter Tryz.func128, Tryz.ntmps128
    go_wp2_with fail
    all_goals (go_ret; exact ⟨rfl, rfl⟩)
  have hpos : 0 < s.size := by omega
  have hn := isName_of s hpos
  have hq := name_false_of_part s
  generalize hx : LexPlain.isName s.data.toList = x at hq
  rw [hx] at hn
  clear hx
  have HQ := Lib.hid hq
  clear hq
  have C1 := Lib.hid (refHead_any s[0])
  have C3 := Lib.hid (refWord_any s)
  generalize LexPlain.headB s[0] = b1 at C1 hn
  generalize LexPlain.isWord s.data.toList = b3 at C3 hn
  have z0 : decide ((s.size : Int) < 1) = false := by simp; omega
  by_cases h24 : s.size ≤ 24
  · have z1 : decide (24 < (s.size : Int)) = false := by simp; omega
    rw [decide_eq_true h24] at hn
    cases b1 with
    | false =>
      obtain rfl : x = false := by simpa using hn
      clear hn
      go_enter Tryz.func128, Tryz.ntmps128
      go_wp2_with (go_at_call 125; refine (C1.out _).mono ?_; rintro e w1 ⟨rfl, rfl⟩)
      go_ret
      exact ⟨rfl, rfl⟩
    | true =>
      cases b3 with
      | true =>
        obtain rfl : x = false := by simpa using hn
        clear hn
        go_enter Tryz.func128, Tryz.ntmps128
        go_wp2_with (first | (go_at_call 125; refine (C1.out _).mono ?_; rintro e w1 ⟨rfl, rfl⟩) | (go_at_call 127; refine (C3.out _).mono ?_; rintro e w1 ⟨rfl, rfl⟩))
        go_ret
        exact ⟨rfl, rfl⟩
      | false =>
        have HN := Lib.hid hn
        clear hn
        go_enter Tryz.func128, Tryz.ntmps128
        go_wp2_with (first | (go_at_call 125; refine (C1.out _).mono ?_; rintro e w1 ⟨rfl, rfl⟩) | (go_at_call 127; refine (C3.out _).mono ?_; rintro e w1 ⟨rfl, rfl⟩))
        go_loop [3] (fun i => ∃ k : Nat, k ≤ s.size ∧ i = .int .i64 k ∧ (s.data.toList.take k).all LexPlain.partB = true) (fun i => s.size - (intOf i).toNat)
        case atStart => exact ⟨0, by omega, rfl, by simp⟩
        case round =>
          obtain ⟨k, hk, rfl, hr⟩ := hrel
          have HR := Lib.hid hr
          clear hr
          by_cases hlt : k < s.size
          · have HA := Lib.hid (take_all LexPlain.partB s k hlt)
            cases hp : LexPlain.partB s[k] with
            | true =>
              have C := Lib.hid (refPart_any s[k])
              rw [hp] at C
              have HP := Lib.hid hp
              clear hp
              go_wp2_with (go_at_call 208; refine (C.out _).mono ?_; rintro e w1 ⟨rfl, rfl⟩)
              go_round
              case rel => exact ⟨k + 1, by omega, by go_num, by rw [HA.out, HR.out, HP.out]; rfl⟩
              case measure => simp [intOf]; omega
            | false =>
              have C := Lib.hid (refPart_any s[k])
              rw [hp] at C
              have HX := Lib.hid (HQ.out k hlt hp)
              clear hp
              go_wp2_with (go_at_call 208; refine (C.out _).mono ?_; rintro e w1 ⟨rfl, rfl⟩)
              go_ret
              exact ⟨ret_bool HX.out.symm, rfl⟩
          · have HX : Hid (x = true) := Lib.hid (by
              have h1 := HR.out
              have h2 := HN.out
              rw [List.take_of_length_le (by simp; omega)] at h1
              rw [h2, h1]; rfl)
            go_wp2
            go_ret
            exact ⟨ret_bool HX.out.symm, rfl⟩
  · have z1 : decide (24 < (s.size : Int)) = true := by simp; omega
    obtain rfl : x = false := by rw [hn]; simp [h24]
    clear hn h24
    go_enter Tryz.func128, Tryz.ntmps128
    go_wp2_with fail
    go_ret
    exact ⟨rfl, rfl⟩
end Go.Proofs.YteinadddmcicoaaGreatDoor
