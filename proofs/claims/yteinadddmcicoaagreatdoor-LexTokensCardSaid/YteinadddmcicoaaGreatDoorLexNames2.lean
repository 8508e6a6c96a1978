/- Walks over layer 2's Name, and the reference's Word, Name. -/
import Derived.Test.YteinadddmcicoaaGreatDoorLexNames
namespace Go.Proofs.YteinadddmcicoaaGreatDoor
open Go.RowKit Go.Shelf

theorem all_span (p : UInt8 → Bool) : ∀ l : List UInt8, (LexPlain.spanL p l = l.length) ↔ l.all p = true
  | [] => by simp [LexPlain.spanL]
  | a :: l => by
    have ih := all_span p l
    have hle : (l.takeWhile p).length ≤ l.length := (List.takeWhile_sublist p).length_le
    unfold LexPlain.spanL at *
    simp only [List.takeWhile_cons, List.all_cons, Bool.and_eq_true]
    cases hp : p a with
    | true => simp only [if_true, List.length_cons, true_and, ← ih]; omega
    | false => simp

theorem name_eq (s : ByteArray) (h : 0 < s.size) : LexPlain.isName s.data.toList = (decide (s.size ≤ 24) && (LexPlain.headB s[0] && (decide (LexPlain.spanL LexPlain.partB s.data.toList = s.size) && !LexPlain.isWord s.data.toList))) := by
  have e : s.data.toList.length = s.size := Array.length_toList
  have hh : s.data.toList.head? = some s[0] := by
    rw [List.head?_eq_getElem?, List.getElem?_eq_getElem (by omega)]; rfl
  have hn : s.data.toList.isEmpty = false := by
    cases hl : s.data.toList with
    | nil => rw [hl] at e; simp at e; omega
    | cons a l => rfl
  have ha := all_span LexPlain.partB s.data.toList
  rw [e] at ha
  unfold LexPlain.isName
  rw [hh, hn, e]
  by_cases hp : LexPlain.spanL LexPlain.partB s.data.toList = s.size
  · rw [ha.1 hp]; simp [hp, Bool.and_assoc]
  · have : s.data.toList.all LexPlain.partB = false := by
      rw [← Bool.not_eq_true]; exact fun h => hp (ha.2 h)
    rw [this]; simp [hp]

set_option maxHeartbeats 1600000 in
theorem name_any (s : ByteArray) (hs : s.size ≤ 9223372036854775800) (w : World) (h : Has w) :
    Calls Tryz.prog 120 #[.string s] w fun e w' => e = .returned (.bool (LexPlain.isName s.data.toList)) ∧ w = w' := by
  by_cases h0 : s.size = 0
  · have z1 := ba_is_empty s h0
    have hf : LexPlain.isName s.data.toList = false := by rw [ba_empty s h0]; rfl
    rw [hf]
    clear hf
    go_enter Tryz.func120, Tryz.ntmps120
    go_wp2_with fail
    go_ret
    exact ⟨rfl, rfl⟩
  have z1 := ba_not_empty s h0
  have hpos : 0 < s.size := by omega
  have hn := name_eq s hpos
  generalize hx : LexPlain.isName s.data.toList = x
  rw [hx] at hn
  clear hx
  have C1 := Lib.hid (head_any s[0])
  have C2 := Lib.hid (span_part s (by omega))
  have C3 := Lib.hid (word_any s hs w h)
  generalize LexPlain.headB s[0] = b1 at C1 hn
  generalize LexPlain.isWord s.data.toList = b3 at C3 hn
  generalize LexPlain.spanL LexPlain.partB s.data.toList = k at C2 hn
  by_cases h24 : s.size ≤ 24
  · rw [decide_eq_true h24] at hn
    cases b1 with
    | false =>
      obtain rfl : x = false := by simpa using hn
      clear hn
      go_enter Tryz.func120, Tryz.ntmps120
      go_wp2_with (go_at_call 117; refine (C1.out _).mono ?_; rintro e w1 ⟨rfl, rfl⟩)
      go_ret
      exact ⟨rfl, rfl⟩
    | true =>
      by_cases hk : k = s.size
      · have e1 : ((k : Int) == (s.size : Int)) = true := by rw [beq_iff_eq]; omega
        rw [decide_eq_true hk] at hn
        have HN := Lib.hid hn
        clear hn hk
        go_enter Tryz.func120, Tryz.ntmps120
        go_wp2_with (first | (go_at_call 117; refine (C1.out _).mono ?_; rintro e w1 ⟨rfl, rfl⟩) | (go_at_call 115; refine (C2.out _).mono ?_; rintro e w1 ⟨rfl, rfl⟩) | (go_at_call 119; refine C3.out.mono ?_; rintro e w1 ⟨rfl, rfl⟩))
        go_ret
        exact ⟨ret_bool (by have := HN.out; simpa using this.symm), rfl⟩
      · have e1 : ((k : Int) == (s.size : Int)) = false := by rw [beq_eq_false_iff_ne]; omega
        rw [decide_eq_false hk] at hn
        obtain rfl : x = false := by simpa using hn
        clear hn hk
        go_enter Tryz.func120, Tryz.ntmps120
        go_wp2_with (first | (go_at_call 117; refine (C1.out _).mono ?_; rintro e w1 ⟨rfl, rfl⟩) | (go_at_call 115; refine (C2.out _).mono ?_; rintro e w1 ⟨rfl, rfl⟩))
        go_ret
        exact ⟨rfl, rfl⟩
  · obtain rfl : x = false := by rw [hn]; simp [h24]
    clear hn
    go_enter Tryz.func120, Tryz.ntmps120
    go_wp2_with fail
    go_ret
    exact ⟨rfl, rfl⟩

end Go.Proofs.YteinadddmcicoaaGreatDoor
