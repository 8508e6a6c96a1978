/- Walks over layer 2's scanner: next, where a token stands. (Printed by tools/gen-lexnext2.py.) -/
import Derived.Test.YteinadddmcicoaaGreatDoorLexNext
import Derived.Test.YteinadddmcicoaaGreatDoorLexNames2
import Derived.Test.YteinadddmcicoaaGreatDoorLexStep2
import Derived.Test.YteinadddmcicoaaGreatDoorLexSign
import Derived.Test.YteinadddmcicoaaGreatDoorLexText2
namespace Go.Proofs.YteinadddmcicoaaGreatDoor
open Go.RowKit Go.Shelf
open LexPlain (Tok)

theorem has_drew {B : Nat} {w : World} (h : HasB B w) : HasB B w.drew := h.next (Below.refl _ _).drew
theorem byte_at (s : ByteArray) (hpos : 0 < s.size) (p : UInt8 → Bool) (q : Bool) (h : p s[0] = q) : p (s[0]'hpos) = q := h
set_option maxHeartbeats 6400000 in
set_option maxRecDepth 100000 in
theorem next_number (B b : Nat) (s : ByteArray) (line : Nat) (ts : List Tok) (w : World) (h : Scan B b s line ts false w) (hB : B ≤ w.heap.size) (hl : line ≤ 1000000) (hs : s.size ≤ 1000000) (hts : ts.length ≤ 1000000) (hH : HasB B w) (hpos : 0 < s.size) (hnb : NoBlank s hpos)
    (hsl : ¬ (s[0].toNat = 47 ∧ ((s.data.toList.drop 1).head?.map (·.toNat)) = some 47))
    (hh : LexPlain.headB s[0] = false) (h36 : ¬ s[0].toNat = 36) (hd : LexPlain.digitB s[0] = true) :
    Calls Tryz.prog 10 #[.pointer (some ⟨b, 0, none⟩)] w fun e w' => e = .returned (.tuple #[]) ∧ After B b line s ts (LexPlain.step s.data.toList) w' ∧ Below B w w' := by
  have hz : s.data.toList.length = s.size := Array.length_toList
  obtain ⟨hlt, c0, c1, c3, f0, f1, f3⟩ := h.cells
  obtain ⟨n1, n2, n3, n4⟩ := hnb
  have C2 := Lib.hid (fun w => slash_pre s hpos w false (decide_eq_false hsl))
  have d10 : ((s[0].toNat : Int) == 10) = false := by rw [beq_eq_false_iff_ne]; omega
  have d32 : ((s[0].toNat : Int) == 32) = false := by rw [beq_eq_false_iff_ne]; omega
  have d9 : ((s[0].toNat : Int) == 9) = false := by rw [beq_eq_false_iff_ne]; omega
  have d13 : ((s[0].toNat : Int) == 13) = false := by rw [beq_eq_false_iff_ne]; omega
  have CH := Lib.hid (fun w => head_any s[0] w)
  rw [hh] at CH
  have hdd : 48 ≤ s[0].toNat ∧ s[0].toNat ≤ 57 := by unfold LexPlain.digitB at hd; simpa using hd
  have i1 : (48 : Int) ≤ (s[0].toNat : Int) := by omega
  have i2 : (s[0].toNat : Int) ≤ 57 := by omega
  have d36 : ((s[0].toNat : Int) == 36) = false := by rw [beq_eq_false_iff_ne]; omega
  have hst : LexPlain.step s.data.toList = match LexPlain.numOf (s.data.toList.take (LexPlain.spanL LexPlain.digitB s.data.toList)) with
      | some v => some (some (4, s.data.toList.take (LexPlain.spanL LexPlain.digitB s.data.toList), wrap64 v), LexPlain.spanL LexPlain.digitB s.data.toList, 0)
      | none => none := by
    have h := LexPlain.step_digit s[0] (s.data.toList.drop 1) n1 (by omega) hsl hh h36 hd
    rw [← head_cons s hpos] at h
    exact h
  have CN : Hid (Calls Tryz.prog 122 #[.pointer (some ⟨b, 0, none⟩)] w fun e w' => e = .returned (.tuple #[]) ∧ After B b line s ts (LexPlain.step s.data.toList) w' ∧ Below B w w') := Lib.hid (by
    rw [hst]
    generalize hn : LexPlain.spanL LexPlain.digitB s.data.toList = n
    have hno : LexPlain.numOf (s.data.toList.take n) = match Lib.parseUintB 64 (s.data.toList.take n) with
      | .ok v => if v ≤ 9223372036854775808 ∧ Lib.decDigits v = s.data.toList.take n then some v else none
      | _ => none := rfl
    rcases hp : Lib.parseUintB 64 (s.data.toList.take n) with v | _ | _ <;> rw [hp] at hno <;> simp only at hno
    · by_cases hbig : 9223372036854775808 < v
      · rw [if_neg (by omega)] at hno
        rw [hno]
        exact (number_big B b s line ts w h hB hl hs hts hH n hn v hp hbig).mono fun e w' ⟨a1, a2, a3⟩ => ⟨a1, a2, a3⟩
      · by_cases hq : Lib.decDigits v = s.data.toList.take n
        · rw [if_pos ⟨by omega, hq⟩] at hno
          rw [hno]
          exact (number_fit B b s line ts w h hB hl hs hts hH n hn v hp hbig true (decide_eq_true hq)).mono fun e w' ⟨a1, a2, a3⟩ => ⟨a1, a2, a3⟩
        · rw [if_neg (fun hh => hq hh.2)] at hno
          rw [hno]
          exact (number_fit B b s line ts w h hB hl hs hts hH n hn v hp hbig false (decide_eq_false hq)).mono fun e w' ⟨a1, a2, a3⟩ => ⟨a1, ⟨_, _, a2⟩, a3⟩
    · rw [hno]
      exact (number_nan B b s line ts w h hB hl hs hts hH n hn (fun v hv => by rw [hp] at hv; cases hv)).mono fun e w' ⟨a1, a2, a3⟩ => ⟨a1, a2, a3⟩
    · rw [hno]
      exact (number_nan B b s line ts w h hB hl hs hts hH n hn (fun v hv => by rw [hp] at hv; cases hv)).mono fun e w' ⟨a1, a2, a3⟩ => ⟨a1, a2, a3⟩)
  clear h hst hsl n1 n2 n3 n4 hh h36 hd hdd
  go_enter Tryz.func10, Tryz.ntmps10
  go_wp2_with fail
  refine (C2.out _).mono ?_
  rintro e w1 ⟨rfl, rfl⟩
  go_wp2_with fail
  refine (CH.out _).mono ?_
  rintro e w1 ⟨rfl, rfl⟩
  go_wp2_with fail
  refine CN.out.mono ?_
  rintro e w1 ⟨rfl, a2, a3⟩
  go_wp2_with fail
  go_returns
  exact ⟨rfl, a2, a3⟩

set_option maxHeartbeats 6400000 in
set_option maxRecDepth 100000 in
theorem next_text (B b : Nat) (s : ByteArray) (line : Nat) (ts : List Tok) (w : World) (h : Scan B b s line ts false w) (hB : B ≤ w.heap.size) (hl : line ≤ 1000000) (hs : s.size ≤ 1000000) (hts : ts.length ≤ 1000000) (hH : HasB B w) (hpos : 0 < s.size) (hnb : NoBlank s hpos)
    (hsl : ¬ (s[0].toNat = 47 ∧ ((s.data.toList.drop 1).head?.map (·.toNat)) = some 47))
    (hh : LexPlain.headB s[0] = false) (h39 : s[0].toNat = 39) :
    Calls Tryz.prog 10 #[.pointer (some ⟨b, 0, none⟩)] w fun e w' => e = .returned (.tuple #[]) ∧ After B b line s ts (LexPlain.step s.data.toList) w' ∧ Below B w w' := by
  have hz : s.data.toList.length = s.size := Array.length_toList
  obtain ⟨hlt, c0, c1, c3, f0, f1, f3⟩ := h.cells
  obtain ⟨n1, n2, n3, n4⟩ := hnb
  have C2 := Lib.hid (fun w => slash_pre s hpos w false (decide_eq_false hsl))
  have d10 : ((s[0].toNat : Int) == 10) = false := by rw [beq_eq_false_iff_ne]; omega
  have d32 : ((s[0].toNat : Int) == 32) = false := by rw [beq_eq_false_iff_ne]; omega
  have d9 : ((s[0].toNat : Int) == 9) = false := by rw [beq_eq_false_iff_ne]; omega
  have d13 : ((s[0].toNat : Int) == 13) = false := by rw [beq_eq_false_iff_ne]; omega
  have CH := Lib.hid (fun w => head_any s[0] w)
  rw [hh] at CH
  have d36 : ((s[0].toNat : Int) == 36) = false := by rw [beq_eq_false_iff_ne]; omega
  have d39 : ((s[0].toNat : Int) == 39) = true := by rw [beq_iff_eq]; omega
  have i1 : (s[0].toNat : Int) < 48 := by omega
  have hd : LexPlain.digitB s[0] = false := by unfold LexPlain.digitB; simp; omega
  have hst : LexPlain.step s.data.toList = match LexPlain.textL (s.data.toList.drop 1) with
      | some (bs, m) => some (some (5, bs, 0), 1 + m, 0)
      | none => none := by
    have h := LexPlain.step_text s[0] (s.data.toList.drop 1) n1 (by omega) hsl hh (by omega) hd h39
    rw [← head_cons s hpos] at h
    exact h
  have CN : Hid (Calls Tryz.prog 123 #[.pointer (some ⟨b, 0, none⟩)] w fun e w' => e = .returned (.tuple #[]) ∧ After B b line s ts (LexPlain.step s.data.toList) w' ∧ Below B w w') := Lib.hid (by
    rw [hst]
    refine (text_any B b s line ts w h hB hl hs (by omega) hts hH).mono fun e w' ⟨a1, a2, a3⟩ => ⟨a1, ?_, a3⟩
    generalize LexPlain.textL (s.data.toList.drop 1) = o at a2
    cases o with
    | none => exact a2
    | some x => exact a2)
  clear h hst hsl n1 n2 n3 n4 hh hd h39
  go_enter Tryz.func10, Tryz.ntmps10
  go_wp2_with fail
  refine (C2.out _).mono ?_
  rintro e w1 ⟨rfl, rfl⟩
  go_wp2_with fail
  refine (CH.out _).mono ?_
  rintro e w1 ⟨rfl, rfl⟩
  go_wp2_with fail
  refine CN.out.mono ?_
  rintro e w1 ⟨rfl, a2, a3⟩
  go_wp2_with fail
  go_returns
  exact ⟨rfl, a2, a3⟩

set_option maxHeartbeats 6400000 in
set_option maxRecDepth 100000 in
theorem next_sign (B b : Nat) (s : ByteArray) (line : Nat) (ts : List Tok) (w : World) (h : Scan B b s line ts false w) (hB : B ≤ w.heap.size) (hl : line ≤ 1000000) (hs : s.size ≤ 1000000) (hts : ts.length ≤ 1000000) (hH : HasB B w) (hpos : 0 < s.size) (hnb : NoBlank s hpos)
    (hsl : ¬ (s[0].toNat = 47 ∧ ((s.data.toList.drop 1).head?.map (·.toNat)) = some 47))
    (hh : LexPlain.headB s[0] = false) (h36 : ¬ s[0].toNat = 36) (hd : LexPlain.digitB s[0] = false) (h39 : ¬ s[0].toNat = 39) :
    Calls Tryz.prog 10 #[.pointer (some ⟨b, 0, none⟩)] w fun e w' => e = .returned (.tuple #[]) ∧ After B b line s ts (LexPlain.step s.data.toList) w' ∧ Below B w w' := by
  have hz : s.data.toList.length = s.size := Array.length_toList
  obtain ⟨hlt, c0, c1, c3, f0, f1, f3⟩ := h.cells
  obtain ⟨n1, n2, n3, n4⟩ := hnb
  have C2 := Lib.hid (fun w => slash_pre s hpos w false (decide_eq_false hsl))
  have d10 : ((s[0].toNat : Int) == 10) = false := by rw [beq_eq_false_iff_ne]; omega
  have d32 : ((s[0].toNat : Int) == 32) = false := by rw [beq_eq_false_iff_ne]; omega
  have d9 : ((s[0].toNat : Int) == 9) = false := by rw [beq_eq_false_iff_ne]; omega
  have d13 : ((s[0].toNat : Int) == 13) = false := by rw [beq_eq_false_iff_ne]; omega
  have CH := Lib.hid (fun w => head_any s[0] w)
  rw [hh] at CH
  have d36 : ((s[0].toNat : Int) == 36) = false := by rw [beq_eq_false_iff_ne]; omega
  have d39 : ((s[0].toNat : Int) == 39) = false := by rw [beq_eq_false_iff_ne]; omega
  have hdd : ¬ (48 ≤ s[0].toNat ∧ s[0].toNat ≤ 57) := by unfold LexPlain.digitB at hd; simpa using hd
  have hst : LexPlain.step s.data.toList = if LexPlain.signL s.data.toList = 0 then none else some (some (6, s.data.toList.take (LexPlain.signL s.data.toList), 0), LexPlain.signL s.data.toList, 0) := by
    have h := LexPlain.step_sign s[0] (s.data.toList.drop 1) n1 (by omega) hsl hh h36 hd h39
    rw [← head_cons s hpos] at h
    exact h
  have CN : Hid (Calls Tryz.prog 124 #[.pointer (some ⟨b, 0, none⟩)] w fun e w' => e = .returned (.tuple #[]) ∧ After B b line s ts (LexPlain.step s.data.toList) w' ∧ Below B w w') := Lib.hid (by
    rw [hst]
    refine (sign_any B b s line ts w h hB hl hs hts hH).mono fun e w' ⟨a1, a2, a3⟩ => ⟨a1, ?_, a3⟩
    generalize LexPlain.signL s.data.toList = o at a2
    by_cases ho : o = 0
    · rw [if_pos ho]; exact a2.1 ho
    · rw [if_neg ho]; exact a2.2 ho)
  clear h hst hsl n1 n2 n3 n4 hh hd h36 h39
  by_cases i1 : (48 : Int) ≤ (s[0].toNat : Int)
  · have i2 : ¬ (s[0].toNat : Int) ≤ 57 := by omega
    clear hdd
    go_enter Tryz.func10, Tryz.ntmps10
    go_wp2_with fail
    refine (C2.out _).mono ?_
    rintro e w1 ⟨rfl, rfl⟩
    go_wp2_with fail
    refine (CH.out _).mono ?_
    rintro e w1 ⟨rfl, rfl⟩
    go_wp2_with fail
    refine CN.out.mono ?_
    rintro e w1 ⟨rfl, a2, a3⟩
    go_wp2_with fail
    go_returns
    exact ⟨rfl, a2, a3⟩
  · clear hdd
    go_enter Tryz.func10, Tryz.ntmps10
    go_wp2_with fail
    refine (C2.out _).mono ?_
    rintro e w1 ⟨rfl, rfl⟩
    go_wp2_with fail
    refine (CH.out _).mono ?_
    rintro e w1 ⟨rfl, rfl⟩
    go_wp2_with fail
    refine CN.out.mono ?_
    rintro e w1 ⟨rfl, a2, a3⟩
    go_wp2_with fail
    go_returns
    exact ⟨rfl, a2, a3⟩

end Go.Proofs.YteinadddmcicoaaGreatDoor
