/- Walks over layer 2's scanner: next, at a name and at a variable. (Printed by tools/gen-lexnext3.py.) -/
import Derived.Test.YteinadddmcicoaaGreatDoorLexNext
import Derived.Test.YteinadddmcicoaaGreatDoorLexNames2
import Derived.Test.YteinadddmcicoaaGreatDoorLexStep2
namespace Go.Proofs.YteinadddmcicoaaGreatDoor
open Go.RowKit Go.Shelf
open LexPlain (Tok)

set_option maxHeartbeats 6400000 in
set_option maxRecDepth 100000 in
theorem next_dollar (B b : Nat) (s : ByteArray) (line : Nat) (ts : List Tok) (w : World) (h : Scan B b s line ts false w) (hB : B ≤ w.heap.size) (hl : line ≤ 1000000) (hs : s.size ≤ 1000000) (hts : ts.length ≤ 1000000) (hH : HasB B w) (hpos : 0 < s.size) (hnb : NoBlank s hpos)
    (hsl : ¬ (s[0].toNat = 47 ∧ ((s.data.toList.drop 1).head?.map (·.toNat)) = some 47))
    (hh : LexPlain.headB s[0] = false) (h36 : s[0].toNat = 36) :
    Calls Tryz.prog 10 #[.pointer (some ⟨b, 0, none⟩)] w fun e w' => e = .returned (.tuple #[]) ∧ After B b line s ts (LexPlain.step s.data.toList) w' ∧ Below B w w' := by
  have hz : s.data.toList.length = s.size := Array.length_toList
  obtain ⟨hlt, c0, c1, c3, f0, f1, f3⟩ := h.cells
  obtain ⟨n1, n2, n3, n4⟩ := hnb
  have C2 := Lib.hid (fun w => slash_pre s hpos w false (decide_eq_false hsl))
  have d10 : ((s[0].toNat : Int) == 10) = false := by rw [beq_eq_false_iff_ne]; omega
  have d32 : ((s[0].toNat : Int) == 32) = false := by rw [beq_eq_false_iff_ne]; omega
  have d9 : ((s[0].toNat : Int) == 9) = false := by rw [beq_eq_false_iff_ne]; omega
  have d13 : ((s[0].toNat : Int) == 13) = false := by rw [beq_eq_false_iff_ne]; omega
  have CH := Lib.hid (fun w => head_any s[0] w)
  rw [hh] at CH
  have d36 : ((s[0].toNat : Int) == 36) = true := by rw [beq_iff_eq]; omega
  have hst : LexPlain.step s.data.toList = if LexPlain.isName ((s.data.toList.drop 1).take (LexPlain.spanL LexPlain.partB (s.data.toList.drop 1))) then some (some (3, (s.data.toList.drop 1).take (LexPlain.spanL LexPlain.partB (s.data.toList.drop 1)), 0), 1 + LexPlain.spanL LexPlain.partB (s.data.toList.drop 1), 0) else none := by
    have h := LexPlain.step_dollar s[0] (s.data.toList.drop 1) n1 (by omega) hsl hh h36
    rw [← head_cons s hpos] at h
    exact h
  have C1 := Lib.hid (fun w => span_part (s.extract 1 s.size) (by rw [ByteArray.size_extract]; omega) w)
  rw [rest_extract] at C1
  have hle := LexPlain.spanL_le LexPlain.partB (s.data.toList.drop 1)
  rw [List.length_drop, hz] at hle
  generalize LexPlain.spanL LexPlain.partB (s.data.toList.drop 1) = n at hst C1 hle
  have hse : (s.extract 1 (1 + n)).data.toList = (s.data.toList.drop 1).take n := by
    simp only [ByteArray.data_extract, Array.toList_extract, List.extract_eq_take_drop]; congr 1; omega
  have C3 := Lib.hid (fun w hw => name_any (s.extract 1 (1 + n)) (by rw [ByteArray.size_extract]; omega) w hw)
  rw [hse] at C3
  have HE := Lib.hid hse
  generalize LexPlain.isName ((s.data.toList.drop 1).take n) = q at hst C3
  have HST := Lib.hid hst
  have HS := Lib.hid h
  have i0 : 1 + n ≤ s.size := by omega
  have i1 : (1 : Int) + (n : Int) ≤ (s.size : Int) := by omega
  clear h hst hsl n1 n2 n3 n4 hh h36 hse
  go_enter Tryz.func10, Tryz.ntmps10
  go_wp2_with fail
  refine (C2.out _).mono ?_
  rintro e w1 ⟨rfl, rfl⟩
  go_wp2_with fail
  refine (CH.out _).mono ?_
  rintro e w1 ⟨rfl, rfl⟩
  go_wp2_with fail
  refine (C1.out _).mono ?_
  rintro e w1 ⟨rfl, rfl⟩
  go_wp2_with fail
  refine (C3.out _ hH.has).mono ?_
  rintro e w1 ⟨rfl, rfl⟩
  go_wp2_with fail
  refine (put_any B b s line ts (!q) _ (HS.out.setBad _) (by simp; exact hB) hl _ 3 (by rfl) (s.extract 1 (1 + n)) _ _ _ (1 + n) (by first | rfl | (simp; done)) i0 hs hts).mono ?_
  rintro e w3 ⟨rfl, hsc, hb3⟩
  go_wp2_with fail
  go_returns
  refine ⟨rfl, ?_, ((Below.refl B w).setCell (p := ⟨b, 3, none⟩) HS.out.hB _).trans hb3⟩
  rw [HE.out] at hsc
  cases q with
  | true => exact after_tok HST.out hsc
  | false => exact after_none HST.out ⟨_, _, hsc⟩

set_option maxHeartbeats 6400000 in
set_option maxRecDepth 100000 in
theorem next_word (B b : Nat) (s : ByteArray) (line : Nat) (ts : List Tok) (w : World) (h : Scan B b s line ts false w) (hB : B ≤ w.heap.size) (hl : line ≤ 1000000) (hs : s.size ≤ 1000000) (hts : ts.length ≤ 1000000) (hH : HasB B w) (hpos : 0 < s.size) (hnb : NoBlank s hpos)
    (hsl : ¬ (s[0].toNat = 47 ∧ ((s.data.toList.drop 1).head?.map (·.toNat)) = some 47))
    (hh : LexPlain.headB s[0] = true) :
    Calls Tryz.prog 10 #[.pointer (some ⟨b, 0, none⟩)] w fun e w' => e = .returned (.tuple #[]) ∧ After B b line s ts (LexPlain.step s.data.toList) w' ∧ Below B w w' := by
  have hz : s.data.toList.length = s.size := Array.length_toList
  obtain ⟨hlt, c0, c1, c3, f0, f1, f3⟩ := h.cells
  obtain ⟨n1, n2, n3, n4⟩ := hnb
  have C2 := Lib.hid (fun w => slash_pre s hpos w false (decide_eq_false hsl))
  have d10 : ((s[0].toNat : Int) == 10) = false := by rw [beq_eq_false_iff_ne]; omega
  have d32 : ((s[0].toNat : Int) == 32) = false := by rw [beq_eq_false_iff_ne]; omega
  have d9 : ((s[0].toNat : Int) == 9) = false := by rw [beq_eq_false_iff_ne]; omega
  have d13 : ((s[0].toNat : Int) == 13) = false := by rw [beq_eq_false_iff_ne]; omega
  have CH := Lib.hid (fun w => head_any s[0] w)
  rw [hh] at CH
  have hst : LexPlain.step s.data.toList = if LexPlain.isWord (s.data.toList.take (LexPlain.spanL LexPlain.partB s.data.toList)) then some (some (2, s.data.toList.take (LexPlain.spanL LexPlain.partB s.data.toList), 0), LexPlain.spanL LexPlain.partB s.data.toList, 0)
      else if LexPlain.isName (s.data.toList.take (LexPlain.spanL LexPlain.partB s.data.toList)) then some (some (1, s.data.toList.take (LexPlain.spanL LexPlain.partB s.data.toList), 0), LexPlain.spanL LexPlain.partB s.data.toList, 0) else none := by
    have h := LexPlain.step_head s[0] (s.data.toList.drop 1) n1 (by omega) hsl hh
    rw [← head_cons s hpos] at h
    exact h
  have C1 := Lib.hid (fun w => span_part s (by omega) w)
  have hle := LexPlain.spanL_le LexPlain.partB s.data.toList
  rw [hz] at hle
  generalize LexPlain.spanL LexPlain.partB s.data.toList = n at hst C1 hle
  have CW := Lib.hid (fun w hw => word_any (s.extract 0 n) (by rw [ByteArray.size_extract]; omega) w hw)
  have CM := Lib.hid (fun w hw => name_any (s.extract 0 n) (by rw [ByteArray.size_extract]; omega) w hw)
  rw [take_extract] at CW CM
  have i1 : (n : Int) ≤ (s.size : Int) := by omega
  have HS := Lib.hid h
  have hbs : b ≠ w.heap.size := by omega
  have hbs' : w.heap.size ≠ b := by omega
  clear h hsl n1 n2 n3 n4 hh
  cases hw : LexPlain.isWord (s.data.toList.take n) with
  | true =>
    rw [hw] at CW hst
    rw [if_pos rfl] at hst
    have HST := Lib.hid hst
    clear hst CM hw
    go_enter Tryz.func10, Tryz.ntmps10
    go_wp2_with fail
    refine (C2.out _).mono ?_
    rintro e w1 ⟨rfl, rfl⟩
    go_wp2_with fail
    refine (CH.out _).mono ?_
    rintro e w1 ⟨rfl, rfl⟩
    go_wp2_with fail
    refine (C1.out _).mono ?_
    rintro e w1 ⟨rfl, rfl⟩
    go_wp2_with fail
    refine (CW.out _ (by exact (hH.next (by first | exact ((Below.refl B w).alloc hB _).setCell (p := ⟨w.heap.size, 0, none⟩) hB _ | exact ((Below.refl B w).alloc hB _))).has)).mono ?_
    rintro e w1 ⟨rfl, rfl⟩
    go_wp2_with fail
    refine (put_any B b s line ts false _ ((HS.out.setBad false).below ((Below.refl _ _).alloc (Nat.le_refl _) _)) (by simp; omega) hl _ 2 (by rfl) (s.extract 0 n) _ _ _ n (by rfl) hle hs hts).mono ?_
    rintro e w3 ⟨rfl, hsc, hb3⟩
    go_wp2_with fail
    go_returns
    rw [take_extract] at hsc
    exact ⟨rfl, after_tok HST.out hsc, (((Below.refl B w).setCell (p := ⟨b, 3, none⟩) HS.out.hB _).alloc (by simpa using hB) _).trans hb3⟩
  | false =>
    rw [hw] at CW hst
    rw [if_neg (by decide)] at hst
    generalize LexPlain.isName (s.data.toList.take n) = q at CM hst
    have HST := Lib.hid hst
    clear hst hw
    go_enter Tryz.func10, Tryz.ntmps10
    go_wp2_with fail
    refine (C2.out _).mono ?_
    rintro e w1 ⟨rfl, rfl⟩
    go_wp2_with fail
    refine (CH.out _).mono ?_
    rintro e w1 ⟨rfl, rfl⟩
    go_wp2_with fail
    refine (C1.out _).mono ?_
    rintro e w1 ⟨rfl, rfl⟩
    go_wp2_with fail
    refine (CW.out _ (by exact (hH.next (by first | exact ((Below.refl B w).alloc hB _).setCell (p := ⟨w.heap.size, 0, none⟩) hB _ | exact ((Below.refl B w).alloc hB _))).has)).mono ?_
    rintro e w1 ⟨rfl, rfl⟩
    go_wp2_with fail
    refine (CM.out _ (by exact (hH.next (by first | exact ((Below.refl B w).alloc hB _).setCell (p := ⟨w.heap.size, 0, none⟩) hB _ | exact ((Below.refl B w).alloc hB _))).has)).mono ?_
    rintro e w1 ⟨rfl, rfl⟩
    go_wp2_with fail
    refine (put_any B b s line ts (!q) _ (by first | exact ((HS.out.setBad (!q)).below ((Below.refl _ _).alloc (Nat.le_refl _) _)) | exact ((HS.out.below ((Below.refl _ _).alloc (Nat.le_refl _) _)).setBad (!q))) (by simp; omega) hl _ 1 (by rfl) (s.extract 0 n) _ _ _ n (by rfl) hle hs hts).mono ?_
    rintro e w3 ⟨rfl, hsc, hb3⟩
    go_wp2_with fail
    go_returns
    rw [take_extract] at hsc
    refine ⟨rfl, ?_, Below.trans (by first | exact (((Below.refl B w).setCell (p := ⟨b, 3, none⟩) HS.out.hB _).alloc (by simpa using hB) _) | exact (((Below.refl B w).alloc hB _).setCell (p := ⟨b, 3, none⟩) HS.out.hB _)) hb3⟩
    cases q with
    | true => exact after_tok HST.out hsc
    | false => exact after_none HST.out ⟨_, _, hsc⟩

end Go.Proofs.YteinadddmcicoaaGreatDoor
