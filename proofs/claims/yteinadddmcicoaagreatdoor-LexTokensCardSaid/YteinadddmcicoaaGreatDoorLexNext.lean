/- Walks over layer 2's scanner: next, where no other method is called but put. -/
import Derived.Test.YteinadddmcicoaaGreatDoorLexNumber
import Derived.Deep.RegionHeld3
namespace Go.Proofs.YteinadddmcicoaaGreatDoor
open Go.RowKit Go.Shelf
open LexPlain (Tok)

/-- How the scanner stands behind one step. -/
def After (B b line : Nat) (s : ByteArray) (ts : List Tok) (o : Option (Option (Nat × List UInt8 × Int) × Nat × Nat)) (w' : World) : Prop :=
  match o with
  | none => ScanBad B b line w'
  | some (none, n, f) => Scan B b (s.extract n s.size) (line + f) ts false w'
  | some (some (k, S, N), n, _) => Scan B b (s.extract n s.size) line (ts ++ [⟨k, S, N, line⟩]) false w'

theorem after_none {B b line : Nat} {s : ByteArray} {ts : List Tok} {o : Option (Option (Nat × List UInt8 × Int) × Nat × Nat)} {w : World} (ho : o = none) (h : ScanBad B b line w) : After B b line s ts o w := by subst ho; exact h
theorem after_blank {B b line : Nat} {s : ByteArray} {ts : List Tok} {o : Option (Option (Nat × List UInt8 × Int) × Nat × Nat)} {w : World} {n f : Nat} (ho : o = some (none, n, f)) (h : Scan B b (s.extract n s.size) (line + f) ts false w) : After B b line s ts o w := by subst ho; exact h
theorem after_tok {B b line : Nat} {s : ByteArray} {ts : List Tok} {o : Option (Option (Nat × List UInt8 × Int) × Nat × Nat)} {w : World} {k n f : Nat} {S : List UInt8} {N : Int} (ho : o = some (some (k, S, N), n, f)) (h : Scan B b (s.extract n s.size) line (ts ++ [⟨k, S, N, line⟩]) false w) : After B b line s ts o w := by subst ho; exact h

theorem head_cons (t : ByteArray) (h : 0 < t.size) : t.data.toList = t[0] :: t.data.toList.drop 1 := by
  have hz : t.data.toList.length = t.size := Array.length_toList
  exact List.drop_eq_getElem_cons (l := t.data.toList) (i := 0) (by omega)
theorem rest_extract (t : ByteArray) (n : Nat) : (t.extract n t.size).data.toList = t.data.toList.drop n := by
  have hz : t.data.toList.length = t.size := Array.length_toList
  simp only [ByteArray.data_extract, Array.toList_extract, List.extract_eq_take_drop]
  exact List.take_of_length_le (by rw [List.length_drop]; omega)

set_option maxHeartbeats 6400000 in
set_option maxRecDepth 100000 in
theorem next_lf (B b : Nat) (s : ByteArray) (line : Nat) (ts : List Tok) (w : World) (h : Scan B b s line ts false w) (hB : B ≤ w.heap.size) (hl : line ≤ 1000000) (hs : s.size ≤ 1000000) (hpos : 0 < s.size) (h10 : s[0].toNat = 10) :
    Calls Tryz.prog 10 #[.pointer (some ⟨b, 0, none⟩)] w fun e w' => e = .returned (.tuple #[]) ∧ After B b line s ts (LexPlain.step s.data.toList) w' ∧ Below B w w' := by
  obtain ⟨hlt, c0, c1, c3, f0, f1, f3⟩ := h.cells
  have HST : Hid (LexPlain.step s.data.toList = some (none, 1, 1)) := Lib.hid (by rw [head_cons s hpos]; unfold LexPlain.step; simp only; rw [if_pos h10])
  have HS := Lib.hid h
  have d10 : ((s[0].toNat : Int) == 10) = true := by rw [beq_iff_eq]; omega
  have d32 : ((s[0].toNat : Int) == 32) = false := by rw [beq_eq_false_iff_ne]; omega
  clear h h10
  go_enter Tryz.func10, Tryz.ntmps10
  go_wp2_with fail
  go_returns
  exact ⟨rfl, after_blank HST.out (((HS.out.setLine (line + 1)).setS _)), ((Below.refl B w).setCell (p := ⟨b, 1, none⟩) HS.out.hB _).setCell (p := ⟨b, 0, none⟩) HS.out.hB _⟩

set_option maxHeartbeats 6400000 in
set_option maxRecDepth 100000 in
theorem next_blank (B b : Nat) (s : ByteArray) (line : Nat) (ts : List Tok) (w : World) (h : Scan B b s line ts false w) (hB : B ≤ w.heap.size) (hl : line ≤ 1000000) (hs : s.size ≤ 1000000) (hpos : 0 < s.size) (hb : s[0].toNat = 32 ∨ s[0].toNat = 9 ∨ s[0].toNat = 13) :
    Calls Tryz.prog 10 #[.pointer (some ⟨b, 0, none⟩)] w fun e w' => e = .returned (.tuple #[]) ∧ After B b line s ts (LexPlain.step s.data.toList) w' ∧ Below B w w' := by
  obtain ⟨hlt, c0, c1, c3, f0, f1, f3⟩ := h.cells
  have HST : Hid (LexPlain.step s.data.toList = some (none, 1, 0)) := Lib.hid (by rw [head_cons s hpos]; unfold LexPlain.step; simp only; rw [if_neg (by omega), if_pos hb])
  have HS := Lib.hid h
  have d10 : ((s[0].toNat : Int) == 10) = false := by rw [beq_eq_false_iff_ne]; omega
  clear h
  rcases hb with hb | hb | hb
  · have d32 : ((s[0].toNat : Int) == 32) = true := by rw [beq_iff_eq]; omega
    clear hb
    go_enter Tryz.func10, Tryz.ntmps10
    go_wp2_with fail
    go_returns
    exact ⟨rfl, after_blank HST.out (HS.out.setS _), (Below.refl B w).setCell (p := ⟨b, 0, none⟩) HS.out.hB _⟩
  · have d32 : ((s[0].toNat : Int) == 32) = false := by rw [beq_eq_false_iff_ne]; omega
    have d9 : ((s[0].toNat : Int) == 9) = true := by rw [beq_iff_eq]; omega
    clear hb
    go_enter Tryz.func10, Tryz.ntmps10
    go_wp2_with fail
    go_returns
    exact ⟨rfl, after_blank HST.out (HS.out.setS _), (Below.refl B w).setCell (p := ⟨b, 0, none⟩) HS.out.hB _⟩
  · have d32 : ((s[0].toNat : Int) == 32) = false := by rw [beq_eq_false_iff_ne]; omega
    have d9 : ((s[0].toNat : Int) == 9) = false := by rw [beq_eq_false_iff_ne]; omega
    have d13 : ((s[0].toNat : Int) == 13) = true := by rw [beq_iff_eq]; omega
    clear hb
    go_enter Tryz.func10, Tryz.ntmps10
    go_wp2_with fail
    go_returns
    exact ⟨rfl, after_blank HST.out (HS.out.setS _), (Below.refl B w).setCell (p := ⟨b, 0, none⟩) HS.out.hB _⟩

/-- No blank stands first: what the tests behind it ask. -/
def NoBlank (s : ByteArray) (hpos : 0 < s.size) : Prop := ¬ s[0].toNat = 10 ∧ ¬ s[0].toNat = 32 ∧ ¬ s[0].toNat = 9 ∧ ¬ s[0].toNat = 13

theorem slash_pre (s : ByteArray) (hpos : 0 < s.size) (w : World) (q : Bool) (hq : decide (s[0].toNat = 47 ∧ ((s.data.toList.drop 1).head?.map (·.toNat)) = some 47) = q) :
    Calls Tryz.prog 114 #[.string s, .string ⟨#[47, 47]⟩] w fun e w' => e = .returned (.bool q) ∧ w = w' := by
  refine (Tryz.strings_HasPrefix s ⟨#[47, 47]⟩ w).mono ?_
  rintro e w' ⟨rfl, rfl⟩
  refine ⟨ret_bool ?_, rfl⟩
  rw [head_cons s hpos, ← hq]
  unfold Lib.hasPrefix
  cases hd : s.data.toList.drop 1 with
  | nil => simp [List.isPrefixOf]
  | cons c r =>
    rw [Bool.eq_iff_iff]
    simp only [List.isPrefixOf, Bool.and_true, Bool.and_eq_true, beq_iff_eq, decide_eq_true_eq, List.head?_cons, Option.map_some, Option.some.injEq]
    exact ⟨fun ⟨h1, h2⟩ => ⟨by rw [← h1]; rfl, by rw [← h2]; rfl⟩, fun ⟨h1, h2⟩ => ⟨(UInt8.toNat.inj (by rw [h1]; rfl)), (UInt8.toNat.inj (by rw [h2]; rfl))⟩⟩

set_option maxHeartbeats 6400000 in
set_option maxRecDepth 100000 in
theorem next_remark (B b : Nat) (s : ByteArray) (line : Nat) (ts : List Tok) (w : World) (h : Scan B b s line ts false w) (hB : B ≤ w.heap.size) (hl : line ≤ 1000000) (hs : s.size ≤ 1000000) (hpos : 0 < s.size) (hnb : NoBlank s hpos)
    (hsl : s[0].toNat = 47 ∧ ((s.data.toList.drop 1).head?.map (·.toNat)) = some 47) :
    Calls Tryz.prog 10 #[.pointer (some ⟨b, 0, none⟩)] w fun e w' => e = .returned (.tuple #[]) ∧ After B b line s ts (LexPlain.step s.data.toList) w' ∧ Below B w w' := by
  obtain ⟨hlt, c0, c1, c3, f0, f1, f3⟩ := h.cells
  obtain ⟨n1, n2, n3, n4⟩ := hnb
  have hle := LexPlain.spanL_le LexPlain.notLF s.data.toList
  have hle : LexPlain.spanL LexPlain.notLF s.data.toList ≤ s.size := by have e : s.data.toList.length = s.size := Array.length_toList; omega
  have C1 := Lib.hid (fun w => span_notLF s (by omega) w)
  have C2 := Lib.hid (fun w => slash_pre s hpos w true (decide_eq_true hsl))
  have hst : LexPlain.step s.data.toList = some (none, LexPlain.spanL LexPlain.notLF s.data.toList, 0) := by
    rw [head_cons s hpos]; unfold LexPlain.step; simp only; rw [if_neg n1, if_neg (by omega), if_pos hsl]
  generalize LexPlain.spanL LexPlain.notLF s.data.toList = n at C1 hle hst
  have HST := Lib.hid hst
  have HS := Lib.hid h
  have d10 : ((s[0].toNat : Int) == 10) = false := by rw [beq_eq_false_iff_ne]; omega
  have d32 : ((s[0].toNat : Int) == 32) = false := by rw [beq_eq_false_iff_ne]; omega
  have d9 : ((s[0].toNat : Int) == 9) = false := by rw [beq_eq_false_iff_ne]; omega
  have d13 : ((s[0].toNat : Int) == 13) = false := by rw [beq_eq_false_iff_ne]; omega
  have i1 : (n : Int) ≤ (s.size : Int) := by omega
  clear h hst hsl n1 n2 n3 n4
  go_enter Tryz.func10, Tryz.ntmps10
  go_wp2_with fail
  refine (C2.out _).mono ?_
  rintro e w1 ⟨rfl, rfl⟩
  go_wp2_with fail
  go_region_with (go_at_call 115; refine (C1.out _).mono ?_; rintro e w1 ⟨rfl, rfl⟩)
  all_goals
    go_wp2_with fail
    go_returns
    exact ⟨rfl, after_blank HST.out (HS.out.drew.setS _), (Below.refl B w).drew.setCell (p := ⟨b, 0, none⟩) HS.out.hB _⟩
end Go.Proofs.YteinadddmcicoaaGreatDoor
