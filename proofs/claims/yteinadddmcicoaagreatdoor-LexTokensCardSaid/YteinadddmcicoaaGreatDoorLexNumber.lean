/- Walks over layer 2's scanner: number. -/
import Derived.Test.YteinadddmcicoaaGreatDoorLexScan
namespace Go.Proofs.YteinadddmcicoaaGreatDoor
open Go.RowKit Go.Shelf
open LexPlain (Tok)

def ScanBad (B b line : Nat) (w : World) : Prop := ∃ s' ts', Scan B b s' line ts' true w

theorem Scan.cells {B b : Nat} {s : ByteArray} {line : Nat} {ts : List Tok} {bad : Bool} {w : World} (h : Scan B b s line ts bad w) :
    b < w.heap.size ∧ w.cell? ⟨b, 0, none⟩ = some (.string s) ∧ w.cell? ⟨b, 1, none⟩ = some (.int .i64 line) ∧ w.cell? ⟨b, 3, none⟩ = some (.bool bad) ∧ w.frozen? ⟨b, 0, none⟩ = false ∧ w.frozen? ⟨b, 1, none⟩ = false ∧ w.frozen? ⟨b, 3, none⟩ = false := by
  obtain ⟨hB, v, hb, ho⟩ := h
  exact ⟨hb.lt, hb.cell 0, hb.cell 1, hb.cell 3, hb.frozen 0, hb.frozen 1, hb.frozen 3⟩
theorem Scan.below {B b : Nat} {s : ByteArray} {line : Nat} {ts : List Tok} {bad : Bool} {w w' : World} (h : Scan B b s line ts bad w) (hb : Below w.heap.size w w') : Scan B b s line ts bad w' := by
  obtain ⟨hB, v, hk, ho⟩ := h
  exact ⟨hB, v, hk.below hb hk.lt, ho.kept (row := none) ⟨hb.os, hb.tape, hb.output, hb.size, fun i hi _ => hb.block i hi⟩ (by
    cases hv : v.ownBlock with
    | none => exact .inl rfl
    | some g => exact .inr (by simp))⟩
theorem Scan.setBad {B b : Nat} {s : ByteArray} {line : Nat} {ts : List Tok} {bad : Bool} {w : World} (h : Scan B b s line ts bad w) (x : Bool) : Scan B b s line ts x (w.setCell ⟨b, 3, none⟩ (.bool x)) := by
  obtain ⟨hB, v, hk, ho⟩ := h
  exact ⟨hB, v, hk.set_ 3 _, own_set_ne ho (a := ⟨b, 3, none⟩) (own_blk_ne ho hk (by decide)) _⟩
theorem Scan.setS {B b : Nat} {s : ByteArray} {line : Nat} {ts : List Tok} {bad : Bool} {w : World} (h : Scan B b s line ts bad w) (x : ByteArray) : Scan B b x line ts bad (w.setCell ⟨b, 0, none⟩ (.string x)) := by
  obtain ⟨hB, v, hk, ho⟩ := h
  exact ⟨hB, v, hk.set_ 0 _, own_set_ne ho (a := ⟨b, 0, none⟩) (own_blk_ne ho hk (by decide)) _⟩
theorem Scan.setLine {B b : Nat} {s : ByteArray} {line : Nat} {ts : List Tok} {bad : Bool} {w : World} (h : Scan B b s line ts bad w) (x : Nat) : Scan B b s x ts bad (w.setCell ⟨b, 1, none⟩ (.int .i64 x)) := by
  obtain ⟨hB, v, hk, ho⟩ := h
  exact ⟨hB, v, hk.set_ 1 _, own_set_ne ho (a := ⟨b, 1, none⟩) (own_blk_ne ho hk (by decide)) _⟩
theorem Scan.drew {B b : Nat} {s : ByteArray} {line : Nat} {ts : List Tok} {bad : Bool} {w : World} (h : Scan B b s line ts bad w) : Scan B b s line ts bad w.drew := h
theorem Scan.hB {B b : Nat} {s : ByteArray} {line : Nat} {ts : List Tok} {bad : Bool} {w : World} (h : Scan B b s line ts bad w) : B ≤ b := h.1

theorem take_extract (s : ByteArray) (n : Nat) : (s.extract 0 n).data.toList = s.data.toList.take n := by simp

set_option maxHeartbeats 3200000 in
theorem number_nan (B b : Nat) (s : ByteArray) (line : Nat) (ts : List Tok) (w : World) (h : Scan B b s line ts false w) (hB : B ≤ w.heap.size) (hl : line ≤ 1000000) (hs : s.size ≤ 1000000) (hts : ts.length ≤ 1000000) (hH : HasB B w)
    (n : Nat) (hn : LexPlain.spanL LexPlain.digitB s.data.toList = n) (hbad : ∀ v, Lib.parseUintB 64 (s.data.toList.take n) ≠ .ok v) :
    Calls Tryz.prog 122 #[.pointer (some ⟨b, 0, none⟩)] w fun e w' => e = .returned (.tuple #[]) ∧ ScanBad B b line w' ∧ Below B w w' := by
  have hle := LexPlain.spanL_le LexPlain.digitB s.data.toList
  rw [hn] at hle
  have hle : n ≤ s.size := by have e : s.data.toList.length = s.size := Array.length_toList; omega
  obtain ⟨hlt, c0, c1, c3, f0, f1, f3⟩ := h.cells
  have C1 := Lib.hid (fun w => span_digit s (by omega) w)
  rw [hn] at C1
  have C2 := Lib.hid (fun w hh => parseUint_bad (s.extract 0 n) (by rw [ByteArray.size_extract]; omega) (by rw [take_extract]; exact hbad) w hh)
  have HS := Lib.hid h
  clear hbad hn h
  go_enter Tryz.func122, Tryz.ntmps122
  go_wp2_with (go_at_call 115; refine (C1.out _).mono ?_; rintro e w1 ⟨rfl, rfl⟩)
  refine (C2.out _ hH.has).mono ?_
  rintro e w1 ⟨x, tp, N, hx, rfl, hb1⟩
  have k0 : w1.cell? ⟨b, 0, none⟩ = some (.string s) := cell_later hb1 c0
  have k3 : w1.cell? ⟨b, 3, none⟩ = some (.bool false) := cell_later hb1 c3
  have k1 : w1.cell? ⟨b, 1, none⟩ = some (.int .i64 line) := cell_later hb1 c1
  have e3 : w1.frozen? ⟨b, 3, none⟩ = false := (hb1.frozen (p := ⟨b, 3, none⟩) hlt).trans f3
  have e0 : w1.frozen? ⟨b, 0, none⟩ = false := (hb1.frozen (p := ⟨b, 0, none⟩) hlt).trans f0
  go_wp2_with fail
  go_region
  go_wp2_with fail
  have hb0 : Below B w w1 := hb1.mono hB
  have hb2 := (hb0.setCell (p := ⟨b, 3, none⟩) HS.out.hB (.bool true)).drew
  refine (put_any B b s line ts true _ (by first | exact ((HS.out.below hb1).setBad true).drew | exact (HS.out.below hb1).drew.setBad true) (by simp; exact Nat.le_trans hB hb1.size) hl _ 4 (by rfl) (s.extract 0 n) _ _ _ n (by rfl) hle hs hts).mono ?_
  rintro e w3 ⟨rfl, hsc, hb3⟩
  go_wp2_with fail
  go_end0
  exact ⟨rfl, ⟨_, _, hsc⟩, hb2.trans hb3⟩
end Go.Proofs.YteinadddmcicoaaGreatDoor
