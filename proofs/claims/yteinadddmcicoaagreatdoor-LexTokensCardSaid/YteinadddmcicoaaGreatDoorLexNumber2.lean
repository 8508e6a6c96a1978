/- Walks over layer 2's scanner: number, where the digits are a number. -/
import Derived.Test.YteinadddmcicoaaGreatDoorLexNumber
import Derived.Deep.RegionHeld3
namespace Go.Proofs.YteinadddmcicoaaGreatDoor
open Go.RowKit Go.Shelf
open LexPlain (Tok)

set_option maxHeartbeats 3200000 in
theorem number_big (B b : Nat) (s : ByteArray) (line : Nat) (ts : List Tok) (w : World) (h : Scan B b s line ts false w) (hB : B ≤ w.heap.size) (hl : line ≤ 1000000) (hs : s.size ≤ 1000000) (hts : ts.length ≤ 1000000) (hH : HasB B w)
    (n : Nat) (hn : LexPlain.spanL LexPlain.digitB s.data.toList = n) (u : Nat) (hu : Lib.parseUintB 64 (s.data.toList.take n) = .ok u) (big : 9223372036854775808 < u) :
    Calls Tryz.prog 122 #[.pointer (some ⟨b, 0, none⟩)] w fun e w' => e = .returned (.tuple #[]) ∧ ScanBad B b line w' ∧ Below B w w' := by
  have hle := LexPlain.spanL_le LexPlain.digitB s.data.toList
  rw [hn] at hle
  have hle : n ≤ s.size := by have e : s.data.toList.length = s.size := Array.length_toList; omega
  obtain ⟨hlt, c0, c1, c3, f0, f1, f3⟩ := h.cells
  have C1 := Lib.hid (fun w => span_digit s (by omega) w)
  rw [hn] at C1
  have C2 := Lib.hid (fun w => parseUint_ok (s.extract 0 n) (by rw [ByteArray.size_extract]; omega) u (by rw [take_extract]; exact hu) w)
  have HS := Lib.hid h
  have hg : decide ((9223372036854775808 : Int) < (u : Int)) = true := decide_eq_true (by omega)
  clear hn h big hu
  go_enter Tryz.func122, Tryz.ntmps122
  go_wp2_with (go_at_call 115; refine (C1.out _).mono ?_; rintro e w1 ⟨rfl, rfl⟩)
  refine (C2.out _).mono ?_
  rintro e w1 ⟨rfl, hb1⟩
  have k0 : w1.cell? ⟨b, 0, none⟩ = some (.string s) := cell_later hb1 c0
  have k3 : w1.cell? ⟨b, 3, none⟩ = some (.bool false) := cell_later hb1 c3
  have k1 : w1.cell? ⟨b, 1, none⟩ = some (.int .i64 line) := cell_later hb1 c1
  have e3 : w1.frozen? ⟨b, 3, none⟩ = false := (hb1.frozen (p := ⟨b, 3, none⟩) hlt).trans f3
  have e0 : w1.frozen? ⟨b, 0, none⟩ = false := (hb1.frozen (p := ⟨b, 0, none⟩) hlt).trans f0
  go_wp2_with fail
  go_region
  go_wp2_with fail
  have hb0 : Below B w w1 := hb1.mono hB
  have hb2 := (hb0.setCell (p := ⟨b, 3, none⟩) HS.out.hB (.bool true)).drew
  refine (put_any B b s line ts true _ (by first | exact ((HS.out.below hb1).setBad true).drew | exact (HS.out.below hb1).drew.setBad true) (by simp; exact Nat.le_trans hB hb1.size) hl _ 4 (by rfl) (s.extract 0 n) _ _ _ n (by rfl) hle hs hts).mono ?_
  rintro e w3 ⟨rfl, hsc, hb3⟩
  go_wp2_with fail
  go_end0
  exact ⟨rfl, ⟨_, _, hsc⟩, hb2.trans hb3⟩

set_option maxHeartbeats 3200000 in
theorem number_fit (B b : Nat) (s : ByteArray) (line : Nat) (ts : List Tok) (w : World) (h : Scan B b s line ts false w) (hB : B ≤ w.heap.size) (hl : line ≤ 1000000) (hs : s.size ≤ 1000000) (hts : ts.length ≤ 1000000) (hH : HasB B w)
    (n : Nat) (hn : LexPlain.spanL LexPlain.digitB s.data.toList = n) (u : Nat) (hu : Lib.parseUintB 64 (s.data.toList.take n) = .ok u) (big : ¬ 9223372036854775808 < u) (q : Bool) (hq : decide (Lib.decDigits u = s.data.toList.take n) = q) :
    Calls Tryz.prog 122 #[.pointer (some ⟨b, 0, none⟩)] w fun e w' => e = .returned (.tuple #[]) ∧ Scan B b (s.extract n s.size) line (ts ++ [⟨4, s.data.toList.take n, wrap64 u, line⟩]) (!q) w' ∧ Below B w w' := by
  have hle := LexPlain.spanL_le LexPlain.digitB s.data.toList
  rw [hn] at hle
  have hle : n ≤ s.size := by have e : s.data.toList.length = s.size := Array.length_toList; omega
  obtain ⟨hlt, c0, c1, c3, f0, f1, f3⟩ := h.cells
  have C1 := Lib.hid (fun w => span_digit s (by omega) w)
  rw [hn] at C1
  have C2 := Lib.hid (fun w => parseUint_ok (s.extract 0 n) (by rw [ByteArray.size_extract]; omega) u (by rw [take_extract]; exact hu) w)
  have C3 := Lib.hid (fun w hh => formatUint u (by omega) w hh)
  have HS := Lib.hid h
  have hg : decide ((9223372036854775808 : Int) < (u : Int)) = false := decide_eq_false (by omega)
  have hqq : (Lib.decDigits u == (s.extract 0 n).toList) = q := by rw [← hq, Bool.eq_iff_iff, ByteArray.toList_eq, take_extract]; simp
  have hG : HasB b w := hH.mono h.hB
  clear hn h big hu hq
  go_enter Tryz.func122, Tryz.ntmps122
  go_wp2_with (go_at_call 115; refine (C1.out _).mono ?_; rintro e w1 ⟨rfl, rfl⟩)
  refine (C2.out _).mono ?_
  rintro e w1 ⟨rfl, hb1⟩
  have k0 : w1.cell? ⟨b, 0, none⟩ = some (.string s) := cell_later hb1 c0
  have k3 : w1.cell? ⟨b, 3, none⟩ = some (.bool false) := cell_later hb1 c3
  have k1 : w1.cell? ⟨b, 1, none⟩ = some (.int .i64 line) := cell_later hb1 c1
  have e3 : w1.frozen? ⟨b, 3, none⟩ = false := (hb1.frozen (p := ⟨b, 3, none⟩) hlt).trans f3
  have e0 : w1.frozen? ⟨b, 0, none⟩ = false := (hb1.frozen (p := ⟨b, 0, none⟩) hlt).trans f0
  have hlt1 := Nat.lt_of_lt_of_le hlt hb1.size
  have hb0 : Below B w w1 := hb1.mono hB
  have hH1 := hH.next hb0
  go_wp2_with fail
  go_region_held3 (fun w' => w'.cell? ⟨b, 0, none⟩ = some (.string s)) (first | exact k0 | exact m0 | exact (World.cell?_setCell_other _ _ _ _ (by intro hh; injection hh with h1 h2; cases h2)).trans (by assumption) | go_keep)
    (first | (go_at_call 206; refine (C3.out _ (by first | exact hH1.has | exact (hH1.next (Below.refl _ _).drew).has)).mono ?_; rintro e w2 ⟨rfl, hb5⟩; have m0 : w2.cell? ⟨b, 0, none⟩ = some (.string s) := cell_later hb5 (by simpa using k0); have m3 : w2.cell? ⟨b, 3, none⟩ = some (.bool false) := cell_later hb5 (by simpa using k3); have n3 : w2.frozen? ⟨b, 3, none⟩ = false := (hb5.frozen (p := ⟨b, 3, none⟩) (by simpa using hlt1)).trans (by simpa using e3)))
  go_wp2_with fail
  have hb6 : Below w.heap.size w w2 := hb1.drew.trans (hb5.mono hb1.size)
  have hb2 := (hb6.mono hB).setCell (p := ⟨b, 3, none⟩) HS.out.hB (.bool !q)
  refine (put_any B b s line ts (!q) _ ((HS.out.below hb6).setBad _) (by simp; exact Nat.le_trans hB hb6.size) hl _ 4 (by rfl) (s.extract 0 n) _ _ _ n (by rfl) hle hs hts).mono ?_
  rintro e w3 ⟨rfl, hsc, hb3⟩
  go_wp2_with fail
  go_end0
  rw [take_extract] at hsc
  exact ⟨rfl, hsc, hb2.trans hb3⟩
end Go.Proofs.YteinadddmcicoaaGreatDoor
