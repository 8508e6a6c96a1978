/- The book's lists of tokens: each holds its own marks. -/
import Derived.Test.YteinadddmcicoaaGreatDoorBookGrow
namespace Go.Proofs.YteinadddmcicoaaGreatDoor
open Go.RowKit Go.Shelf

set_option maxHeartbeats 1600000 in
theorem isToken_any (n : Nat) (hn : n ≤ 2000000) (w : World) :
    Calls Tryz.prog 170 #[.agg #[.int .u8 0, .string ⟨#[]⟩, .int .i64 0, .int .i64 (-1000 - (n : Int))], .int .i64 n] w fun e w' => e = .returned (.bool true) ∧ Below w.heap.size w w' := by
  have CM := Lib.hid (fun w' => mark_any n hn w')
  go_enter Tryz.func170, Tryz.ntmps170
  go_wp2_with fail
  go_region_held3 (fun w' => w'.cell? ⟨w.heap.size, 0, none⟩ = some (.int .u8 0) ∧ w'.cell? ⟨w.heap.size, 1, none⟩ = some (.string ⟨#[]⟩) ∧ w'.cell? ⟨w.heap.size, 2, none⟩ = some (.int .i64 0) ∧ w'.cell? ⟨w.heap.size, 3, none⟩ = some (.int .i64 (-1000 - (n : Int))))
    (first | exact ⟨m0, m1, m2, m3⟩ | go_keep)
    (first | (go_at_call 137; refine (CM.out _).mono ?_; rintro e w3 ⟨rfl, hb3⟩
              have m0 : w3.cell? ⟨w.heap.size, 0, none⟩ = some (.int .u8 0) := cell_later hb3 (by go_simp)
              have m1 : w3.cell? ⟨w.heap.size, 1, none⟩ = some (.string ⟨#[]⟩) := cell_later hb3 (by go_simp)
              have m2 : w3.cell? ⟨w.heap.size, 2, none⟩ = some (.int .i64 0) := cell_later hb3 (by go_simp)
              have m3 : w3.cell? ⟨w.heap.size, 3, none⟩ = some (.int .i64 (-1000 - (n : Int))) := cell_later hb3 (by go_simp)))
  have HB := Lib.hid (((Below.refl w.heap.size w).alloc (Nat.le_refl _) (.cells #[.int .u8 0, .string ⟨#[]⟩, .int .i64 0, .int .i64 (-1000 - (n : Int))] 71)).drew.trans (hb3.mono (by simp)))
  go_wp2_with fail
  go_returns
  exact ⟨rfl, HB.out⟩

set_option maxHeartbeats 3200000 in
set_option maxRecDepth 100000 in
theorem lookToken_any (B b : Nat) (vt : Value) (vs : Nat → Value) (ns : Nat → Nat) (w : World) (h : HeldM B b vt vs ns w) (hns : ∀ i, i < 2 → ns i ≤ 2000000) :
    Calls Tryz.prog 84 #[.pointer (some ⟨b, 0, none⟩)] w fun e w' => e = .returned (.bool true) ∧ Below w.heap.size w w' := by
  have HN := Lib.hid hns
  obtain ⟨gt, ct, rfl, hcs⟩ := HeldS.form h
  have HCS := Lib.hid hcs
  have c6 : w.cell? ⟨b, 6, none⟩ = some (.slice (some ⟨gt, 0, none⟩) 2 ct) := (h.1.cell 6).trans rfl
  have HS := Lib.hid h
  clear hns h hcs
  go_enter Tryz.func84, Tryz.ntmps84
  go_wp2_with fail
  go_loopw [12] (fun vi wr => ∃ i : Nat, vi = .int .i64 i ∧ i ≤ 2 ∧ Hid (Below w.heap.size w wr)) (fun vi _ => 2 - (intOf vi).toNat)
  case atStart => exact ⟨0, rfl, by omega, Lib.hid (Below.refl _ _)⟩
  case round =>
    obtain ⟨i, rfl, hi, hr⟩ := hrel
    by_cases hi2 : i < 2
    · have hiI : (i : Int) < 2 := by omega
      have hrow : w.ownsRow B 71 4 (vs i) (ns i) (marks (ns i) i) := HS.out.2.2.2.1 i hi2
      obtain ⟨p0, p1⟩ := HCS.out i hi2
      obtain ⟨a, cap, hvi⟩ := own_form hrow
      have hni := HN.out i hi2
      rw [hvi] at p0 hrow
      generalize ns i = n at p0 hrow hni
      have q0 := cell_later hr.out p0
      have q1 := cell_later hr.out p1
      have HW1 := (Below.refl wr.heap.size wr).alloc (Nat.le_refl _) (.cells #[.slice a n cap, .int .i64 i] 90)
      have HROW1 := Lib.hid (own_below2 (own_below2 hrow hr.out) HW1)
      have HBW := Lib.hid (hr.out.thens HW1)
      have d1 : (wr.alloc (.cells #[.slice a n cap, .int .i64 i] 90)).cell? ⟨wr.heap.size, 1, none⟩ = some (.int .i64 i) := by go_simp
      have hpW : wr.heap.size < (wr.alloc (.cells #[.slice a n cap, .int .i64 i] 90)).heap.size := by simp
      have CI := Lib.hid (fun w' => isToken_any i (by omega) w')
      clear p0 p1 hvi hrow HW1
      go_wp2_with fail
      generalize wr.alloc (.cells #[.slice a n cap, .int .i64 i] 90) = W1 at d1 hpW HROW1 HBW ⊢
      generalize wr.heap.size = p at d1 hpW ⊢
      go_loopw [19] (fun vk w2 => ∃ k : Nat, vk = .int .i64 k ∧ k ≤ n ∧ Hid (Below W1.heap.size W1 w2)) (fun vk _ => n - (intOf vk).toNat)
      case atStart => exact ⟨0, rfl, by omega, Lib.hid (Below.refl _ _)⟩
      case round =>
        obtain ⟨k, rfl, hk, hr2⟩ := hrel
        by_cases hkn : k < n
        · obtain ⟨g, cap', hv', hBg, hgl⟩ := HROW1.out.form (by omega)
          injection hv' with e1 e2 e3
          subst e1
          have z0 : wr.cell? ⟨g, k * 4, none⟩ = some (.int .u8 0) := cell_later hr2.out (own_cell HROW1.out (k * 4) _ (marks_at i n k 0 hkn (by omega)))
          have z1 : wr.cell? ⟨g, k * 4 + 1, none⟩ = some (.string ⟨#[]⟩) := cell_later hr2.out (own_cell HROW1.out (k * 4 + 1) _ (marks_at i n k 1 hkn (by omega)))
          have z2 : wr.cell? ⟨g, k * 4 + 2, none⟩ = some (.int .i64 0) := cell_later hr2.out (own_cell HROW1.out (k * 4 + 2) _ (marks_at i n k 2 hkn (by omega)))
          have z3 : wr.cell? ⟨g, k * 4 + 3, none⟩ = some (.int .i64 (-1000 - (i : Int))) := cell_later hr2.out (own_cell HROW1.out (k * 4 + 3) _ (marks_at i n k 3 hkn (by omega)))
          have y1 := cell_later hr2.out d1
          have hpl : p < wr.heap.size := Nat.lt_of_lt_of_le hpW hr2.out.size
          clear e2 e3 hBg hgl
          go_wp2_with fail
          refine (CI.out _).mono ?_
          rintro e w3 ⟨rfl, hb3⟩
          have HB3 := Lib.hid (hr2.out.thens (((Below.refl _ wr).alloc (Nat.le_refl _) _).thens hb3))
          go_wp2_with fail
          go_roundw
          case rel => exact ⟨k + 1, by go_num, by omega, HB3⟩
          case measure => simp [intOf]; omega
        · have hkk : k = n := by omega
          subst hkk
          go_wp2_with fail
          go_roundw
          case rel => exact ⟨i + 1, by go_num, by omega, Lib.hid (HBW.out.thens hr2.out)⟩
          case measure => simp [intOf]; omega
    · have hii : i = 2 := by omega
      subst hii
      go_wp2_with fail
      go_returns
      exact ⟨rfl, hr.out⟩
end Go.Proofs.YteinadddmcicoaaGreatDoor
