/- The book's lists of tokens: filled with marks. -/
import Derived.Test.YteinadddmcicoaaGreatDoorBookTok
namespace Go.Proofs.YteinadddmcicoaaGreatDoor
open Go.RowKit Go.Shelf

/-- The book knows two rows of tokens, which lie apart. -/
def HeldS (B b : Nat) (vt : Value) (vs : Nat → Value) (ns : Nat → Nat) (xs : Nat → List Value) (w : World) : Prop :=
  Blk w b 62 (BookC 2 vt) ∧ B ≤ b ∧ w.ownsRow B 90 2 vt 2 [vs 0, .int .i64 (0 : Nat), vs 1, .int .i64 (1 : Nat)] ∧
    (∀ i, i < 2 → w.ownsRow B 71 4 (vs i) (ns i) (xs i)) ∧ (∀ i j, i < 2 → j < 2 → i ≠ j → ∀ g, (vs i).ownBlock = some g → (vs j).ownBlock ≠ some g)

theorem HeldS.below {B b : Nat} {vt : Value} {vs : Nat → Value} {ns : Nat → Nat} {xs : Nat → List Value} {w w' : World} (h : HeldS B b vt vs ns xs w) (hb : Below w.heap.size w w') : HeldS B b vt vs ns xs w' :=
  ⟨Blk.below h.1 hb h.1.lt, h.2.1, own_below2 h.2.2.1 hb, fun i hi => own_below2 (h.2.2.2.1 i hi) hb, h.2.2.2.2⟩
/-- A cell of row i is written. -/
theorem HeldS.set {B b g n cap : Nat} {vt : Value} {vs : Nat → Value} {ns : Nat → Nat} {xs : Nat → List Value} {w : World} (h : HeldS B b vt vs ns xs w) (i : Nat) (hi : i < 2) (hv : vs i = .slice (some ⟨g, 0, none⟩) n cap) (hn : ns i = n) (j : Nat) (u : Value) (ys : Nat → List Value) (hy : ∀ k, k < 2 → ys k = if k = i then (xs i).set j u else xs k) :
    HeldS B b vt vs ns ys (w.setCell ⟨g, j, none⟩ u) := by
  obtain ⟨h1, h2, h3, h4, h5⟩ := h
  have hi4 := h4 i hi
  have hgi : (vs i).ownBlock = some g := by rw [hv]; rfl
  have hgb : g ≠ b := fun e => own_blk_ne hi4 h1 (by decide) (by rw [hgi, e])
  refine ⟨h1.far (p := ⟨g, j, none⟩) (fun e => hgb e.symm) _, h2, own_set_ne h3 (a := ⟨g, j, none⟩) (own_apart hi4 h3 (by decide) g hgi) _, fun k hk => ?_, h5⟩
  rw [hy k hk]
  by_cases hki : k = i
  · subst hki
    rw [if_pos rfl]
    rw [hv, hn] at hi4 ⊢
    exact own_set hi4 j u
  · rw [if_neg hki]
    exact own_set_ne (h4 k hk) (a := ⟨g, j, none⟩) (h5 i k hi hk (fun e => hki e.symm) g hgi) _
theorem HeldS.congr {B b : Nat} {vt : Value} {vs : Nat → Value} {ns : Nat → Nat} {xs ys : Nat → List Value} {w : World} (h : HeldS B b vt vs ns xs w) (hy : ∀ k, k < 2 → ys k = xs k) : HeldS B b vt vs ns ys w :=
  ⟨h.1, h.2.1, h.2.2.1, fun i hi => by rw [hy i hi]; exact h.2.2.2.1 i hi, h.2.2.2.2⟩
/-- Where the list of rows stands, and what it says of row i. -/
theorem HeldS.form {B b : Nat} {vt : Value} {vs : Nat → Value} {ns : Nat → Nat} {xs : Nat → List Value} {w : World} (h : HeldS B b vt vs ns xs w) :
    ∃ gt ct, vt = .slice (some ⟨gt, 0, none⟩) 2 ct ∧ ∀ i, i < 2 → w.cell? ⟨gt, i * 2, none⟩ = some (vs i) ∧ w.cell? ⟨gt, i * 2 + 1, none⟩ = some (.int .i64 i) := by
  obtain ⟨gt, ct, hv, _, _⟩ := h.2.2.1.form (by omega)
  refine ⟨gt, ct, hv, fun i hi => ?_⟩
  have h3 := h.2.2.1
  rw [hv] at h3
  match i, hi with
  | 0, _ => exact ⟨own_cell h3 0 _ rfl, own_cell h3 1 _ rfl⟩
  | 1, _ => exact ⟨own_cell h3 2 _ rfl, own_cell h3 3 _ rfl⟩

/-- Rows below i are marks, row i is so for its first k tokens. -/
def fillX (ns : Nat → Nat) (xs : Nat → List Value) (i k : Nat) : Nat → List Value := fun j => if j < i then marks (ns j) j else if j = i then partM j k (xs j) else xs j
theorem fillX_zero (ns : Nat → Nat) (xs : Nat → List Value) (j : Nat) : fillX ns xs 0 0 j = xs j := by
  unfold fillX
  rw [if_neg (by omega)]
  split
  · exact partM_zero _ _
  · rfl
theorem fillX_end (ns : Nat → Nat) (xs : Nat → List Value) (i j : Nat) (h : (xs i).length = ns i * 4) : fillX ns xs (i + 1) 0 j = fillX ns xs i (ns i) j := by
  unfold fillX
  by_cases h1 : j < i
  · rw [if_pos (by omega), if_pos h1]
  · by_cases h2 : j = i
    · subst h2
      rw [if_pos (by omega), if_neg h1, if_pos rfl, partM_all _ _ _ h]
    · rw [if_neg (by omega), if_neg h1, if_neg h2]
      split
      · exact partM_zero _ _
      · rfl

theorem HeldS.mark {B b g n cap : Nat} {vt : Value} {vs : Nat → Value} {ns : Nat → Nat} {xs : Nat → List Value} {i k : Nat} {w : World} (h : HeldS B b vt vs ns (fillX ns xs i k) w) (hi : i < 2) (hv : vs i = .slice (some ⟨g, 0, none⟩) n cap) (hn : ns i = n) (hl : (xs i).length = n * 4) (hk : k < n) :
    HeldS B b vt vs ns (fillX ns xs i (k + 1)) ((((w.setCell ⟨g, k * 4, none⟩ (.int .u8 0)).setCell ⟨g, k * 4 + 1, none⟩ (.string ⟨#[]⟩)).setCell ⟨g, k * 4 + 2, none⟩ (.int .i64 0)).setCell ⟨g, k * 4 + 3, none⟩ (.int .i64 (-1000 - (i : Int)))) := by
  have e : ∀ q, fillX ns xs i q i = partM i q (xs i) := fun q => by unfold fillX; rw [if_neg (by omega), if_pos rfl]
  have o : ∀ q j, j ≠ i → fillX ns xs i q j = fillX ns xs i k j := fun q j hj => by unfold fillX; rw [if_neg hj, if_neg hj]
  have s1 := h.set i hi hv hn (k * 4) (.int .u8 0) (fun j => if j = i then (fillX ns xs i k i).set (k * 4) (.int .u8 0) else fillX ns xs i k j) (fun j _ => rfl)
  have s2 := s1.set i hi hv hn (k * 4 + 1) (.string ⟨#[]⟩) (fun j => if j = i then ((fillX ns xs i k i).set (k * 4) (.int .u8 0)).set (k * 4 + 1) (.string ⟨#[]⟩) else fillX ns xs i k j) (fun j _ => by
    by_cases hj : j = i
    · simp [hj]
    · simp [hj])
  have s3 := s2.set i hi hv hn (k * 4 + 2) (.int .i64 0) (fun j => if j = i then (((fillX ns xs i k i).set (k * 4) (.int .u8 0)).set (k * 4 + 1) (.string ⟨#[]⟩)).set (k * 4 + 2) (.int .i64 0) else fillX ns xs i k j) (fun j _ => by
    by_cases hj : j = i
    · simp [hj]
    · simp [hj])
  refine s3.set i hi hv hn (k * 4 + 3) (.int .i64 (-1000 - (i : Int))) (fillX ns xs i (k + 1)) (fun j _ => ?_)
  by_cases hj : j = i
  · subst hj
    rw [if_pos rfl]
    simp only [if_pos]
    rw [e, e, partM_set j k n (xs j) hl hk]
  · rw [if_neg hj]
    simp only [if_neg hj]
    exact o (k + 1) j hj

theorem far4 {w : World} {gt g j k0 k1 k2 k3 : Nat} {x a b c d : Value} (hne : gt ≠ g) (h : w.cell? ⟨gt, j, none⟩ = some x) : ((((w.setCell ⟨g, k0, none⟩ a).setCell ⟨g, k1, none⟩ b).setCell ⟨g, k2, none⟩ c).setCell ⟨g, k3, none⟩ d).cell? ⟨gt, j, none⟩ = some x := by
  refine Eq.trans (World.cell?_of_block ?_) h
  exact (Below.heap_setCell _ _ _ _ hne).trans ((Below.heap_setCell _ _ _ _ hne).trans ((Below.heap_setCell _ _ _ _ hne).trans (Below.heap_setCell _ _ _ _ hne)))
set_option maxHeartbeats 3200000 in
set_option maxRecDepth 100000 in
theorem fillToken_any (B b : Nat) (vt : Value) (vs : Nat → Value) (ns : Nat → Nat) (xs : Nat → List Value) (w : World) (h : HeldS B b vt vs ns xs w) (hB : B ≤ w.heap.size) (hns : ∀ i, i < 2 → ns i ≤ 1000000) :
    Calls Tryz.prog 17 #[.pointer (some ⟨b, 0, none⟩)] w fun e w' => e = .returned (.tuple #[]) ∧ HeldS B b vt vs ns (fun i => marks (ns i) i) w' ∧ Below B w w' := by
  have HN := Lib.hid hns
  have HXL := Lib.hid (fun i hi => (h.2.2.2.1 i hi).1)
  obtain ⟨gt, ct, rfl, -⟩ := h.form
  have c6 : w.cell? ⟨b, 6, none⟩ = some (.slice (some ⟨gt, 0, none⟩) 2 ct) := (h.1.cell 6).trans rfl
  have HS := Lib.hid (h.congr (ys := fillX ns xs 0 0) (fun j _ => fillX_zero ns xs j))
  clear hns h
  go_enter Tryz.func17, Tryz.ntmps17
  go_wp2_with fail
  go_loopw [10] (fun vi wr => ∃ i : Nat, vi = .int .i64 i ∧ i ≤ 2 ∧ Hid (HeldS B b (.slice (some ⟨gt, 0, none⟩) 2 ct) vs ns (fillX ns xs i 0) wr ∧ Below B w wr)) (fun vi _ => 2 - (intOf vi).toNat)
  case atStart => exact ⟨0, rfl, by omega, Lib.hid ⟨HS.out, Below.refl _ _⟩⟩
  case round =>
    obtain ⟨i, rfl, hi, hr⟩ := hrel
    by_cases hi2 : i < 2
    · have d6 : wr.cell? ⟨b, 6, none⟩ = some (.slice (some ⟨gt, 0, none⟩) 2 ct) := (hr.out.1.1.cell 6).trans rfl
      obtain ⟨gt', ct', hv, hcs⟩ := hr.out.1.form
      injection hv with e1 e2 e3
      injection e1 with e1
      injection e1 with e1
      subst e1
      obtain ⟨p0, p1⟩ := hcs i hi2
      obtain ⟨a, cap, hvi⟩ := own_form (hr.out.1.2.2.2.1 i hi2)
      have hxl := HXL.out i hi2
      have hni := HN.out i hi2
      have HE := Lib.hid (fun j => fillX_end ns xs i j hxl)
      rw [hvi] at p0
      have HVI := Lib.hid hvi
      generalize hnn : ns i = n at p0 hxl hni HVI HE
      have HNN := Lib.hid hnn
      have HXI := Lib.hid hxl
      clear e3 hcs hvi hnn hxl
      go_wp2_with fail
      go_loopw [24] (fun vk w2 => ∃ k : Nat, vk = .int .i64 k ∧ k ≤ n ∧ Hid (HeldS B b (.slice (some ⟨gt, 0, none⟩) 2 ct) vs ns (fillX ns xs i k) w2 ∧ Below B w w2)) (fun vk _ => n - (intOf vk).toNat)
      case atStart => exact ⟨0, rfl, by omega, hr⟩
      case round =>
        obtain ⟨k, rfl, hk, hr2⟩ := hrel
        by_cases hkn : k < n
        · obtain ⟨gt', ct', hv, hcs⟩ := hr2.out.1.form
          injection hv with e1 e2 e3
          injection e1 with e1
          injection e1 with e1
          subst e1
          obtain ⟨q0, q1⟩ := hcs i hi2
          rw [HVI.out] at q0
          have hrow := hr2.out.1.2.2.2.1 i hi2
          rw [HVI.out, HNN.out] at hrow
          obtain ⟨g, cap', hv', hBg, hgl⟩ := hrow.form (by omega)
          injection hv' with e1' e2' e3'
          subst e1'
          have hgg : gt ≠ g := fun e => own_apart hrow hr2.out.1.2.2.1 (by decide) g rfl (by rw [← e]; rfl)
          have hpl : (fillX ns xs i k i).length = n * 4 := hrow.1
          have hcell : Hid (∀ j, j < n * 4 → ∃ u, wr.cell? ⟨g, j, none⟩ = some u) := Lib.hid (fun j hj => ⟨_, own_cell hrow j _ (List.getElem?_eq_getElem (by omega))⟩)
          have hfz : Hid (∀ j, wr.frozen? ⟨g, j, none⟩ = false) := Lib.hid (fun j => own_frozen hrow j)
          have CM := Lib.hid (fun w' => mark_any i (by omega) w')
          clear e3 e3' hcs hrow hpl
          go_wp2_with fail
          obtain ⟨u0, hu0⟩ := hcell.out (k * 4) (by omega)
          obtain ⟨u1, hu1⟩ := hcell.out (k * 4 + 1) (by omega)
          obtain ⟨u2, hu2⟩ := hcell.out (k * 4 + 2) (by omega)
          obtain ⟨u3, hu3⟩ := hcell.out (k * 4 + 3) (by omega)
          have y0 := hfz.out (k * 4)
          have y1 := hfz.out (k * 4 + 1)
          have y2 := hfz.out (k * 4 + 2)
          have y3 := hfz.out (k * 4 + 3)
          have hkI : (k : Int) < (n : Int) := by omega
          go_region_held3 (fun w' => w'.cell? ⟨gt, i * 2, none⟩ = some (.slice (some ⟨g, 0, none⟩) n cap) ∧ w'.cell? ⟨gt, i * 2 + 1, none⟩ = some (.int .i64 i))
            (first | exact ⟨q0, q1⟩ | exact ⟨m0, m1⟩ | exact ⟨far4 hgg m0, far4 hgg m1⟩ | go_keep)
            (first | (go_at_call 137; refine (CM.out _).mono ?_; rintro e w3 ⟨rfl, hb3⟩
                      have m0 : w3.cell? ⟨gt, i * 2, none⟩ = some (.slice (some ⟨g, 0, none⟩) n cap) := cell_later hb3 (by simpa using q0)
                      have m1 : w3.cell? ⟨gt, i * 2 + 1, none⟩ = some (.int .i64 i) := cell_later hb3 (by simpa using q1)
                      have z0 : w3.cell? ⟨g, k * 4, none⟩ = some u0 := cell_later hb3 (by simpa using hu0)
                      have z1 : w3.cell? ⟨g, k * 4 + 1, none⟩ = some u1 := cell_later hb3 (by simpa using hu1)
                      have z2 : w3.cell? ⟨g, k * 4 + 2, none⟩ = some u2 := cell_later hb3 (by simpa using hu2)
                      have z3 : w3.cell? ⟨g, k * 4 + 3, none⟩ = some u3 := cell_later hb3 (by simpa using hu3)
                      have x0 : w3.frozen? ⟨g, k * 4, none⟩ = false := (hb3.frozen (p := ⟨g, k * 4, none⟩) (by simpa using hgl)).trans (by simpa using y0)
                      have x1 : w3.frozen? ⟨g, k * 4 + 1, none⟩ = false := (hb3.frozen (p := ⟨g, k * 4 + 1, none⟩) (by simpa using hgl)).trans (by simpa using y1)
                      have x2 : w3.frozen? ⟨g, k * 4 + 2, none⟩ = false := (hb3.frozen (p := ⟨g, k * 4 + 2, none⟩) (by simpa using hgl)).trans (by simpa using y2)
                      have x3 : w3.frozen? ⟨g, k * 4 + 3, none⟩ = false := (hb3.frozen (p := ⟨g, k * 4 + 3, none⟩) (by simpa using hgl)).trans (by simpa using y3)))
          go_wp2_with fail
          have HB := Lib.hid (show Below wr.heap.size wr w3 from (Below.refl _ wr).drew.trans hb3)
          go_roundw
          case rel => exact ⟨k + 1, by go_num, by omega, Lib.hid ⟨(hr2.out.1.below HB.out).mark hi2 HVI.out HNN.out HXI.out hkn,
            ((((hr2.out.2.trans (HB.out.mono (Nat.le_trans hB hr2.out.2.size))).setCell (p := ⟨g, k * 4, none⟩) hBg _).setCell (p := ⟨g, k * 4 + 1, none⟩) hBg _).setCell (p := ⟨g, k * 4 + 2, none⟩) hBg _).setCell (p := ⟨g, k * 4 + 3, none⟩) hBg _⟩⟩
          case measure => simp [intOf]; omega
        · have hkk : k = n := by omega
          subst hkk
          go_wp2_with fail
          go_roundw
          case rel => exact ⟨i + 1, by go_num, by omega, Lib.hid ⟨hr2.out.1.congr (fun j _ => HE.out j), hr2.out.2⟩⟩
          case measure => simp [intOf]; omega
    · have hii : i = 2 := by omega
      subst hii
      go_wp2_with fail
      go_returns
      exact ⟨rfl, hr.out.1.congr (fun j hj => by unfold fillX; rw [if_pos hj]), hr.out.2⟩
end Go.Proofs.YteinadddmcicoaaGreatDoor
