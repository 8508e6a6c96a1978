/- The book's lists of tokens: how the rows stand, and how one is kept. -/
import Derived.Test.YteinadddmcicoaaGreatDoorBookP
import Derived.Deep.RegionHeld3
import Derived.Deep.RegionLaw
import Derived.Deep.AppendLies
namespace Go.Proofs.YteinadddmcicoaaGreatDoor
open Go.RowKit Go.Shelf

/-- A mark's cells. -/
def markC (n : Nat) : List Value := [.int .u8 0, .string ⟨#[]⟩, .int .i64 0, .int .i64 (-1000 - (n : Int))]
/-- m marks, one behind the other. -/
def marks (m n : Nat) : List Value := (List.replicate m (markC n)).flatten
theorem marks_succ (m n : Nat) : marks (m + 1) n = marks m n ++ markC n := by
  unfold marks
  rw [List.replicate_succ', List.flatten_append]
  simp
theorem marks_len (m n : Nat) : (marks m n).length = m * 4 := by
  induction m with
  | zero => rfl
  | succ m ih => rw [marks_succ, List.length_append, ih]; simp [markC]; omega
theorem marks_at (n : Nat) : ∀ (m k j : Nat), k < m → j < 4 → (marks m n)[k * 4 + j]? = (markC n)[j]?
  | m + 1, k, j, hk, hj => by
    rw [marks_succ]
    have hl := marks_len m n
    by_cases h : k < m
    · rw [List.getElem?_append_left (by omega)]
      exact marks_at n m k j h hj
    · obtain rfl : k = m := by omega
      rw [List.getElem?_append_right (by omega), hl]
      congr 1
      omega
theorem marks_one (m n : Nat) : ∀ u ∈ marks m n, u.oneCell' = true := by
  intro u hu
  unfold marks at hu
  obtain ⟨l, hl, hu⟩ := List.mem_flatten.1 hu
  rw [(List.mem_replicate.1 hl).2] at hu
  simp [markC] at hu
  rcases hu with rfl | rfl | rfl | rfl <;> rfl

/-- The first k tokens are marks, the others as they were. -/
def partM (n k : Nat) (xs : List Value) : List Value := marks k n ++ xs.drop (k * 4)
theorem partM_zero (n : Nat) (xs : List Value) : partM n 0 xs = xs := by simp [partM, marks]
theorem partM_all (n m : Nat) (xs : List Value) (h : xs.length = m * 4) : partM n m xs = marks m n := by
  unfold partM; rw [← h, List.drop_length, List.append_nil]
theorem partM_len (n k m : Nat) (xs : List Value) (h : xs.length = m * 4) (hk : k ≤ m) : (partM n k xs).length = m * 4 := by
  unfold partM; rw [List.length_append, marks_len, List.length_drop]; omega
theorem set4 (A R : List Value) (a b c d a' b' c' d' : Value) (q : Nat) (hq : A.length = q) : ((((A ++ a :: b :: c :: d :: R).set q a').set (q + 1) b').set (q + 2) c').set (q + 3) d' = A ++ [a', b', c', d'] ++ R := by
  subst hq
  rw [List.set_append_right _ _ (Nat.le_refl _), List.set_append_right _ _ (by omega), List.set_append_right _ _ (by omega), List.set_append_right _ _ (by omega)]
  simp
theorem partM_set (n k m : Nat) (xs : List Value) (h : xs.length = m * 4) (hk : k < m) : ((((partM n k xs).set (k * 4) (.int .u8 0)).set (k * 4 + 1) (.string ⟨#[]⟩)).set (k * 4 + 2) (.int .i64 0)).set (k * 4 + 3) (.int .i64 (-1000 - (n : Int))) = partM n (k + 1) xs := by
  unfold partM
  obtain ⟨a, b, c, d, R, hR⟩ : ∃ a b c d R, xs.drop (k * 4) = a :: b :: c :: d :: R := by
    have hl : (xs.drop (k * 4)).length = m * 4 - k * 4 := by rw [List.length_drop, h]
    match hx : xs.drop (k * 4), hl with
    | [], hl => simp at hl; omega
    | [_], hl => simp at hl; omega
    | [_, _], hl => simp at hl; omega
    | [_, _, _], hl => simp at hl; omega
    | a :: b :: c :: d :: R, _ => exact ⟨a, b, c, d, R, rfl⟩
  have hR' : xs.drop ((k + 1) * 4) = R := by
    rw [show (k + 1) * 4 = k * 4 + 4 by omega, ← List.drop_drop, hR]
    rfl
  rw [hR', hR, set4 _ _ _ _ _ _ _ _ _ _ _ (marks_len k n), marks_succ]
  rfl

/-- The row's own cells. -/
theorem own_set {w : World} {B g n cap size : Nat} {e : TypeId} {xs : List Value} (h : w.ownsRow B e size (.slice (some ⟨g, 0, none⟩) n cap) n xs) (j : Nat) (u : Value) : (w.setCell ⟨g, j, none⟩ u).ownsRow B e size (.slice (some ⟨g, 0, none⟩) n cap) n (xs.set j u) := by
  obtain ⟨h1, h2⟩ := h
  refine ⟨by rw [List.length_set]; exact h1, ?_⟩
  rcases h2 with ⟨hv, _⟩ | ⟨g', cap', cur, hv, hg, hh, hn, hc, hs, ht⟩
  · cases hv
  · injection hv with e1 e2 e3
    injection e1 with e1
    injection e1 with e1
    subst e1; subst e3
    refine .inr ⟨g, cap, cur.setIfInBounds j u, rfl, hg, by simp [World.setCell, Array.getElem?_modify, hh], hn, hc, by simpa using hs, ?_⟩
    rw [Array.toList_setIfInBounds, List.take_set, ht]
theorem own_cell {w : World} {B g n cap size : Nat} {e : TypeId} {xs : List Value} (h : w.ownsRow B e size (.slice (some ⟨g, 0, none⟩) n cap) n xs) (j : Nat) (u : Value) (hj : xs[j]? = some u) : w.cell? ⟨g, j, none⟩ = some u := by
  have := World.ownsRow.cells h (g := g) rfl j u hj
  by_cases h0 : j = 0
  · subst h0; exact this
  · simpa [Addr.add, h0] using this
theorem own_frozen {w : World} {B g n cap size : Nat} {e : TypeId} {xs : List Value} (h : w.ownsRow B e size (.slice (some ⟨g, 0, none⟩) n cap) n xs) (j : Nat) : w.frozen? ⟨g, j, none⟩ = false := by
  rcases h.2 with ⟨hv, _⟩ | ⟨g', cap', cur, hv, hg, hh, _⟩
  · cases hv
  · injection hv with e1 e2 e3
    injection e1 with e1
    injection e1 with e1
    subst e1
    simp [World.frozen?, hh]
theorem own_kept {w w' : World} {B : Nat} {e : TypeId} {size : Nat} {v : Value} {n : Nat} {xs : List Value} (h : w.ownsRow B e size v n xs) (hk : ∀ g, v.ownBlock = some g → g < w.heap.size → w'.heap[g]? = w.heap[g]?) : w'.ownsRow B e size v n xs := by
  obtain ⟨h1, h2⟩ := h
  refine ⟨h1, ?_⟩
  rcases h2 with h2 | ⟨g, cap, cur, hv, hg, hh, r⟩
  · exact .inl h2
  · have hlt : g < w.heap.size := (Array.getElem?_eq_some_iff.1 hh).1
    exact .inr ⟨g, cap, cur, hv, hg, (hk g (by rw [hv]; rfl) hlt).trans hh, r⟩
theorem own_below2 {w w' : World} {B : Nat} {e : TypeId} {size : Nat} {v : Value} {n : Nat} {xs : List Value} (h : w.ownsRow B e size v n xs) (hb : Below w.heap.size w w') : w'.ownsRow B e size v n xs := own_kept h fun g _ hlt => hb.block g hlt
/-- Two rows of two kinds lie apart. -/
theorem own_apart {w : World} {B1 B2 : Nat} {e1 e2 : TypeId} {s1 s2 : Nat} {v1 v2 : Value} {n1 n2 : Nat} {xs1 xs2 : List Value} (h1 : w.ownsRow B1 e1 s1 v1 n1 xs1) (h2 : w.ownsRow B2 e2 s2 v2 n2 xs2) (hne : e1 ≠ e2) (g : Nat) (hg : v1.ownBlock = some g) : v2.ownBlock ≠ some g := by
  rcases h1.2 with ⟨rfl, _⟩ | ⟨g', cap, cur, rfl, _, hh, _⟩
  · simp [Value.ownBlock] at hg
  · have : g' = g := by simpa [Value.ownBlock] using hg
    subst this
    exact own_blk_ne h2 (cs := cur) hh (Ne.symm hne)

theorem infoHeld : (Tryz.prog.info? 90).map (fun i => (i.zero, i.size, i.bytes)) = some (some (.agg #[.slice none 0 0, .int .i64 0]), 2, 32) := by kernel_rfl

set_option maxHeartbeats 1600000 in
theorem keepToken_any (B b n : Nat) (v : Value) (xa : Option Addr) (xm xc : Nat) (xs : List Value) (w : World) (hb : Blk w b 62 (BookC n v)) (hBb : B ≤ b) (hB : B ≤ w.heap.size) (hown : w.ownsRow B 90 2 v n xs) (hn : n ≤ 100) :
    Calls Tryz.prog 12 #[.pointer (some ⟨b, 0, none⟩), .slice xa xm xc] w fun e w' => e = .returned (.tuple #[]) ∧ ∃ v', Blk w' b 62 (BookC (n + 1) v') ∧ w'.ownsRow B 90 2 v' (n + 1) (xs ++ [.slice xa xm xc, .int .i64 n]) ∧ Below B w w' ∧
      ∀ (y : Value) (m : Nat) (ys : List Value), w.ownsRow B 71 4 y m ys → w'.ownsRow B 71 4 y m ys := by
  have c0 : w.cell? ⟨b, 0, none⟩ = some (.int .i64 n) := (hb.cell 0).trans rfl
  have c6 : w.cell? ⟨b, 6, none⟩ = some v := (hb.cell 6).trans rfl
  have f0 := hb.frozen 0
  have f6 := hb.frozen 6
  have hlt := hb.lt
  have hvb : v.ownBlock ≠ some b := own_blk_ne hown hb (by decide)
  obtain ⟨i0, hi0, hz0, hz1, hz2⟩ := info_parts infoHeld
  have HOWN := Lib.hid hown
  have HBLK := Lib.hid hb
  clear hown hb
  go_enter Tryz.func12, Tryz.ntmps12
  go_wp2_with fail
  go_region_law
    ((refine step_append_lies _ (by rfl) _ _ _ (by rfl) B 90 i0 _ 2 32 Tryz.underlying32 hi0 hz0 hz1 hz2 rfl (by omega) v n xs (by rfl) (((HOWN.out).alloc _).drew)
        ⟨w.heap.size, 0, none⟩ 1 1 [.slice xa xm xc, .int .i64 n] (by rfl) (by rfl) (World.news_of_block (cs := #[.slice xa xm xc, .int .i64 n]) (t := 90) (fr := (0, 0)) (heap_alloc_new w _)) (by intro u hu; simp at hu; rcases hu with rfl | rfl <;> rfl)
        (by omega) (by unfold maxLen; omega) (by omega) (by simp; omega) (w.heap.size + 1) (by simp) ?_; intro gg cap w1 hown1 hgrow hat hlt1
      have k1 : w1.cell? ⟨b, 6, none⟩ = some v := by rw [hgrow.cell_far _ (by simp; omega) (Ne.symm hvb)]; go_simp
      have k2 : w1.frozen? ⟨b, 6, none⟩ = false := by rw [hgrow.frozen_far _ (by simp; omega) (Ne.symm hvb)]; go_simp
      have k3 : w1.cell? ⟨b, 0, none⟩ = some (.int .i64 n) := by rw [hgrow.cell_far _ (by simp; omega) (Ne.symm hvb)]; go_simp
      have k4 : w1.frozen? ⟨b, 0, none⟩ = false := by rw [hgrow.frozen_far _ (by simp; omega) (Ne.symm hvb)]; go_simp))
  all_goals
    go_wp2
    go_returns
    have hb1 : Blk w1 b 62 (BookC n v) := Blk.grown (HBLK.out.alloc _).drew hgrow (Ne.symm hvb)
    have hgb := own_blk_ne hown1 hb1 (by decide)
    refine ⟨rfl, .slice (some ⟨gg, 0, none⟩) (n + 1) cap, (hb1.set_ 6 _).set_ 0 _, own_set_ne (own_set_ne hown1 (a := ⟨b, 6, none⟩) hgb _) (a := ⟨b, 0, none⟩) hgb _, ?_, ?_⟩
    · have h0 : Below B w ((w.alloc (.cells #[.slice xa xm xc, .int .i64 n] 90)).drew) := ((Below.refl B w).alloc hB _).drew
      exact ((h0.grown hgrow (by simp; omega) (fun k hk => (HOWN.out.lt k hk).1)).setCell (p := ⟨b, 6, none⟩) hBb _).setCell (p := ⟨b, 0, none⟩) hBb _
    · intro y m ys hy
      have hyb := own_blk_ne hy HBLK.out (by decide)
      have hy1 : w1.ownsRow B 71 4 y m ys := own_kept hy fun g hg hlt2 => (hgrow.block g (by simp; omega) (fun e => own_apart hy HOWN.out (by decide) g hg e.symm)).trans (Lib.alloc_old w _ g hlt2)
      exact own_set_ne (own_set_ne hy1 (a := ⟨b, 6, none⟩) hyb _) (a := ⟨b, 0, none⟩) hyb _
end Go.Proofs.YteinadddmcicoaaGreatDoor
