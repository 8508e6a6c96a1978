/- Walks over lists of tokens: SameTokens. -/
import Derived.Test.YteinadddmcicoaaGreatDoorLexScan
import Derived.Test.YteinadddmcicoaaGreatDoorLexStep
namespace Go.Proofs.YteinadddmcicoaaGreatDoor
open Go.RowKit Go.Shelf
open LexPlain (Tok)

/-- The cells of token i in a row at block g. -/
def TokAt (w : World) (g : Nat) (ts : List Tok) : Prop :=
  ∀ (i : Nat) (h : i < ts.length), w.cell? ⟨g, i * 4, none⟩ = some (.int .u8 ts[i].kind) ∧ w.cell? ⟨g, i * 4 + 1, none⟩ = some (.string ⟨ts[i].s.toArray⟩) ∧ w.cell? ⟨g, i * 4 + 2, none⟩ = some (.int .i64 ts[i].n) ∧ w.cell? ⟨g, i * 4 + 3, none⟩ = some (.int .i64 ts[i].line)

theorem flat4 : ∀ (ts : List Tok) (i : Nat) (h : i < ts.length) (k : Nat), k < 4 → (ts.flatMap tokCells)[i * 4 + k]? = (tokCells ts[i])[k]?
  | t :: ts, 0, _, k, hk => by
    simp only [List.flatMap_cons, Nat.zero_mul, Nat.zero_add, List.getElem_cons_zero]
    rw [List.getElem?_append_left (by simp [tokCells]; omega)]
  | t :: ts, i + 1, h, k, hk => by
    have hh : i < ts.length := by simpa using h
    simp only [List.flatMap_cons, List.getElem_cons_succ]
    rw [List.getElem?_append_right (by simp [tokCells]; omega), show (i + 1) * 4 + k - (tokCells t).length = i * 4 + k by simp [tokCells]; omega]
    exact flat4 ts i hh k hk

theorem tokAt_of {w : World} {B : Nat} {v : Value} {ts : List Tok} (h : w.ownsRow B 71 4 v ts.length (ts.flatMap tokCells)) (hn : 0 < ts.length) :
    ∃ g cap, v = .slice (some ⟨g, 0, none⟩) ts.length cap ∧ B ≤ g ∧ g < w.heap.size ∧ TokAt w g ts := by
  obtain ⟨g, cap, hv, hg, hl⟩ := h.form hn
  have hc : ∀ j u, (ts.flatMap tokCells)[j]? = some u → w.cell? ⟨g, j, none⟩ = some u := fun j u hj => by
    have := World.ownsRow.cells h (g := g) (by rw [hv]; rfl) j u hj
    by_cases h0 : j = 0
    · subst h0; exact this
    · simpa [Addr.add, h0] using this
  refine ⟨g, cap, hv, hg, hl, fun i hi => ?_⟩
  have f := flat4 ts i hi
  refine ⟨hc _ _ ?_, hc _ _ ?_, hc _ _ ?_, hc _ _ ?_⟩
  · have := f 0 (by omega); simpa [tokCells] using this
  · have := f 1 (by omega); simpa [tokCells] using this
  · have := f 2 (by omega); simpa [tokCells] using this
  · have := f 3 (by omega); simpa [tokCells] using this

set_option maxHeartbeats 3200000 in
set_option maxRecDepth 100000 in
theorem same_true (ts : List Tok) (hlen : ts.length ≤ 1000000) (g1 g2 c1 c2 : Nat) (w : World) (h1 : TokAt w g1 ts) (h2 : TokAt w g2 ts) (a1 a2 : Option Addr) (ha1 : 0 < ts.length → a1 = some ⟨g1, 0, none⟩) (ha2 : 0 < ts.length → a2 = some ⟨g2, 0, none⟩) :
    Calls Tryz.prog 6 #[.slice a1 ts.length c1, .slice a2 ts.length c2] w fun e w' => e = .returned (.bool true) ∧ Below w.heap.size w w' := by
  go_enter Tryz.func6, Tryz.ntmps6
  go_wp2
  go_loopw [13] (fun vi wr => ∃ k n : Nat, vi = .int .i64 k ∧ k ≤ ts.length ∧ wr = w.drewN n) (fun vi _ => ts.length - (intOf vi).toNat)
  case atStart => exact ⟨0, 0, rfl, by omega, rfl⟩
  case round =>
    obtain ⟨k, n, rfl, hk, rfl⟩ := hrel
    by_cases hkn : k < ts.length
    · obtain rfl := ha1 (by omega)
      obtain rfl := ha2 (by omega)
      obtain ⟨p0, p1, p2, p3⟩ := h1 k hkn
      obtain ⟨q0, q1, q2, q3⟩ := h2 k hkn
      have i1 : (k : Int) < (ts.length : Int) := by omega
      generalize ts[k] = t at p0 p1 p2 p3 q0 q1 q2 q3
      go_wp2_with fail
      go_quiet (fail)
      go_wp2_with fail
      go_roundw
      case rel => exact ⟨k + 1, _, by go_num, by omega, rfl⟩
      case measure => simp [intOf]; omega
    · go_wp2_with fail
      go_returns
      exact ⟨rfl, rfl, rfl, rfl, Nat.le_refl _, fun _ _ => rfl⟩

theorem own_form {w : World} {B : Nat} {e : TypeId} {v : Value} {n : Nat} {xs : List Value} (h : w.ownsRow B e 4 v n xs) : ∃ a cap, v = .slice a n cap := by
  rcases h.2 with ⟨rfl, rfl⟩ | ⟨g', cap, cur, rfl, _⟩
  · exact ⟨_, _, rfl⟩
  · exact ⟨_, _, rfl⟩
theorem same_any {B1 B2 : Nat} {v1 v2 : Value} (ts : List Tok) (hlen : ts.length ≤ 1000000) (w : World) (h1 : w.ownsRow B1 71 4 v1 ts.length (ts.flatMap tokCells)) (h2 : w.ownsRow B2 71 4 v2 ts.length (ts.flatMap tokCells)) :
    Calls Tryz.prog 6 #[v1, v2] w fun e w' => e = .returned (.bool true) ∧ Below w.heap.size w w' := by
  by_cases h0 : 0 < ts.length
  · obtain ⟨g1, c1, rfl, _, _, t1⟩ := tokAt_of h1 h0
    obtain ⟨g2, c2, rfl, _, _, t2⟩ := tokAt_of h2 h0
    exact same_true ts hlen g1 g2 c1 c2 w t1 t2 _ _ (fun _ => rfl) (fun _ => rfl)
  · obtain ⟨a1, c1, rfl⟩ := own_form h1
    obtain ⟨a2, c2, rfl⟩ := own_form h2
    exact same_true ts hlen 0 0 c1 c2 w (fun i hi => absurd hi (by omega)) (fun i hi => absurd hi (by omega)) _ _ (fun h => absurd h h0) (fun h => absurd h h0)

set_option maxHeartbeats 1600000 in
theorem mark_any (n : Nat) (hn : n ≤ 2000000) (w : World) :
    Calls Tryz.prog 137 #[.int .i64 n] w fun e w' => e = .returned (.agg #[.int .u8 0, .string ⟨#[]⟩, .int .i64 0, .int .i64 (-1000 - (n : Int))]) ∧ Below w.heap.size w w' := by
  go_enter Tryz.func137, Tryz.ntmps137
  go_wp2
  go_returns
  exact ⟨rfl, (Below.refl _ w).alloc (Nat.le_refl _) _⟩
end Go.Proofs.YteinadddmcicoaaGreatDoor
