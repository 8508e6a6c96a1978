/- Rows of tokens whose lines are changed one after the other. -/
import Derived.Test.YteinadddmcicoaaDoorLexTwin
namespace Go.Proofs.YteinadddmcicoaaDoor
open Go.RowKit Go.Shelf
open LexPlain (Tok)

def upLine (f : Nat → Nat) (t : Tok) : Tok := { t with line := f t.line }
/-- The first k tokens with their lines changed. -/
def partUp (f : Nat → Nat) (k : Nat) (ts : List Tok) : List Tok := (ts.take k).map (upLine f) ++ ts.drop k

theorem partUp_zero (f : Nat → Nat) (ts : List Tok) : partUp f 0 ts = ts := by simp [partUp]
theorem partUp_all (f : Nat → Nat) (ts : List Tok) : partUp f ts.length ts = ts.map (upLine f) := by simp [partUp]
theorem partUp_succ (f : Nat → Nat) (k : Nat) (t : Tok) (ts : List Tok) : partUp f (k + 1) (t :: ts) = upLine f t :: partUp f k ts := rfl

theorem up_set (f : Nat → Nat) : ∀ (ts : List Tok) (k : Nat) (h : k < ts.length), ((partUp f k ts).flatMap tokCells).set (k * 4 + 3) (.int .i64 (f ts[k].line : Nat)) = (partUp f (k + 1) ts).flatMap tokCells
  | t :: ts, 0, _ => rfl
  | t :: ts, k + 1, h => by
    have hh : k < ts.length := by simpa using h
    rw [partUp_succ f (k + 1), partUp_succ, List.flatMap_cons, List.flatMap_cons, ← up_set f ts k hh]
    rw [List.set_append_right _ _ (by simp [tokCells]; omega), show (k + 1) * 4 + 3 - (tokCells (upLine f t)).length = k * 4 + 3 by simp [tokCells]; omega]
    rfl
theorem partUp_len (f : Nat → Nat) (k : Nat) (ts : List Tok) : (partUp f k ts).length = ts.length := by
  simp [partUp, List.length_append, List.length_map, List.length_take, List.length_drop]; omega
theorem partUp_line (f : Nat → Nat) : ∀ (ts : List Tok) (k : Nat) (h : k < ts.length), ((partUp f k ts).flatMap tokCells)[k * 4 + 3]? = some (.int .i64 ts[k].line)
  | t :: ts, 0, _ => rfl
  | t :: ts, k + 1, h => by
    have hh : k < ts.length := by simpa using h
    rw [partUp_succ, List.flatMap_cons, List.getElem?_append_right (by simp [tokCells]; omega), show (k + 1) * 4 + 3 - (tokCells (upLine f t)).length = k * 4 + 3 by simp [tokCells]; omega]
    exact partUp_line f ts k hh

theorem RowOf.write {w : World} {g m : Nat} {xs : List Value} (h : RowOf w g xs m) (j : Nat) (v : Value) : RowOf (w.setCell ⟨g, j, none⟩ v) g (xs.set j v) m := by
  obtain ⟨cur, h1, h2, h3⟩ := h
  refine ⟨cur.setIfInBounds j v, by simp [World.setCell, Array.getElem?_modify, h1], by simpa using h2, ?_⟩
  rw [Array.toList_setIfInBounds, List.length_set, List.take_set, h3]
theorem RowOf.at {w : World} {g m : Nat} {xs : List Value} (h : RowOf w g xs m) (j : Nat) (v : Value) (hj : xs[j]? = some v) : w.cell? ⟨g, j, none⟩ = some v := by
  obtain ⟨cur, h1, h2, h3⟩ := h
  rw [cell_of_row w g j cur _ _ h1]
  rw [← h3, List.getElem?_take] at hj
  split at hj
  · rw [← Array.getElem?_toList]; exact hj
  · cases hj
theorem RowOf.lt {w : World} {g m : Nat} {xs : List Value} (h : RowOf w g xs m) : g < w.heap.size := by
  obtain ⟨cur, h1, h2, h3⟩ := h
  exact (Array.getElem?_eq_some_iff.1 h1).1
theorem up_row {w : World} {g m : Nat} (f : Nat → Nat) (ts : List Tok) (k : Nat) (hk : k < ts.length) (h : RowOf w g ((partUp f k ts).flatMap tokCells) m) (v : Value) (hv : v = .int .i64 (f ts[k].line : Nat)) : RowOf (w.setCell ⟨g, k * 4 + 3, none⟩ v) g ((partUp f (k + 1) ts).flatMap tokCells) m := by
  have := h.write (k * 4 + 3) v
  rw [hv, up_set f ts k hk] at this
  rw [hv]
  exact this
end Go.Proofs.YteinadddmcicoaaDoor
