/- Plain facts for the laws of layer 2: line feeds, lines of tokens, short names. -/
import Derived.Test.YteinadddmcicoaaDoorLexRefFeeds
import Derived.Test.YteinadddmcicoaaDoorLexLinesP
import Derived.Test.YteinadddmcicoaaDoorLexSpellsP
namespace Go.Proofs.YteinadddmcicoaaDoor
open Go.RowKit Go.Shelf
open LexPlain (Tok lf lexA LinesOk TokOk)

theorem lf_feeds (l : List UInt8) : feedsL l = lf l := by
  unfold feedsL lf List.count
  apply List.countP_congr
  intro c _
  rw [beq_iff_eq, beq_iff_eq]
  exact ⟨fun h => by rw [h]; rfl, fun h => UInt8.toNat.inj (by rw [h]; rfl)⟩

theorem lines_at {hi : Nat} : ∀ {ts : List Tok} {lo : Nat}, LinesOk lo hi ts → ∀ (i : Nat) (h : i < ts.length), lo ≤ ts[i].line ∧ ts[i].line ≤ hi ∧ TokOk ts[i].kind ts[i].s ts[i].n ∧ ∀ (j : Nat) (hj : j + 1 = i), (ts[j]'(by omega)).line ≤ ts[i].line
  | t :: ts, lo, ⟨h1, h2, h3, h4⟩, 0, _ => ⟨h1, h2, h3, fun j hj => by omega⟩
  | t :: ts, lo, ⟨h1, h2, h3, h4⟩, i + 1, h => by
    have hh : i < ts.length := by simpa using h
    obtain ⟨a1, a2, a3, a4⟩ := lines_at h4 i hh
    refine ⟨Nat.le_trans h1 a1, a2, a3, fun j hj => ?_⟩
    obtain rfl : j = i := by omega
    cases j with
    | zero => exact a1
    | succ m => exact a4 m rfl
theorem name_small {s : List UInt8} (h : LexPlain.isName s = true) : s.length ≤ 24 := by
  unfold LexPlain.isName at h
  simp only [Bool.and_eq_true, decide_eq_true_eq] at h
  exact h.1.1.1.2
theorem words_small : LexPlain.wordsL.all (fun w => decide (w.length ≤ 24)) = true := by decide +kernel
theorem word_small {s : List UInt8} (h : LexPlain.isWord s = true) : s.length ≤ 24 := by
  have := List.all_eq_true.1 words_small s (List.contains_iff_mem.1 h)
  exact of_decide_eq_true this


end Go.Proofs.YteinadddmcicoaaDoor
