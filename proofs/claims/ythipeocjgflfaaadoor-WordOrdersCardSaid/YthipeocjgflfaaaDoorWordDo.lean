/- Walks over word.Do and the reference's Do: each answers what 'doR' says, wrapped round, and leaves the world as it was. -/
import Derived.Test.YthipeocjgflfaaaDoorWordWalks
namespace Go.Proofs.YthipeocjgflfaaaDoor
open Go.RowKit Go.Shelf

/-- An operation's answer and its error. -/
def doR (c a b : Int) : Int × Int :=
  if c = 1 then (wrap64 (a + b), 0) else if c = 2 then (wrap64 (a - b), 0) else if c = 3 then (wrap64 (a * b), 0)
  else if c = 4 then (if b = 0 then (0, 4) else if b = -1 ∧ a = -9223372036854775808 then (0, 5) else (wrap64 (a.tdiv b), 0))
  else if c = 5 then (if b = 0 then (0, 4) else (a.tmod b, 0))
  else if c = 6 then (if a < b then 1 else 0, 0) else if c = 7 then (if a ≤ b then 1 else 0, 0)
  else if c = 8 then (if b < a then 1 else 0, 0) else if c = 9 then (if b ≤ a then 1 else 0, 0) else (0, 1)

theorem ret2 {a b x y : Int} (h1 : a = x) (h2 : b = y) : Ending.returned (.tuple #[.int .i64 a, .int .i64 b]) = .returned (.tuple #[.int .i64 x, .int .i64 y]) := by rw [h1, h2]

def Does (f : FuncId) (c a b : Int) : Prop := ∀ w, Calls Tryd.prog f #[.int .u8 c, .int .i64 a, .int .i64 b] w fun e w' => e = .returned (.tuple #[.int .i64 (doR c a b).1, .int .i64 (doR c a b).2]) ∧ w = w'

theorem do_all (c a b : Int) (g1 : 0 ≤ c) (g2 : c ≤ 255) (h1 : -9223372036854775808 ≤ a) (h2 : a ≤ 9223372036854775807) (h3 : -9223372036854775808 ≤ b) (h4 : b ≤ 9223372036854775807) : Does 9 c a b := by
  intro w
  by_cases e1 : c = 1
  · subst e1
    go_enter Tryd.func9, Tryd.ntmps9
    go_wp2
    all_goals (go_ret2; exact ⟨ret2 (by simp [doR]) (by simp [doR]), rfl⟩)
  by_cases e2 : c = 2
  · subst e2
    go_enter Tryd.func9, Tryd.ntmps9
    go_wp2
    all_goals (go_ret2; exact ⟨ret2 (by simp [doR]) (by simp [doR]), rfl⟩)
  by_cases e3 : c = 3
  · subst e3
    go_enter Tryd.func9, Tryd.ntmps9
    go_wp2
    all_goals (go_ret2; exact ⟨ret2 (by simp [doR]) (by simp [doR]), rfl⟩)
  by_cases e4 : c = 4
  · subst e4
    clear e1 e2 e3
    by_cases hb : b = 0
    · subst hb
      go_enter Tryd.func9, Tryd.ntmps9
      go_wp2
      all_goals (go_ret2; exact ⟨ret2 (by simp [doR]) (by simp [doR]), rfl⟩)
    by_cases hn : b = -1
    · subst hn
      by_cases hm : a = -9223372036854775808
      · subst hm
        go_enter Tryd.func9, Tryd.ntmps9
        go_wp2
        all_goals (go_ret2; exact ⟨ret2 (by simp [doR]) (by simp [doR]), rfl⟩)
      · go_enter Tryd.func9, Tryd.ntmps9
        go_wp2
        all_goals (go_ret2; exact ⟨ret2 (by simp [doR, hm]; try (unfold wrap64; omega)) (by simp [doR, hm]), rfl⟩)
    · go_enter Tryd.func9, Tryd.ntmps9
      go_wp2
      all_goals (go_ret2; refine ⟨ret2 ?_ ?_, rfl⟩)
      all_goals (simp_all [doR])
  by_cases e5 : c = 5
  · subst e5
    clear e1 e2 e3 e4
    by_cases hb : b = 0
    · subst hb
      go_enter Tryd.func9, Tryd.ntmps9
      go_wp2
      all_goals (go_ret2; exact ⟨ret2 (by simp [doR]) (by simp [doR]), rfl⟩)
    · go_enter Tryd.func9, Tryd.ntmps9
      go_wp2
      all_goals (go_ret2; refine ⟨ret2 ?_ ?_, rfl⟩)
      all_goals (simp_all [doR])
  by_cases e6 : c = 6
  · subst e6
    clear e1 e2 e3 e4 e5
    go_enter Tryd.func9, Tryd.ntmps9
    go_wp2
    all_goals (go_ret2; refine ⟨ret2 ?_ ?_, rfl⟩)
    all_goals (simp [doR]; try omega)
  by_cases e7 : c = 7
  · subst e7
    clear e1 e2 e3 e4 e5 e6
    go_enter Tryd.func9, Tryd.ntmps9
    go_wp2
    all_goals (go_ret2; refine ⟨ret2 ?_ ?_, rfl⟩)
    all_goals (simp [doR]; try omega)
  by_cases e8 : c = 8
  · subst e8
    clear e1 e2 e3 e4 e5 e6 e7
    go_enter Tryd.func9, Tryd.ntmps9
    go_wp2
    all_goals (go_ret2; refine ⟨ret2 ?_ ?_, rfl⟩)
    all_goals (simp [doR]; try omega)
  by_cases e9 : c = 9
  · subst e9
    clear e1 e2 e3 e4 e5 e6 e7 e8
    go_enter Tryd.func9, Tryd.ntmps9
    go_wp2
    all_goals (go_ret2; refine ⟨ret2 ?_ ?_, rfl⟩)
    all_goals (simp [doR]; try omega)
  · go_enter Tryd.func9, Tryd.ntmps9
    go_wp2
    all_goals (go_ret2; refine ⟨ret2 ?_ ?_, rfl⟩)
    all_goals (simp [doR, e1, e2, e3, e4, e5, e6, e7, e8, e9])

theorem doRef_all (c a b : Int) (g1 : 0 ≤ c) (g2 : c ≤ 255) (h1 : -9223372036854775808 ≤ a) (h2 : a ≤ 9223372036854775807) (h3 : -9223372036854775808 ≤ b) (h4 : b ≤ 9223372036854775807) : Does 10 c a b := by
  intro w
  by_cases e1 : c = 1
  · subst e1
    go_enter Tryd.func10, Tryd.ntmps10
    go_wp2
    all_goals (go_ret2; exact ⟨ret2 (by simp [doR]) (by simp [doR]), rfl⟩)
  by_cases e2 : c = 2
  · subst e2
    go_enter Tryd.func10, Tryd.ntmps10
    go_wp2
    all_goals (go_ret2; exact ⟨ret2 (by simp [doR]) (by simp [doR]), rfl⟩)
  by_cases e3 : c = 3
  · subst e3
    go_enter Tryd.func10, Tryd.ntmps10
    go_wp2
    all_goals (go_ret2; exact ⟨ret2 (by simp [doR]) (by simp [doR]), rfl⟩)
  by_cases e4 : c = 4
  · subst e4
    clear e1 e2 e3
    by_cases hb : b = 0
    · subst hb
      go_enter Tryd.func10, Tryd.ntmps10
      go_wp2
      all_goals (go_ret2; exact ⟨ret2 (by simp [doR]) (by simp [doR]), rfl⟩)
    by_cases hn : b = -1
    · subst hn
      by_cases hm : a = -9223372036854775808
      · subst hm
        go_enter Tryd.func10, Tryd.ntmps10
        go_wp2
        all_goals (go_ret2; exact ⟨ret2 (by simp [doR]) (by simp [doR]), rfl⟩)
      · go_enter Tryd.func10, Tryd.ntmps10
        go_wp2
        all_goals (go_ret2; exact ⟨ret2 (by simp [doR, hm]; try (unfold wrap64; omega)) (by simp [doR, hm]), rfl⟩)
    · go_enter Tryd.func10, Tryd.ntmps10
      go_wp2
      all_goals (go_ret2; refine ⟨ret2 ?_ ?_, rfl⟩)
      all_goals (simp_all [doR])
  by_cases e5 : c = 5
  · subst e5
    clear e1 e2 e3 e4
    by_cases hb : b = 0
    · subst hb
      go_enter Tryd.func10, Tryd.ntmps10
      go_wp2
      all_goals (go_ret2; exact ⟨ret2 (by simp [doR]) (by simp [doR]), rfl⟩)
    · go_enter Tryd.func10, Tryd.ntmps10
      go_wp2
      all_goals (go_ret2; refine ⟨ret2 ?_ ?_, rfl⟩)
      all_goals (simp_all [doR])
  by_cases e6 : c = 6
  · subst e6
    clear e1 e2 e3 e4 e5
    go_enter Tryd.func10, Tryd.ntmps10
    go_wp2
    all_goals (go_ret2; refine ⟨ret2 ?_ ?_, rfl⟩)
    all_goals (simp [doR]; try omega)
  by_cases e7 : c = 7
  · subst e7
    clear e1 e2 e3 e4 e5 e6
    go_enter Tryd.func10, Tryd.ntmps10
    go_wp2
    all_goals (go_ret2; refine ⟨ret2 ?_ ?_, rfl⟩)
    all_goals (simp [doR]; try omega)
  by_cases e8 : c = 8
  · subst e8
    clear e1 e2 e3 e4 e5 e6 e7
    go_enter Tryd.func10, Tryd.ntmps10
    go_wp2
    all_goals (go_ret2; refine ⟨ret2 ?_ ?_, rfl⟩)
    all_goals (simp [doR]; try omega)
  by_cases e9 : c = 9
  · subst e9
    clear e1 e2 e3 e4 e5 e6 e7 e8
    go_enter Tryd.func10, Tryd.ntmps10
    go_wp2
    all_goals (go_ret2; refine ⟨ret2 ?_ ?_, rfl⟩)
    all_goals (simp [doR]; try omega)
  · go_enter Tryd.func10, Tryd.ntmps10
    go_wp2
    all_goals (go_ret2; refine ⟨ret2 ?_ ?_, rfl⟩)
    all_goals (simp [doR, e1, e2, e3, e4, e5, e6, e7, e8, e9])
end Go.Proofs.YthipeocjgflfaaaDoor
