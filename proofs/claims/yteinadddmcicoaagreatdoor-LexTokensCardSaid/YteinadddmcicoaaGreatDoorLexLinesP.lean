/- Lines, names and joins of a text's tokens; no program in this text. -/
import Derived.Test.YteinadddmcicoaaGreatDoorLexStep2
namespace Go.Proofs.YteinadddmcicoaaGreatDoor.LexPlain
open Go.Lib Go.RowKit

def lf (l : List UInt8) : Nat := l.countP (fun c => c.toNat == 10)
theorem lf_append (a b : List UInt8) : lf (a ++ b) = lf a + lf b := List.countP_append
theorem lf_zero {l : List UInt8} (h : ∀ c ∈ l, c.toNat ≠ 10) : lf l = 0 := by
  unfold lf
  rw [List.countP_eq_zero]
  intro c hc
  simpa using h c hc
theorem lf_split (l : List UInt8) (n : Nat) : lf l = lf (l.take n) + lf (l.drop n) := by
  rw [← lf_append, List.take_append_drop]
theorem spanL_stop (p : UInt8 → Bool) (c : UInt8) (r : List UInt8) (h : p c = false) : spanL p (c :: r) = 0 := by
  unfold spanL; rw [List.takeWhile_cons, if_neg (by rw [h]; decide)]; rfl
theorem span_all (p : UInt8 → Bool) : ∀ (l : List UInt8), ∀ c ∈ l.take (spanL p l), p c = true
  | [], c, hc => by simp at hc
  | a :: r, c, hc => by
    cases h : p a with
    | false => rw [spanL_stop p a r h] at hc; simp at hc
    | true =>
      rw [spanL_cons p a r h, Nat.add_comm, List.take_succ_cons] at hc
      rcases List.mem_cons.1 hc with rfl | hc
      · exact h
      · exact span_all p r c hc

theorem partB_lf {c : UInt8} (h : partB c = true) : c.toNat ≠ 10 := by
  intro hc
  unfold partB headB digitB at h
  simp at h
  omega
theorem digitB_lf {c : UInt8} (h : digitB c = true) : c.toNat ≠ 10 := by
  intro hc
  unfold digitB at h
  simp at h
  omega

theorem charF_lf0 {l : List UInt8} {b : UInt8} {n : Nat} (h : charF l = some (b, n)) : lf (l.take n) = 0 := by
  unfold charF at h
  split at h
  · cases h
  · rename_i c r
    split at h
    · cases h
    · rename_i h1
      split at h
      · rename_i h2
        split at h
        · cases h
        · rename_i e r2
          split at h
          · rename_i h3
            cases h
            exact lf_zero (by intro x hx; simp at hx; rcases hx with rfl | rfl <;> omega)
          · split at h
            · rename_i h4
              cases h
              exact lf_zero (by intro x hx; simp at hx; rcases hx with rfl | rfl <;> omega)
            · split at h
              · rename_i h5
                split at h
                · rename_i a b' rr
                  split at h
                  · rename_i x y hx hy
                    cases h
                    refine lf_zero (by
                      intro z hz
                      simp at hz
                      rcases hz with rfl | rfl | rfl | rfl
                      · omega
                      · omega
                      · intro hz; unfold hexV at hx; rw [hz] at hx; simp at hx
                      · intro hz; unfold hexV at hy; rw [hz] at hy; simp at hy)
                  · cases h
                · cases h
              · cases h
      · cases h
        exact lf_zero (by intro x hx; simp at hx; subst hx; omega)

theorem textF_lf0 : ∀ (f : Nat) (l bs : List UInt8) (m : Nat), textF f l = some (bs, m) → lf (l.take m) = 0
  | 0, l, bs, m, h => by simp [textF] at h
  | f + 1, l, bs, m, h => by
    unfold textF at h
    cases l with
    | nil => simp at h
    | cons c r =>
      simp only at h
      split at h
      · rename_i hc
        cases h
        exact lf_zero (by intro x hx; simp at hx; subst hx; omega)
      · cases hcf : charF (c :: r) with
        | none => rw [hcf] at h; cases h
        | some x =>
          obtain ⟨b, n⟩ := x
          rw [hcf] at h
          simp only at h
          cases ht : textF f ((c :: r).drop n) with
          | none => rw [ht] at h; cases h
          | some y =>
            obtain ⟨bs', m'⟩ := y
            rw [ht] at h
            simp only at h
            have h1 := charF_lf0 hcf
            have h2 := textF_lf0 f _ _ _ ht
            cases h
            rw [List.take_add, lf_append, h1, h2]

theorem signs_lf : signsL.all (fun w => w.all (fun c => c.toNat != 10)) = true := by decide +kernel
theorem signL_mem (l : List UInt8) (h : signL l ≠ 0) : l.take (signL l) ∈ signsL := by
  unfold signL at h ⊢
  split
  · rename_i h3
    have : l.take (l.take 3).length = l.take 3 := by
      rw [List.length_take]
      rcases Nat.le_total 3 l.length with hh | hh
      · rw [Nat.min_eq_left hh]
      · rw [Nat.min_eq_right hh, List.take_of_length_le (Nat.le_refl _), List.take_of_length_le hh]
    rw [this]; simpa using h3
  · split
    · rename_i h3
      have : l.take (l.take 2).length = l.take 2 := by
        rw [List.length_take]
        rcases Nat.le_total 2 l.length with hh | hh
        · rw [Nat.min_eq_left hh]
        · rw [Nat.min_eq_right hh, List.take_of_length_le (Nat.le_refl _), List.take_of_length_le hh]
      rw [this]; simpa using h3
    · split
      · rename_i h3
        have : l.take (l.take 1).length = l.take 1 := by
          rw [List.length_take]
          rcases Nat.le_total 1 l.length with hh | hh
          · rw [Nat.min_eq_left hh]
          · rw [Nat.min_eq_right hh, List.take_of_length_le (Nat.le_refl _), List.take_of_length_le hh]
        rw [this]; simpa using h3
      · rename_i a b c
        rw [if_neg a, if_neg b, if_neg c] at h
        exact absurd rfl h

/-- What each kind of token says of its text. -/
def TokOk (k : Nat) (s : List UInt8) (v : Int) : Prop :=
  (k = 1 ∧ isName s = true ∧ v = 0) ∨ (k = 2 ∧ isWord s = true ∧ v = 0) ∨ (k = 3 ∧ isName s = true ∧ v = 0) ∨ (k = 4 ∧ (∃ u, numOf s = some u ∧ v = wrap64 u) ∧ s ≠ [] ∧ s.all digitB = true) ∨ (k = 5 ∧ v = 0) ∨ (k = 6 ∧ s ∈ signsL ∧ v = 0)

theorem step_full {l : List UInt8} {o : Option (Nat × List UInt8 × Int)} {n f : Nat} (h : step l = some (o, n, f)) : lf (l.take n) = f ∧ (∀ k s v, o = some (k, s, v) → TokOk k s v ∧ f = 0) := by
  unfold step at h
  cases l with
  | nil => cases h
  | cons c r =>
    simp only at h
    split at h
    · rename_i h1
      cases h
      exact ⟨by simp [lf, h1], fun k s v hh => by cases hh⟩
    · rename_i h1
      split at h
      · cases h
        exact ⟨lf_zero (by intro x hx; simp at hx; subst hx; omega), fun k s v hh => by cases hh⟩
      · split at h
        · cases h
          exact ⟨lf_zero (fun x hx => by have := span_all notLF _ x hx; unfold notLF at this; simpa using this), fun k s v hh => by cases hh⟩
        · split at h
          · have hl : lf ((c :: r).take (spanL partB (c :: r))) = 0 := lf_zero (fun x hx => partB_lf (span_all partB _ x hx))
            split at h
            · rename_i hw
              cases h
              exact ⟨hl, fun k s v hh => by cases hh; exact ⟨.inr (.inl ⟨rfl, hw, rfl⟩), rfl⟩⟩
            · split at h
              · rename_i hn
                cases h
                exact ⟨hl, fun k s v hh => by cases hh; exact ⟨.inl ⟨rfl, hn, rfl⟩, rfl⟩⟩
              · cases h
          · split at h
            · rename_i h36
              split at h
              · rename_i hn
                cases h
                refine ⟨?_, fun k s v hh => by cases hh; exact ⟨.inr (.inr (.inl ⟨rfl, hn, rfl⟩)), rfl⟩⟩
                rw [Nat.add_comm, List.take_succ_cons, show c :: r.take (spanL partB r) = [c] ++ r.take (spanL partB r) from rfl, lf_append, lf_zero (fun x hx => partB_lf (span_all partB _ x hx)), lf_zero (by intro x hx; simp at hx; subst hx; omega)]
              · cases h
            · split at h
              · rename_i hd
                have hl : lf ((c :: r).take (spanL digitB (c :: r))) = 0 := lf_zero (fun x hx => digitB_lf (span_all digitB _ x hx))
                split at h
                · rename_i v hv
                  cases h
                  refine ⟨hl, fun k s v hh => ?_⟩
                  cases hh
                  refine ⟨.inr (.inr (.inr (.inl ⟨rfl, ⟨_, hv, rfl⟩, ?_, ?_⟩))), rfl⟩
                  · have := spanL_cons digitB c r hd
                    rw [this, Nat.add_comm, List.take_succ_cons]; simp
                  · exact List.all_eq_true.2 (fun x hx => span_all digitB _ x hx)
                · cases h
              · split at h
                · rename_i h39
                  split at h
                  · rename_i bs m ht
                    cases h
                    refine ⟨?_, fun k s v hh => by cases hh; exact ⟨.inr (.inr (.inr (.inr (.inl ⟨rfl, rfl⟩)))), rfl⟩⟩
                    have := textF_lf0 _ _ _ _ ht
                    rw [Nat.add_comm, List.take_succ_cons, show c :: r.take m = [c] ++ r.take m from rfl, lf_append, this, lf_zero (by intro x hx; simp at hx; subst hx; omega)]
                  · cases h
                · split at h
                  · cases h
                  · rename_i hs
                    cases h
                    have hm := signL_mem _ hs
                    refine ⟨lf_zero (fun x hx => ?_), fun k s v hh => by cases hh; exact ⟨.inr (.inr (.inr (.inr (.inr ⟨rfl, hm, rfl⟩)))), rfl⟩⟩
                    have := List.all_eq_true.1 (List.all_eq_true.1 signs_lf _ hm) x hx
                    simpa using this

/-- Lines lie between the first and the last, and never fall; each token is as its kind says. -/
def LinesOk (lo hi : Nat) : List Tok → Prop
  | [] => True
  | t :: ts => lo ≤ t.line ∧ t.line ≤ hi ∧ TokOk t.kind t.s t.n ∧ LinesOk t.line hi ts
theorem LinesOk.weaken {hi : Nat} : ∀ {ts : List Tok} {lo lo' : Nat}, LinesOk lo hi ts → lo' ≤ lo → LinesOk lo' hi ts
  | [], _, _, _, _ => trivial
  | t :: ts, lo, lo', ⟨h1, h2, h3, h4⟩, h => ⟨by omega, h2, h3, h4⟩

theorem lexA_lines : ∀ (g : Nat) (l : List UInt8) (line : Nat), l.length ≤ g → match lexA line l with
    | .inl e => line ≤ e ∧ e ≤ line + lf l
    | .inr ts => LinesOk line (line + lf l) ts
  | 0, l, line, h => by
    have : l = [] := List.eq_nil_of_length_eq_zero (by omega)
    subst this
    trivial
  | g + 1, l, line, h => by
    by_cases hl : l = []
    · subst hl; trivial
    · rw [lexA_step line hl]
      cases hs : step l with
      | none => exact ⟨Nat.le_refl _, by omega⟩
      | some x =>
        obtain ⟨o, n, f⟩ := x
        have hp := step_pos hs
        obtain ⟨hf, ht⟩ := step_full hs
        have hsp := lf_split l n
        have hd : (l.drop n).length ≤ g := by rw [List.length_drop]; omega
        cases o with
        | none =>
          have ih := lexA_lines g (l.drop n) (line + f) hd
          simp only
          cases hx : lexA (line + f) (l.drop n) with
          | inl e => rw [hx] at ih; exact ⟨by omega, by omega⟩
          | inr ts => rw [hx] at ih; simp only at ih ⊢; rw [hsp, hf, ← Nat.add_assoc]; exact ih.weaken (by omega)
        | some y =>
          obtain ⟨k, s, v⟩ := y
          obtain ⟨hok, hf0⟩ := ht k s v rfl
          have ih := lexA_lines g (l.drop n) line hd
          simp only
          cases hx : lexA line (l.drop n) with
          | inl e => rw [hx] at ih; exact ⟨by omega, by omega⟩
          | inr ts =>
            rw [hx] at ih
            simp only at ih ⊢
            rw [hsp, hf, hf0, Nat.zero_add]
            exact ⟨Nat.le_refl _, by simp, hok, ih⟩
end Go.Proofs.YteinadddmcicoaaGreatDoor.LexPlain
