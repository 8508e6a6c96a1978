/- Two texts with a line feed between them; no program in this text. -/
import Derived.Test.YteinadddmcicoaaGreatDoorLexLinesP
namespace Go.Proofs.YteinadddmcicoaaGreatDoor.LexPlain
open Go.Lib Go.RowKit

theorem span_join (p : UInt8 → Bool) (hp : p 10 = false) (b : List UInt8) : ∀ a : List UInt8, spanL p (a ++ 10 :: b) = spanL p a
  | [] => by rw [List.nil_append, spanL_stop p 10 b hp]; rfl
  | c :: r => by
    rw [List.cons_append]
    cases h : p c with
    | true => rw [spanL_cons p c _ h, spanL_cons p c _ h, span_join p hp b r]
    | false => rw [spanL_stop p c _ h, spanL_stop p c _ h]
theorem take_join (a b : List UInt8) (n : Nat) (h : n ≤ a.length) : (a ++ 10 :: b).take n = a.take n := List.take_append_of_le_length h
theorem drop_join (a b : List UInt8) (n : Nat) (h : n ≤ a.length) : (a ++ 10 :: b).drop n = a.drop n ++ 10 :: b := List.drop_append_of_le_length h

theorem charF_join (b : List UInt8) : ∀ l : List UInt8, l ≠ [] → charF (l ++ 10 :: b) = charF l
  | [], h => absurd rfl h
  | [c], _ => by
    show charF (c :: 10 :: b) = charF [c]
    unfold charF
    simp only
    by_cases h1 : c.toNat = 39 ∨ c.toNat = 10
    · rw [if_pos h1, if_pos h1]
    · rw [if_neg h1, if_neg h1]
      by_cases h2 : c.toNat = 92
      · rw [if_pos h2, if_pos h2]; rfl
      · rw [if_neg h2, if_neg h2]
  | [c, e], _ => by
    show charF (c :: e :: 10 :: b) = charF [c, e]
    unfold charF
    simp only
    by_cases h1 : c.toNat = 39 ∨ c.toNat = 10
    · rw [if_pos h1, if_pos h1]
    · rw [if_neg h1, if_neg h1]
      by_cases h2 : c.toNat = 92
      · rw [if_pos h2, if_pos h2]
        by_cases h3 : e.toNat = 39 ∨ e.toNat = 92
        · rw [if_pos h3, if_pos h3]
        · rw [if_neg h3, if_neg h3]
          by_cases h4 : e.toNat = 110
          · rw [if_pos h4, if_pos h4]
          · rw [if_neg h4, if_neg h4]
            by_cases h5 : e.toNat = 120
            · rw [if_pos h5, if_pos h5]
              cases b <;> rfl
            · rw [if_neg h5, if_neg h5]
      · rw [if_neg h2, if_neg h2]
  | [c, e, x], _ => by
    show charF (c :: e :: x :: 10 :: b) = charF [c, e, x]
    unfold charF
    simp only
    by_cases h1 : c.toNat = 39 ∨ c.toNat = 10
    · rw [if_pos h1, if_pos h1]
    · rw [if_neg h1, if_neg h1]
      by_cases h2 : c.toNat = 92
      · rw [if_pos h2, if_pos h2]
        by_cases h3 : e.toNat = 39 ∨ e.toNat = 92
        · rw [if_pos h3, if_pos h3]
        · rw [if_neg h3, if_neg h3]
          by_cases h4 : e.toNat = 110
          · rw [if_pos h4, if_pos h4]
          · rw [if_neg h4, if_neg h4]
            by_cases h5 : e.toNat = 120
            · rw [if_pos h5, if_pos h5]
              have : hexV 10 = none := rfl
              rw [this]
              cases hexV x <;> rfl
            · rw [if_neg h5, if_neg h5]
      · rw [if_neg h2, if_neg h2]
  | c :: e :: x :: y :: r, _ => by
    show charF (c :: e :: x :: y :: (r ++ 10 :: b)) = charF (c :: e :: x :: y :: r)
    unfold charF
    rfl

theorem textL_join (b : List UInt8) : ∀ (g : Nat) (l : List UInt8), l.length ≤ g → textL (l ++ 10 :: b) = textL l
  | g, [], _ => by
    rw [List.nil_append, textL_step (l := 10 :: b) (by simp) (by simp)]
    have : charF (10 :: b) = none := by unfold charF; simp only; rw [if_pos (by decide)]
    rw [this]; rfl
  | 0, c :: r, h => by simp at h
  | g + 1, c :: r, h => by
    by_cases h39 : c.toNat = 39
    · rw [List.cons_append, textL_end _ c h39, textL_end _ c h39]
    · rw [textL_step (l := c :: r ++ 10 :: b) (by simp) (by simpa using h39), textL_step (l := c :: r) (by simp) (by simpa using h39), charF_join b (c :: r) (by simp)]
      cases hc : charF (c :: r) with
      | none => rfl
      | some x =>
        obtain ⟨e, n⟩ := x
        have hp := charF_pos hc
        simp only
        rw [drop_join _ _ _ hp.2, textL_join b g ((c :: r).drop n) (by rw [List.length_drop]; omega)]

theorem no_lf_sign {w : List UInt8} (h : (10 : UInt8) ∈ w) : signsL.contains w = false := by
  cases hx : signsL.contains w with
  | false => rfl
  | true =>
    have := List.all_eq_true.1 (List.all_eq_true.1 signs_lf w (by simpa using hx)) 10 h
    simp at this
theorem signL_join (b : List UInt8) : ∀ a : List UInt8, a ≠ [] → signL (a ++ 10 :: b) = signL a
  | [], h => absurd rfl h
  | [x], _ => by
    have h3 : signsL.contains (([x] ++ 10 :: b).take 3) = false := no_lf_sign (by simp)
    have h2 : signsL.contains (([x] ++ 10 :: b).take 2) = false := no_lf_sign (by simp)
    unfold signL
    rw [h3, h2]
    show (if false = true then _ else if false = true then _ else if signsL.contains [x] = true then 1 else 0) = if signsL.contains [x] = true then 1 else if signsL.contains [x] = true then 1 else if signsL.contains [x] = true then 1 else 0
    by_cases hx : signsL.contains [x] = true
    · simp only [if_pos hx]; rfl
    · simp only [if_neg hx]; rfl
  | [x, y], _ => by
    have h3 : signsL.contains (([x, y] ++ 10 :: b).take 3) = false := no_lf_sign (by simp)
    unfold signL
    rw [h3]
    show (if false = true then _ else if signsL.contains [x, y] = true then 2 else if signsL.contains [x] = true then 1 else 0) = if signsL.contains [x, y] = true then 2 else if signsL.contains [x, y] = true then 2 else if signsL.contains [x] = true then 1 else 0
    by_cases hx : signsL.contains [x, y] = true
    · simp only [if_pos hx]; rfl
    · simp only [if_neg hx]; rfl
  | x :: y :: z :: r, _ => rfl

theorem head_join (r b : List UInt8) : ((r ++ 10 :: b).head?.map (·.toNat)) = some 47 ↔ (r.head?.map (·.toNat)) = some 47 := by
  cases r with
  | nil => simp
  | cons x r => simp

theorem step_join (b : List UInt8) : ∀ a : List UInt8, a ≠ [] → step (a ++ 10 :: b) = step a
  | [], h => absurd rfl h
  | c :: r, _ => by
    have E1 := span_join notLF (by decide) b (c :: r)
    have E2 := span_join partB (by decide) b (c :: r)
    have E3 := span_join partB (by decide) b r
    have E4 := span_join digitB (by decide) b (c :: r)
    have E5 := textL_join b r.length r (Nat.le_refl _)
    have E6 := signL_join b (c :: r) (by simp)
    have T2 := take_join (c :: r) b _ (spanL_le partB (c :: r))
    have T3 := take_join r b _ (spanL_le partB r)
    have T4 := take_join (c :: r) b _ (spanL_le digitB (c :: r))
    have T6 := take_join (c :: r) b _ (signL_le (c :: r))
    have H := head_join r b
    rw [List.cons_append] at E1 E2 E4 E6 T2 T4 T6
    rw [List.cons_append]
    unfold step
    simp only [E1, E2, E3, E4, E5, E6, T2, T3, T4, T6, H]

def thenL (ts : List Tok) : Sum Nat (List Tok) → Sum Nat (List Tok)
  | .inl e => .inl e
  | .inr us => .inr (ts ++ us)
theorem thenL_thenL (ts us : List Tok) (o : Sum Nat (List Tok)) : thenL ts (thenL us o) = thenL (ts ++ us) o := by
  cases o <;> simp [thenL]

theorem lexA_join (b : List UInt8) : ∀ (g : Nat) (a : List UInt8) (line : Nat), a.length ≤ g → lexA line (a ++ 10 :: b) = match lexA line a with
    | .inl e => .inl e
    | .inr ts => thenL ts (lexA (line + lf a + 1) b)
  | g, [], line, _ => by
    rw [List.nil_append, lexA_step line (l := 10 :: b) (by simp)]
    have : step (10 :: b) = some (none, 1, 1) := by unfold step; simp only; rw [if_pos (by decide)]
    rw [this, lexA_nil]
    show lexA (line + 1) b = thenL [] (lexA (line + lf [] + 1) b)
    have e : line + lf [] + 1 = line + 1 := by simp [lf]
    rw [e]
    cases lexA (line + 1) b <;> rfl
  | 0, c :: r, line, h => by simp at h
  | g + 1, c :: r, line, h => by
    rw [lexA_step line (l := c :: r ++ 10 :: b) (by simp), lexA_step line (l := c :: r) (by simp), step_join b (c :: r) (by simp)]
    cases hs : step (c :: r) with
    | none => rfl
    | some x =>
      obtain ⟨o, n, f⟩ := x
      have hp := step_pos hs
      obtain ⟨hf, ht⟩ := step_full hs
      have hsp := lf_split (c :: r) n
      rw [hf] at hsp
      have hd : ((c :: r).drop n).length ≤ g := by rw [List.length_drop]; omega
      cases o with
      | none =>
        simp only
        rw [drop_join _ _ _ hp.2, lexA_join b g ((c :: r).drop n) (line + f) hd]
        rw [hsp, ← Nat.add_assoc]
      | some y =>
        obtain ⟨k, s, v⟩ := y
        obtain ⟨_, hf0⟩ := ht k s v rfl
        simp only
        rw [drop_join _ _ _ hp.2, lexA_join b g ((c :: r).drop n) line hd]
        rw [hsp, hf0, Nat.zero_add]
        cases lexA line ((c :: r).drop n) with
        | inl e => rfl
        | inr ts =>
          simp only
          cases lexA (line + lf ((c :: r).drop n) + 1) b <;> rfl

def shift (k : Nat) (t : Tok) : Tok := { t with line := t.line + k }
theorem lexA_shift (k : Nat) : ∀ (g : Nat) (l : List UInt8) (line : Nat), l.length ≤ g → lexA (line + k) l = match lexA line l with
    | .inl e => .inl (e + k)
    | .inr ts => .inr (ts.map (shift k))
  | g, [], line, _ => rfl
  | 0, c :: r, line, h => by simp at h
  | g + 1, c :: r, line, h => by
    rw [lexA_step (line + k) (l := c :: r) (by simp), lexA_step line (l := c :: r) (by simp)]
    cases hs : step (c :: r) with
    | none => rfl
    | some x =>
      obtain ⟨o, n, f⟩ := x
      have hp := step_pos hs
      have hd : ((c :: r).drop n).length ≤ g := by rw [List.length_drop]; omega
      cases o with
      | none =>
        simp only
        have e : line + k + f = line + f + k := by omega
        rw [e, lexA_shift k g _ (line + f) hd]
      | some y =>
        obtain ⟨kk, s, v⟩ := y
        simp only
        rw [lexA_shift k g _ line hd]
        cases lexA line ((c :: r).drop n) with
        | inl e => rfl
        | inr ts => rfl
end Go.Proofs.YteinadddmcicoaaGreatDoor.LexPlain
