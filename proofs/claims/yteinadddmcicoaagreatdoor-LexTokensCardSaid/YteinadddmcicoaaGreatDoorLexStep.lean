/- How a text is cut into tokens, as functions on bytes: one step, and all of it; no program in this text. -/
import Derived.Test.YteinadddmcicoaaGreatDoorLexPlain
namespace Go.Proofs.YteinadddmcicoaaGreatDoor.LexPlain
open Go.Lib Go.RowKit

structure Tok where
  kind : Nat
  s : List UInt8
  n : Int
  line : Nat

def numOf (ds : List UInt8) : Option Nat :=
  match parseUintB 64 ds with
  | .ok v => if v ≤ 9223372036854775808 ∧ decDigits v = ds then some v else none
  | _ => none

def hexV (c : UInt8) : Option Nat := if 48 ≤ c.toNat ∧ c.toNat ≤ 57 then some (c.toNat - 48) else if 97 ≤ c.toNat ∧ c.toNat ≤ 102 then some (c.toNat - 87) else none

/-- One byte of a text's inside, and how many bytes of the program's text it takes; none: it is at an end, or there is none. -/
def charF : List UInt8 → Option (UInt8 × Nat)
  | [] => none
  | c :: r =>
    if c.toNat = 39 ∨ c.toNat = 10 then none
    else if c.toNat = 92 then
      match r with
      | [] => none
      | e :: r2 =>
        if e.toNat = 39 ∨ e.toNat = 92 then some (e, 2)
        else if e.toNat = 110 then some (10, 2)
        else if e.toNat = 120 then
          match r2 with
          | h1 :: h2 :: _ => match hexV h1, hexV h2 with
            | some a, some b => some (UInt8.ofNat (a * 16 + b), 4)
            | _, _ => none
          | _ => none
        else none
    else some (c, 1)

/-- The inside of a text up to its end: the bytes, and how many bytes of the program's text they take, the end's too. -/
def textF : Nat → List UInt8 → Option (List UInt8 × Nat)
  | 0, _ => none
  | f + 1, l =>
    match l with
    | [] => none
    | c :: _ =>
      if c.toNat = 39 then some ([], 1)
      else match charF l with
        | none => none
        | some (b, n) => match textF f (l.drop n) with
          | none => none
          | some (bs, m) => some (b :: bs, n + m)
def textL (l : List UInt8) : Option (List UInt8 × Nat) := textF l.length l

theorem charF_pos {l : List UInt8} {b : UInt8} {n : Nat} (h : charF l = some (b, n)) : 1 ≤ n ∧ n ≤ l.length := by
  unfold charF at h
  split at h
  · cases h
  · split at h
    · cases h
    · split at h
      · split at h
        · cases h
        · split at h
          · cases h; simp
          · split at h
            · cases h; simp
            · split at h
              · split at h
                · split at h
                  · cases h; simp
                  · cases h
                · cases h
              · cases h
      · cases h; simp

/-- Fuel enough is enough. -/
theorem textF_fuel : ∀ (f g : Nat) (l : List UInt8), l.length ≤ f → l.length ≤ g → textF f l = textF g l
  | 0, 0, _, _, _ => rfl
  | 0, g + 1, l, h, _ => by
    have : l = [] := List.eq_nil_of_length_eq_zero (by omega)
    subst this; rfl
  | f + 1, 0, l, _, h => by
    have : l = [] := List.eq_nil_of_length_eq_zero (by omega)
    subst this; rfl
  | f + 1, g + 1, l, h1, h2 => by
    unfold textF
    cases l with
    | nil => rfl
    | cons c r =>
      simp only
      split
      · rfl
      · cases hc : charF (c :: r) with
        | none => rfl
        | some x =>
          obtain ⟨b, n⟩ := x
          have hp := charF_pos hc
          have e : ((c :: r).drop n).length = (c :: r).length - n := List.length_drop
          simp only
          rw [textF_fuel f g ((c :: r).drop n) (by omega) (by omega)]

theorem textL_nil : textL [] = none := rfl
theorem textL_end (r : List UInt8) (c : UInt8) (h : c.toNat = 39) : textL (c :: r) = some ([], 1) := by
  unfold textL; simp only [List.length_cons, textF]; rw [if_pos h]
theorem textL_step {l : List UInt8} (hl : l ≠ []) (h : ¬ (l.head?.map (·.toNat)) = some 39) : textL l = match charF l with
    | none => none
    | some (b, n) => match textL (l.drop n) with
      | none => none
      | some (bs, m) => some (b :: bs, n + m) := by
  cases l with
  | nil => exact absurd rfl hl
  | cons c r =>
    have hc : ¬ c.toNat = 39 := by simpa using h
    unfold textL
    simp only [List.length_cons, textF]
    rw [if_neg hc]
    cases hx : charF (c :: r) with
    | none => rfl
    | some x =>
      obtain ⟨b, n⟩ := x
      have hp := charF_pos hx
      simp only
      rw [textF_fuel r.length ((c :: r).drop n).length ((c :: r).drop n) (by rw [List.length_drop]; simp; omega) (Nat.le_refl _)]

def signL (l : List UInt8) : Nat := if signsL.contains (l.take 3) = true then (l.take 3).length else if signsL.contains (l.take 2) = true then (l.take 2).length else if signsL.contains (l.take 1) = true then (l.take 1).length else 0

/-- What stands next: none: no token; (none, n, f): n bytes that are none's, with f line feeds; (some (kind, S, N), n, _): a token of n bytes. -/
def step (l : List UInt8) : Option (Option (Nat × List UInt8 × Int) × Nat × Nat) :=
  match l with
  | [] => none
  | c :: r =>
    if c.toNat = 10 then some (none, 1, 1)
    else if c.toNat = 32 ∨ c.toNat = 9 ∨ c.toNat = 13 then some (none, 1, 0)
    else if c.toNat = 47 ∧ (r.head?.map (·.toNat)) = some 47 then some (none, spanL notLF l, 0)
    else if headB c then
      if isWord (l.take (spanL partB l)) then some (some (2, l.take (spanL partB l), 0), spanL partB l, 0)
      else if isName (l.take (spanL partB l)) then some (some (1, l.take (spanL partB l), 0), spanL partB l, 0) else none
    else if c.toNat = 36 then
      if isName (r.take (spanL partB r)) then some (some (3, r.take (spanL partB r), 0), 1 + spanL partB r, 0) else none
    else if digitB c then
      match numOf (l.take (spanL digitB l)) with
      | some v => some (some (4, l.take (spanL digitB l), wrap64 v), spanL digitB l, 0)
      | none => none
    else if c.toNat = 39 then
      match textL r with
      | some (bs, m) => some (some (5, bs, 0), 1 + m, 0)
      | none => none
    else if signL l = 0 then none else some (some (6, l.take (signL l), 0), signL l, 0)

theorem spanL_le (p : UInt8 → Bool) (l : List UInt8) : spanL p l ≤ l.length := (List.takeWhile_sublist p).length_le
theorem spanL_cons (p : UInt8 → Bool) (c : UInt8) (r : List UInt8) (h : p c = true) : spanL p (c :: r) = 1 + spanL p r := by
  unfold spanL; rw [List.takeWhile_cons, if_pos h, List.length_cons]; omega
theorem textF_le : ∀ (f : Nat) (l bs : List UInt8) (m : Nat), textF f l = some (bs, m) → 1 ≤ m ∧ m ≤ l.length ∧ bs.length + 1 ≤ m
  | 0, l, bs, m, h => by simp [textF] at h
  | f + 1, l, bs, m, h => by
    unfold textF at h
    cases l with
    | nil => simp at h
    | cons c r =>
      simp only at h
      split at h
      · cases h; simp
      · cases hc : charF (c :: r) with
        | none => rw [hc] at h; cases h
        | some x =>
          obtain ⟨b, n⟩ := x
          have hp := charF_pos hc
          rw [hc] at h
          simp only at h
          cases ht : textF f ((c :: r).drop n) with
          | none => rw [ht] at h; cases h
          | some y =>
            obtain ⟨bs', m'⟩ := y
            rw [ht] at h
            simp only at h
            obtain ⟨a1, a2, a3⟩ := textF_le f _ _ _ ht
            rw [List.length_drop] at a2
            cases h
            exact ⟨by omega, by omega, by simp; omega⟩
theorem textL_le {l bs : List UInt8} {m : Nat} (h : textL l = some (bs, m)) : 1 ≤ m ∧ m ≤ l.length ∧ bs.length + 1 ≤ m := textF_le _ _ _ _ h
theorem signL_le (l : List UInt8) : signL l ≤ l.length := by
  unfold signL
  split
  · simp; omega
  · split
    · simp; omega
    · split
      · simp; omega
      · omega

theorem step_pos {l : List UInt8} {o : Option (Nat × List UInt8 × Int)} {n f : Nat} (h : step l = some (o, n, f)) : 1 ≤ n ∧ n ≤ l.length := by
  unfold step at h
  cases l with
  | nil => cases h
  | cons c r =>
    simp only at h
    split at h
    · cases h; simp
    · split at h
      · cases h; simp
      · split at h
        · rename_i hc
          cases h
          have h1 : notLF c = true := by unfold notLF; simp; omega
          have := spanL_cons notLF c r h1
          exact ⟨by omega, spanL_le _ _⟩
        · split at h
          · rename_i hh
            have h1 : partB c = true := by unfold partB; rw [hh]; rfl
            have e := spanL_cons partB c r h1
            have := spanL_le partB (c :: r)
            split at h
            · cases h; omega
            · split at h
              · cases h; omega
              · cases h
          · split at h
            · have := spanL_le partB r
              split at h
              · cases h; simp; omega
              · cases h
            · split at h
              · rename_i hd
                have e := spanL_cons digitB c r hd
                have := spanL_le digitB (c :: r)
                split at h
                · cases h; omega
                · cases h
              · split at h
                · split at h
                  · rename_i ht
                    have := textL_le ht
                    cases h; simp; omega
                  · cases h
                · split at h
                  · cases h
                  · have := signL_le (c :: r)
                    cases h; omega

/-- All tokens, from a line on: (inl the line where none begins), or (inr the tokens). -/
def lexF : Nat → Nat → List UInt8 → Sum Nat (List Tok)
  | 0, _, _ => .inr []
  | g + 1, line, l =>
    match l with
    | [] => .inr []
    | _ :: _ =>
      match step l with
      | none => .inl line
      | some (none, n, f) => lexF g (line + f) (l.drop n)
      | some (some (k, s, v), n, _) => match lexF g line (l.drop n) with
        | .inl e => .inl e
        | .inr ts => .inr (⟨k, s, v, line⟩ :: ts)
def lexA (line : Nat) (l : List UInt8) : Sum Nat (List Tok) := lexF l.length line l

theorem lexF_fuel : ∀ (f g line : Nat) (l : List UInt8), l.length ≤ f → l.length ≤ g → lexF f line l = lexF g line l
  | 0, 0, _, _, _, _ => rfl
  | 0, g + 1, line, l, h, _ => by
    have : l = [] := List.eq_nil_of_length_eq_zero (by omega)
    subst this; rfl
  | f + 1, 0, line, l, _, h => by
    have : l = [] := List.eq_nil_of_length_eq_zero (by omega)
    subst this; rfl
  | f + 1, g + 1, line, l, h1, h2 => by
    unfold lexF
    cases l with
    | nil => rfl
    | cons c r =>
      simp only
      cases hs : step (c :: r) with
      | none => rfl
      | some x =>
        obtain ⟨o, n, q⟩ := x
        have hp := step_pos hs
        have e : ((c :: r).drop n).length = (c :: r).length - n := List.length_drop
        cases o with
        | none => exact lexF_fuel f g (line + q) _ (by omega) (by omega)
        | some t =>
          obtain ⟨k, s, v⟩ := t
          simp only
          rw [lexF_fuel f g line ((c :: r).drop n) (by omega) (by omega)]

theorem lexA_nil (line : Nat) : lexA line [] = .inr [] := rfl
theorem lexA_step (line : Nat) {l : List UInt8} (hl : l ≠ []) : lexA line l = match step l with
    | none => .inl line
    | some (none, n, f) => lexA (line + f) (l.drop n)
    | some (some (k, s, v), n, _) => match lexA line (l.drop n) with
      | .inl e => .inl e
      | .inr ts => .inr (⟨k, s, v, line⟩ :: ts) := by
  cases l with
  | nil => exact absurd rfl hl
  | cons c r =>
    unfold lexA
    simp only [List.length_cons, lexF]
    cases hs : step (c :: r) with
    | none => rfl
    | some x =>
      obtain ⟨o, n, q⟩ := x
      have hp := step_pos hs
      have e : ((c :: r).drop n).length = (c :: r).length - n := List.length_drop
      rw [List.length_cons] at e
      cases o with
      | none => exact lexF_fuel _ _ _ _ (by omega) (by omega)
      | some t =>
        obtain ⟨k, s, v⟩ := t
        simp only
        rw [lexF_fuel r.length ((c :: r).drop n).length line ((c :: r).drop n) (by omega) (Nat.le_refl _)]
end Go.Proofs.YteinadddmcicoaaGreatDoor.LexPlain
