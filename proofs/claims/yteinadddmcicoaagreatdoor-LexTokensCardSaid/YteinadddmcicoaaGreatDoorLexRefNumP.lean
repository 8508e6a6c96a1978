/- Plain facts on numerals: what the document's digits answer is what the scanner takes for a number. No program in this text. -/
import Derived.Test.YteinadddmcicoaaGreatDoorLexStep
import Derived.Lib.ItoaMem
import Derived.Lib.ParseIntBCases
namespace Go.Proofs.YteinadddmcicoaaGreatDoor.LexPlain
open Go.Lib Go.RowKit

theorem digit_byte (k : Nat) (h : k < 10) : (UInt8.ofNat (48 + k)).toNat = 48 + k := by
  simp [UInt8.toNat_ofNat']; omega
theorem dec_small {u : Nat} (h : u < 10) : decDigits u = [UInt8.ofNat (48 + u)] := by rw [decDigits, dif_pos h]
theorem dec_big {u : Nat} (h : ¬ u < 10) : decDigits u = decDigits (u / 10) ++ [UInt8.ofNat (48 + u % 10)] := by rw [decDigits, dif_neg h]
theorem dec_ne (u : Nat) : decDigits u ≠ [] := by
  have h := decDigits_length u
  have := nDigits_pos u
  intro e; rw [e] at h; simp at h; omega

/-- The document's loop over the digits. -/
def refD (acc : Nat) : List UInt8 → Option Nat
  | [] => some acc
  | c :: r => if (9223372036854775808 - (c.toNat - 48)) / 10 < acc then none else refD (acc * 10 + (c.toNat - 48)) r
def refDig (ds : List UInt8) : Option Nat := if 20 < ds.length ∨ (1 < ds.length ∧ (ds.head?.map (·.toNat)) = some 48) then none else refD 0 ds

theorem refD_snoc (acc : Nat) (l : List UInt8) (c : UInt8) : refD acc (l ++ [c]) = match refD acc l with
    | none => none
    | some a => if (9223372036854775808 - (c.toNat - 48)) / 10 < a then none else some (a * 10 + (c.toNat - 48)) := by
  induction l generalizing acc with
  | nil => simp [refD]
  | cons d r ih =>
    simp only [List.cons_append, refD]
    split
    · rfl
    · exact ih _
theorem refD_dec (u : Nat) (h : u ≤ 9223372036854775808) : refD 0 (decDigits u) = some u := by
  induction u using Nat.strongRecOn with
  | _ u ih =>
    by_cases hs : u < 10
    · rw [dec_small hs]
      have := digit_byte u hs
      simp only [refD, this]
      rw [if_neg (by omega)]; congr 1; omega
    · rw [dec_big hs, refD_snoc, ih (u / 10) (by omega) (by omega)]
      have := digit_byte (u % 10) (by omega)
      simp only [this]
      rw [if_neg (by omega)]; congr 1; omega
theorem parse10_snoc (acc : Nat) (l : List UInt8) (c : UInt8) : parseUint10 acc (l ++ [c]) = match parseUint10 acc l with
    | .ok a => parseUint10 a [c]
    | e => e := by
  induction l generalizing acc with
  | nil => simp [parseUint10]
  | cons d r ih =>
    simp only [List.cons_append, parseUint10]
    split
    · split
      · rfl
      · split
        · rfl
        · rw [ih]; rfl
    · rfl
theorem parse10_dec (u : Nat) (h : u < 18446744073709551616) : parseUint10 0 (decDigits u) = .ok u := by
  induction u using Nat.strongRecOn with
  | _ u ih =>
    by_cases hs : u < 10
    · rw [dec_small hs]
      have := digit_byte u hs
      simp only [parseUint10, this]
      rw [if_pos (by omega), if_neg (by omega), if_neg (by omega)]; congr 1; omega
    · rw [dec_big hs, parse10_snoc, ih (u / 10) (by omega) (by omega)]
      have := digit_byte (u % 10) (by omega)
      simp only [parseUint10, this]
      rw [if_pos (by omega), if_neg (by omega), if_neg (by omega)]; congr 1; omega
theorem numOf_dec (u : Nat) (h : u ≤ 9223372036854775808) : numOf (decDigits u) = some u := by
  have hp : parseUintB 64 (decDigits u) = .ok u := by
    rw [parseUintB_64]
    unfold parseMag
    rw [if_neg (dec_ne u), parse10_dec u (by omega)]
  unfold numOf
  rw [hp]
  simp only
  rw [if_pos ⟨h, trivial⟩]
theorem numOf_some {ds : List UInt8} {v : Nat} (h : numOf ds = some v) : decDigits v = ds ∧ v ≤ 9223372036854775808 := by
  unfold numOf at h
  split at h
  · split at h
    · rename_i hq
      cases h
      exact ⟨hq.2, hq.1⟩
    · cases h
  · cases h

theorem dec_len19 (u : Nat) (h : u ≤ 9223372036854775808) : nDigits u ≤ 19 := by
  rcases Nat.lt_or_ge (nDigits u) 20 with hk | hk
  · omega
  · exfalso
    have hlow : ∀ k u, k + 1 = nDigits u → 1 ≤ u → 10 ^ k ≤ u := by
      intro k
      induction k with
      | zero => intro u _ hu; simpa using hu
      | succ k ih =>
        intro u hk hu
        by_cases hs : u < 10
        · rw [nDigits_small hs] at hk; omega
        · rw [nDigits_big hs] at hk
          have := ih (u / 10) (by omega) (by omega)
          rw [Nat.pow_succ]; omega
    have hu : 1 ≤ u := by
      rcases Nat.eq_zero_or_pos u with rfl | hp
      · rw [nDigits_small (by omega)] at hk; omega
      · exact hp
    have h2 := hlow (nDigits u - 1) u (by omega) hu
    have h3 : 10 ^ 19 ≤ 10 ^ (nDigits u - 1) := Nat.pow_le_pow_right (by decide) (by omega)
    have h4 : (10 : Nat) ^ 19 = 10000000000000000000 := by decide
    omega
theorem dec_head (u : Nat) : ∃ c r, decDigits u = c :: r ∧ (1 ≤ u → c.toNat ≠ 48) := by
  induction u using Nat.strongRecOn with
  | _ u ih =>
    by_cases hs : u < 10
    · refine ⟨_, [], dec_small hs, fun h => ?_⟩
      rw [digit_byte u hs]; omega
    · obtain ⟨c, r, e, h1⟩ := ih (u / 10) (by omega)
      exact ⟨c, r ++ [UInt8.ofNat (48 + u % 10)], by rw [dec_big hs, e]; rfl, fun _ => h1 (by omega)⟩
theorem refDig_dec (u : Nat) (h : u ≤ 9223372036854775808) : refDig (decDigits u) = some u := by
  unfold refDig
  rw [if_neg, refD_dec u h]
  have hl := decDigits_length u
  have h19 := dec_len19 u h
  rintro (h1 | ⟨h1, h2⟩)
  · omega
  · obtain ⟨c, r, e, hc⟩ := dec_head u
    rw [e] at h2
    have hu : 1 ≤ u := by
      rcases Nat.eq_zero_or_pos u with rfl | hp
      · rw [dec_small (by omega)] at h1; simp at h1
      · exact hp
    exact hc hu (by simpa using h2)

/-- A numeral without a nought ahead is its value's. -/
theorem refD_back : ∀ (n : Nat) (ds : List UInt8) (v : Nat), ds.length = n + 1 → ds.all digitB = true → ¬ (1 < ds.length ∧ (ds.head?.map (·.toNat)) = some 48) → refD 0 ds = some v → decDigits v = ds ∧ v ≤ 9223372036854775808
  | 0, ds, v, hl, hd, h0, h => by
    match ds, hl with
    | [c], _ => 
      simp only [List.all_cons, List.all_nil, Bool.and_true, digitB, decide_eq_true_eq] at hd
      simp only [refD] at h
      rw [if_neg (by omega)] at h
      cases h
      refine ⟨?_, by omega⟩
      rw [dec_small (by omega)]
      congr 1
      apply UInt8.toNat.inj
      rw [digit_byte _ (by omega)]
      omega
  | n + 1, ds, v, hl, hd, h0, h => by
    obtain ⟨l, c, rfl⟩ : ∃ l c, ds = l ++ [c] := ⟨ds.dropLast, ds.getLast (by intro e; rw [e] at hl; simp at hl), (List.dropLast_concat_getLast _).symm⟩
    have hll : l.length = n + 1 := by simpa using hl
    simp only [List.all_append, List.all_cons, List.all_nil, Bool.and_true, Bool.and_eq_true] at hd
    obtain ⟨hd1, hd2⟩ := hd
    simp only [digitB, decide_eq_true_eq] at hd2
    obtain ⟨e, r, rfl⟩ : ∃ e r, l = e :: r := by
      match l, hll with
      | e :: r, _ => exact ⟨e, r, rfl⟩
    have hne : e.toNat ≠ 48 := fun h' => h0 ⟨by simp, by simpa using h'⟩
    rw [refD_snoc] at h
    cases ha : refD 0 (e :: r) with
    | none => rw [ha] at h; cases h
    | some a =>
      rw [ha] at h
      simp only at h
      split at h
      · cases h
      · rename_i hle
        cases h
        obtain ⟨h1, h2⟩ := refD_back n (e :: r) a hll hd1 (fun ⟨_, h'⟩ => hne (by simpa using h')) ha
        have ha1 : 1 ≤ a := by
          rcases Nat.eq_zero_or_pos a with rfl | hp
          · rw [dec_small (by omega)] at h1
            injection h1 with h1 _
            exact absurd (by rw [← h1]; rfl) hne
          · exact hp
        refine ⟨?_, by omega⟩
        rw [dec_big (by omega), show (a * 10 + (c.toNat - 48)) / 10 = a by omega, show (a * 10 + (c.toNat - 48)) % 10 = c.toNat - 48 by omega, h1]
        congr 2
        apply UInt8.toNat.inj
        rw [digit_byte _ (by omega)]
        omega

theorem refDig_eq {ds : List UInt8} (hd : ds.all digitB = true) (hne : ds ≠ []) : refDig ds = numOf ds := by
  cases hn : numOf ds with
  | some v =>
    obtain ⟨h1, h2⟩ := numOf_some hn
    rw [← h1]
    exact refDig_dec v h2
  | none =>
    cases hr : refDig ds with
    | none => rfl
    | some v =>
      exfalso
      unfold refDig at hr
      split at hr
      · cases hr
      · rename_i hc
        obtain ⟨h1, h2⟩ := refD_back (ds.length - 1) ds v (by cases ds with | nil => exact absurd rfl hne | cons a b => simp) hd (fun h => hc (Or.inr h)) hr
        rw [← h1, numOf_dec v h2] at hn
        cases hn
end Go.Proofs.YteinadddmcicoaaGreatDoor.LexPlain
