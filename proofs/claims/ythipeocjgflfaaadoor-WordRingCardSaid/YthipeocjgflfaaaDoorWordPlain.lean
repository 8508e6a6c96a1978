/- Plain facts on decimal numerals: what ParseInt and the reference's Parse answer, as functions on bytes, and that both answer the number whose numeral the text is. No program in this text. -/
import Derived.Lib.ParseIntBTie
import Derived.Lib.AtoiAllCases
import Derived.Lib.ItoaLen
import Derived.Lib.ItoaMem
import Derived.RowKit
namespace Go.Proofs.YthipeocjgflfaaaDoor.WordPlain
open Go.Lib Go.RowKit

/-- A digit's byte. -/
theorem dig_toNat (k : Nat) (h : k < 10) : (UInt8.ofNat (48 + k)).toNat = 48 + k := by
  simp [UInt8.toNat_ofNat']; omega

theorem decDigits_small {u : Nat} (h : u < 10) : decDigits u = [UInt8.ofNat (48 + u)] := by rw [decDigits, dif_pos h]
theorem decDigits_big {u : Nat} (h : ¬ u < 10) : decDigits u = decDigits (u / 10) ++ [UInt8.ofNat (48 + u % 10)] := by rw [decDigits, dif_neg h]

/-- THE REFERENCE's LOOP over the digits. -/
def refU (acc : Nat) : List UInt8 → Option Nat
  | [] => some acc
  | c :: r => if c.toNat < 48 ∨ 57 < c.toNat ∨ 1152921504606846976 < acc then none else refU (10 * acc + (c.toNat - 48)) r

theorem refU_snoc (acc : Nat) (l : List UInt8) (c : UInt8) : refU acc (l ++ [c]) = match refU acc l with
    | none => none
    | some a => if c.toNat < 48 ∨ 57 < c.toNat ∨ 1152921504606846976 < a then none else some (10 * a + (c.toNat - 48)) := by
  induction l generalizing acc with
  | nil => simp [refU]
  | cons d r ih =>
    simp only [List.cons_append, refU]
    split
    · rfl
    · exact ih _

theorem refU_lt : ∀ (l : List UInt8) (acc u : Nat), acc < 18446744073709551616 → refU acc l = some u → u < 18446744073709551616
  | [], acc, u, ha, h => by simp [refU] at h; omega
  | c :: r, acc, u, ha, h => by
    simp only [refU] at h
    split at h
    · cases h
    · exact refU_lt r _ u (by omega) h

theorem refU_decDigits (u : Nat) (h : u ≤ 9223372036854775808) : refU 0 (decDigits u) = some u := by
  induction u using Nat.strongRecOn with
  | _ u ih =>
    by_cases hs : u < 10
    · rw [decDigits_small hs]
      have := dig_toNat u hs
      simp only [refU, this]
      rw [if_neg (by omega)]; congr 1; omega
    · rw [decDigits_big hs, refU_snoc, ih (u / 10) (by omega) (by omega)]
      have := dig_toNat (u % 10) (by omega)
      simp only [this]
      rw [if_neg (by omega)]; congr 1; omega

theorem parseUint10_snoc (acc : Nat) (l : List UInt8) (c : UInt8) : parseUint10 acc (l ++ [c]) = match parseUint10 acc l with
    | .ok a => parseUint10 a [c]
    | e => e := by
  induction l generalizing acc with
  | nil => simp [parseUint10]
  | cons d r ih =>
    simp only [List.cons_append, parseUint10]
    split
    · split
      · rfl
      · split
        · rfl
        · rw [ih]; rfl
    · rfl

theorem parseUint10_decDigits (u : Nat) (h : u < 18446744073709551616) : parseUint10 0 (decDigits u) = .ok u := by
  induction u using Nat.strongRecOn with
  | _ u ih =>
    by_cases hs : u < 10
    · rw [decDigits_small hs]
      have := dig_toNat u hs
      simp only [parseUint10, this]
      rw [if_pos (by omega), if_neg (by omega), if_neg (by omega)]; congr 1; omega
    · rw [decDigits_big hs, parseUint10_snoc, ih (u / 10) (by omega) (by omega)]
      have := dig_toNat (u % 10) (by omega)
      simp only [parseUint10, this]
      rw [if_pos (by omega), if_neg (by omega), if_neg (by omega)]; congr 1; omega

theorem decDigits_ne_nil (u : Nat) : decDigits u ≠ [] := by
  have h := decDigits_length u
  have := nDigits_pos u
  intro e; rw [e] at h; simp at h; omega

theorem parseMag_decDigits (u : Nat) (h : u < 18446744073709551616) : parseMag (decDigits u) = .ok u := by
  unfold parseMag
  rw [if_neg (decDigits_ne_nil u), parseUint10_decDigits u h]

/-- The first byte of a numeral without sign is a digit. -/
theorem decDigits_head (u : Nat) : ∃ c r, decDigits u = c :: r ∧ 48 ≤ c.toNat ∧ c.toNat ≤ 57 := by
  induction u using Nat.strongRecOn with
  | _ u ih =>
    by_cases hs : u < 10
    · refine ⟨_, [], decDigits_small hs, ?_, ?_⟩ <;> rw [dig_toNat u hs] <;> omega
    · obtain ⟨c, r, e, h1, h2⟩ := ih (u / 10) (by omega)
      exact ⟨c, r ++ [UInt8.ofNat (48 + u % 10)], by rw [decDigits_big hs, e]; rfl, h1, h2⟩

theorem atoiAll_itoa (n : Int) (h0 : -9223372036854775808 ≤ n) (h1 : n ≤ 9223372036854775807) : atoiAll (itoa n) = .ok n := by
  by_cases hn : n < 0
  · obtain ⟨u, rfl⟩ : ∃ u : Nat, n = -(u : Int) := ⟨n.natAbs, by omega⟩
    rw [itoa_neg u (by omega), atoiAll_minus, parseMag_decDigits u (by omega)]
    simp only [signed]; rw [if_neg (by omega)]
  · obtain ⟨u, rfl⟩ : ∃ u : Nat, n = u := ⟨n.toNat, by omega⟩
    obtain ⟨c, r, e, hc1, hc2⟩ := decDigits_head u
    rw [itoa_nonneg, e, atoiAll_plain c r (by omega) (by omega), ← e, parseMag_decDigits u (by omega)]
    simp only [signless]; rw [if_neg (by omega)]

theorem nDigits_le19 (u : Nat) (h : u ≤ 9223372036854775808) : nDigits u ≤ 19 := by
  have h1 := lt_pow_nDigits u
  rcases Nat.lt_or_ge (nDigits u) 20 with hk | hk
  · omega
  · exfalso
    have hlow : ∀ k u, k + 1 = nDigits u → 1 ≤ u → 10 ^ k ≤ u := by
      intro k
      induction k with
      | zero => intro u _ hu; simpa using hu
      | succ k ih =>
        intro u hk hu
        by_cases hs : u < 10
        · rw [nDigits_small hs] at hk; omega
        · rw [nDigits_big hs] at hk
          have := ih (u / 10) (by omega) (by omega)
          rw [Nat.pow_succ]; omega
    have hu : 1 ≤ u := by
      rcases Nat.eq_zero_or_pos u with rfl | hp
      · rw [nDigits_small (by omega)] at hk; omega
      · exact hp
    have h2 := hlow (nDigits u - 1) u (by omega) hu
    have h3 : 10 ^ 19 ≤ 10 ^ (nDigits u - 1) := Nat.pow_le_pow_right (by decide) (by omega)
    have h4 : (10 : Nat) ^ 19 = 10000000000000000000 := by decide
    omega

theorem itoa_length_le20 (n : Int) (h0 : -9223372036854775808 ≤ n) (h1 : n ≤ 9223372036854775807) : (itoa n).length ≤ 20 := by
  by_cases hneg : n < 0
  · obtain ⟨u, rfl⟩ : ∃ u : Nat, n = -(u : Int) := ⟨n.natAbs, by omega⟩
    rw [itoa_neg u (by omega), List.length_cons, decDigits_length]
    have := nDigits_le19 u (by omega)
    omega
  · obtain ⟨u, rfl⟩ : ∃ u : Nat, n = u := ⟨n.toNat, by omega⟩
    rw [itoa_nonneg, decDigits_length]
    have := nDigits_le19 u (by omega)
    omega

theorem itoa_ne_nil (n : Int) : itoa n ≠ [] := by
  unfold itoa; split
  · simp
  · exact decDigits_ne_nil _

theorem itoa_inj (a b : Int) (ha : -9223372036854775808 ≤ a) (ha' : a ≤ 9223372036854775807) (hb : -9223372036854775808 ≤ b) (hb' : b ≤ 9223372036854775807)
    (h : itoa a = itoa b) : a = b := by
  have e1 := atoiAll_itoa a ha ha'
  rw [h, atoiAll_itoa b hb hb'] at e1
  injection e1 with e1
  exact e1.symm

/-- WHAT word.Parse ANSWERS: the number, if there is one. -/
def parseW (l : List UInt8) : Option Int :=
  match atoiAll l with
  | .ok v => if itoa v = l then some v else none
  | _ => none

/-- Where the reference stands behind its loop. -/
def refEnd (neg : Bool) (u : Nat) : Int := if neg then wrap64 (-(wrap64 u)) else wrap64 u

/-- WHAT THE REFERENCE's Parse ANSWERS. -/
def parseR (l : List UInt8) : Option Int :=
  if l.length = 0 ∨ 20 < l.length then none
  else match refU 0 (if l.head? = some 45 then l.tail else l) with
    | none => none
    | some u => if itoa (refEnd (l.head? == some 45) u) = l then some (refEnd (l.head? == some 45) u) else none

theorem wrap64_lo (z : Int) : -9223372036854775808 ≤ wrap64 z ∧ wrap64 z ≤ 9223372036854775807 := by unfold wrap64; omega

theorem parseW_some {l : List UInt8} {v : Int} (h : parseW l = some v) : itoa v = l ∧ -9223372036854775808 ≤ v ∧ v ≤ 9223372036854775807 := by
  unfold parseW at h
  split at h
  · rename_i v' hv
    have hb := atoiAll_bounds hv
    split at h
    · injection h with h; subst h; rename_i e; exact ⟨e, hb⟩
    · cases h
  · cases h

theorem parseW_itoa (n : Int) (h0 : -9223372036854775808 ≤ n) (h1 : n ≤ 9223372036854775807) : parseW (itoa n) = some n := by
  unfold parseW; rw [atoiAll_itoa n h0 h1]; simp

theorem refEnd_bd (neg : Bool) (u : Nat) : -9223372036854775808 ≤ refEnd neg u ∧ refEnd neg u ≤ 9223372036854775807 := by
  unfold refEnd; split <;> exact wrap64_lo _

theorem parseR_some {l : List UInt8} {v : Int} (h : parseR l = some v) : itoa v = l ∧ -9223372036854775808 ≤ v ∧ v ≤ 9223372036854775807 := by
  unfold parseR at h
  split at h
  · cases h
  · split at h
    · cases h
    · rename_i u hu
      split at h
      · rename_i e
        have e' := Option.some.inj h
        have hb := refEnd_bd (l.head? == some 45) u
        rw [e'] at e hb
        exact ⟨e, hb⟩
      · cases h

theorem parseR_itoa (n : Int) (h0 : -9223372036854775808 ≤ n) (h1 : n ≤ 9223372036854775807) : parseR (itoa n) = some n := by
  have hl := itoa_length_le20 n h0 h1
  have hne := itoa_ne_nil n
  have hl0 : (itoa n).length ≠ 0 := by intro e; exact hne (List.eq_nil_of_length_eq_zero e)
  unfold parseR
  rw [if_neg (by omega)]
  by_cases hn : n < 0
  · obtain ⟨u, rfl⟩ : ∃ u : Nat, n = -(u : Int) := ⟨n.natAbs, by omega⟩
    rw [itoa_neg u (by omega)]
    have he : refEnd true u = -(u : Int) := by unfold refEnd wrap64; simp; omega
    simp [refU_decDigits u (by omega), he, itoa_neg u (by omega)]
  · obtain ⟨u, rfl⟩ : ∃ u : Nat, n = u := ⟨n.toNat, by omega⟩
    obtain ⟨c, r, e, hc1, hc2⟩ := decDigits_head u
    have hc : ¬ c = 45 := by intro h; subst h; simp at hc1
    rw [itoa_nonneg]
    have e2 := refU_decDigits u (by omega)
    rw [e] at e2
    have he : refEnd false u = (u : Int) := by unfold refEnd wrap64; simp; omega
    have hb : (c == (45 : UInt8)) = false := by simpa using hc
    rw [e]
    simp [hc, hb, e2, he, itoa_nonneg, e]

/-- BOTH ANSWER ALIKE. -/
theorem parseR_eq (l : List UInt8) : parseR l = parseW l := by
  cases h : parseW l with
  | some v =>
    obtain ⟨e, h0, h1⟩ := parseW_some h
    rw [← e]; exact parseR_itoa v h0 h1
  | none =>
    cases h' : parseR l with
    | none => rfl
    | some v =>
      obtain ⟨e, h0, h1⟩ := parseR_some h'
      rw [← e, parseW_itoa v h0 h1] at h
      cases h
end Go.Proofs.YthipeocjgflfaaaDoor.WordPlain
