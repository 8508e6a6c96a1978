/- What the scanner's text needs: one byte of a text's inside against the program's tests. -/
import Derived.Test.YteinadddmcicoaaGreatDoorLexNumber
import Derived.Shelf.Strings.CaseAny
import Derived.Shelf.Strings.BuilderK
namespace Go.Proofs.YteinadddmcicoaaGreatDoor
open Go.RowKit Go.Shelf
open LexPlain (Tok hexV charF textL textL_step textL_nil textL_end)

/-- A part of a text's tokens behind what is known of it. -/
def comb (acc : List UInt8) (m : Nat) : Option (List UInt8 × Nat) → Option (List UInt8 × Nat)
  | none => none
  | some (bs, k) => some (acc ++ bs, m + k)

theorem comb_step {L l acc : List UInt8} {m n : Nat} {b : UInt8} (h : textL L = comb acc m (textL l)) (hl : l ≠ []) (h39 : ¬ (l.head?.map (·.toNat)) = some 39) (hc : charF l = some (b, n)) :
    textL L = comb (acc ++ [b]) (m + n) (textL (l.drop n)) := by
  rw [h, textL_step hl h39, hc]
  simp only
  cases textL (l.drop n) with
  | none => rfl
  | some x => obtain ⟨bs, k⟩ := x; simp [comb]; omega
theorem comb_bad {L l acc : List UInt8} {m : Nat} (h : textL L = comb acc m (textL l)) (hl : l ≠ []) (h39 : ¬ (l.head?.map (·.toNat)) = some 39) (hc : charF l = none) : textL L = none := by
  rw [h, textL_step hl h39, hc]
  rfl
theorem comb_nil {L acc : List UInt8} {m : Nat} (h : textL L = comb acc m (textL [])) : textL L = none := by
  rw [h]; rfl
theorem comb_end {L acc r : List UInt8} {m : Nat} {c : UInt8} (h : textL L = comb acc m (textL (c :: r))) (hc : c.toNat = 39) : textL L = some (acc, m + 1) := by
  rw [h, textL_end r c hc]; simp [comb]

theorem charF_plain (c : UInt8) (r : List UInt8) (h39 : ¬ c.toNat = 39) (h10 : ¬ c.toNat = 10) (h92 : ¬ c.toNat = 92) : charF (c :: r) = some (c, 1) := by
  unfold charF; simp only; rw [if_neg (by omega), if_neg h92]
theorem charF_lf (c : UInt8) (r : List UInt8) (h10 : c.toNat = 10) : charF (c :: r) = none := by
  unfold charF; simp only; rw [if_pos (by omega)]
theorem charF_alone (c : UInt8) (h92 : c.toNat = 92) : charF [c] = none := by
  unfold charF; simp only; rw [if_neg (by omega), if_pos h92]
theorem charF_same (c e : UInt8) (r : List UInt8) (h92 : c.toNat = 92) (he : e.toNat = 39 ∨ e.toNat = 92) : charF (c :: e :: r) = some (e, 2) := by
  unfold charF; simp only; rw [if_neg (by omega), if_pos h92, if_pos he]
theorem charF_n (c e : UInt8) (r : List UInt8) (h92 : c.toNat = 92) (he : e.toNat = 110) : charF (c :: e :: r) = some (10, 2) := by
  unfold charF; simp only; rw [if_neg (by omega), if_pos h92, if_neg (by omega), if_pos he]
theorem charF_other (c e : UInt8) (r : List UInt8) (h92 : c.toNat = 92) (h1 : ¬ e.toNat = 39) (h2 : ¬ e.toNat = 92) (h3 : ¬ e.toNat = 110) (h4 : ¬ e.toNat = 120) : charF (c :: e :: r) = none := by
  unfold charF; simp only; rw [if_neg (by omega), if_pos h92, if_neg (by omega), if_neg h3, if_neg h4]
theorem charF_short (c e : UInt8) (r : List UInt8) (h92 : c.toNat = 92) (he : e.toNat = 120) (hr : r.length < 2) : charF (c :: e :: r) = none := by
  unfold charF; simp only; rw [if_neg (by omega), if_pos h92, if_neg (by omega), if_neg (by omega), if_pos he]
  match r, hr with
  | [], _ => rfl
  | [_], _ => rfl
theorem charF_hex (c e x y : UInt8) (r : List UInt8) (h92 : c.toNat = 92) (he : e.toNat = 120) : charF (c :: e :: x :: y :: r) = match hexV x, hexV y with
    | some a, some b => some (UInt8.ofNat (a * 16 + b), 4)
    | _, _ => none := by
  unfold charF; simp only; rw [if_neg (by omega), if_pos h92, if_neg (by omega), if_neg (by omega), if_pos he]
  cases hexV x <;> cases hexV y <;> rfl

theorem hexV_low : ∀ c : Fin 256, ∀ a, hexV (UInt8.ofNat c.val) = some a → hexA (UInt8.ofNat c.val) = some a ∧ c.val < 128 ∧ Lib.lowerB (UInt8.ofNat c.val) = UInt8.ofNat c.val ∧ a < 16 := by
  have h : ∀ c : Fin 256, (match hexV (UInt8.ofNat c.val) with | none => true | some a => decide (hexA (UInt8.ofNat c.val) = some a ∧ c.val < 128 ∧ Lib.lowerB (UInt8.ofNat c.val) = UInt8.ofNat c.val ∧ a < 16)) = true := by decide +kernel
  intro c a ha
  have := h c
  rw [ha] at this
  exact of_decide_eq_true this
theorem hexA_back : ∀ c : Fin 256, ∀ a, hexA (UInt8.ofNat c.val) = some a → Lib.lowerB (UInt8.ofNat c.val) = UInt8.ofNat c.val → hexV (UInt8.ofNat c.val) = some a := by
  have h : ∀ c : Fin 256, (match hexA (UInt8.ofNat c.val) with | none => true | some a => decide (Lib.lowerB (UInt8.ofNat c.val) = UInt8.ofNat c.val → hexV (UInt8.ofNat c.val) = some a)) = true := by decide +kernel
  intro c a ha
  have := h c
  rw [ha] at this
  exact of_decide_eq_true this
theorem hexA_small : ∀ c : Fin 256, ∀ a, hexA (UInt8.ofNat c.val) = some a → c.val < 128 := by
  have h : ∀ c : Fin 256, (match hexA (UInt8.ofNat c.val) with | none => true | some a => decide (c.val < 128)) = true := by decide +kernel
  intro c a ha
  have := h c
  rw [ha] at this
  exact of_decide_eq_true this
theorem byte_back (x : UInt8) : UInt8.ofNat (⟨x.toNat, x.toNat_lt⟩ : Fin 256).val = x := by simp

theorem hex_yes {x y : UInt8} {v : Nat} (hl : Lib.toLowerD [x, y] = [x, y]) (hp : p16 0 [x, y] = some v) : ∃ a b, hexV x = some a ∧ hexV y = some b ∧ v = a * 16 + b ∧ v < 256 := by
  unfold p16 at hp
  cases hx : hexA x with
  | none => rw [hx] at hp; cases hp
  | some a =>
    rw [hx] at hp
    simp only at hp
    split at hp
    · cases hp
    · unfold p16 at hp
      cases hy : hexA y with
      | none => rw [hy] at hp; cases hp
      | some b =>
        rw [hy] at hp
        simp only at hp
        split at hp
        · cases hp
        · simp only [p16, Option.some.injEq] at hp
          have bx := byte_back x
          have by' := byte_back y
          have sx := hexA_small ⟨x.toNat, x.toNat_lt⟩ a (by rw [bx]; exact hx)
          have sy := hexA_small ⟨y.toNat, y.toNat_lt⟩ b (by rw [by']; exact hy)
          rw [Lib.toLowerD_ascii _ (by intro z hz; simp at hz; rcases hz with rfl | rfl; exact sx; exact sy)] at hl
          simp only [Lib.toLowerA, List.map, List.cons.injEq, and_true] at hl
          have vx := hexA_back ⟨x.toNat, x.toNat_lt⟩ a (by rw [bx]; exact hx) (by rw [bx]; exact hl.1)
          have vy := hexA_back ⟨y.toNat, y.toNat_lt⟩ b (by rw [by']; exact hy) (by rw [by']; exact hl.2)
          rw [bx] at vx
          rw [by'] at vy
          exact ⟨a, b, vx, vy, by omega, by omega⟩
theorem hex_no {x y : UInt8} {a b : Nat} (hx : hexV x = some a) (hy : hexV y = some b) : Lib.toLowerD [x, y] = [x, y] ∧ p16 0 [x, y] = some (a * 16 + b) := by
  have bx := byte_back x
  have by' := byte_back y
  obtain ⟨x1, x2, x3, x4⟩ := hexV_low ⟨x.toNat, x.toNat_lt⟩ a (by rw [bx]; exact hx)
  obtain ⟨y1, y2, y3, y4⟩ := hexV_low ⟨y.toNat, y.toNat_lt⟩ b (by rw [by']; exact hy)
  rw [bx] at x1 x3
  rw [by'] at y1 y3
  refine ⟨?_, ?_⟩
  · rw [Lib.toLowerD_ascii _ (by intro z hz; simp at hz; rcases hz with rfl | rfl; exact x2; exact y2)]
    simp [Lib.toLowerA, x3, y3]
  · unfold p16
    rw [x1]
    simp only
    rw [if_neg (by omega)]
    unfold p16
    rw [y1]
    simp only
    rw [if_neg (by omega)]
    simp [p16]

theorem IsB.below {T e : TypeId} {B b : Nat} {bs : List Value} {w w' : World} (h : Lib.IsBuilderF T e B b bs w) (hb : Below w.heap.size w w') : Lib.IsBuilderF T e B b bs w' := by
  have key : ∀ p, Lib.BuilderAtF T e B b p bs w → Lib.BuilderAtF T e B b p bs w' := by
    rintro p ⟨hB, v, hk, ho, hne⟩
    refine ⟨hB, v, (hb.block b ?_).trans hk, ho.kept (row := none) ⟨hb.os, hb.tape, hb.output, hb.size, fun i hi _ => hb.block i hi⟩ ?_, hne⟩
    · rcases Nat.lt_or_ge b w.heap.size with h' | h'
      · exact h'
      · simp [Array.getElem?_eq_none h'] at hk
    · cases hv : v.ownBlock with
      | none => exact .inl rfl
      | some g => exact .inr (by simp)
  exact h.elim (fun x => .inl (key _ x)) (fun x => .inr (key _ x))
theorem byteCells_snoc (l : List UInt8) (c : UInt8) : Lib.byteCells l ++ [.int .u8 (c.toNat : Int)] = Lib.byteCells (l ++ [c]) := by simp [Lib.byteCells]
end Go.Proofs.YteinadddmcicoaaGreatDoor
