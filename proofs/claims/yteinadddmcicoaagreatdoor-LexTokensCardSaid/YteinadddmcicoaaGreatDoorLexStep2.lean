/- One step's ways, one by one; no program in this text. -/
import Derived.Test.YteinadddmcicoaaGreatDoorLexStep
namespace Go.Proofs.YteinadddmcicoaaGreatDoor.LexPlain
open Go.Lib Go.RowKit

variable (c : UInt8) (r : List UInt8) (n1 : ¬ c.toNat = 10) (n2 : ¬ (c.toNat = 32 ∨ c.toNat = 9 ∨ c.toNat = 13)) (n3 : ¬ (c.toNat = 47 ∧ (r.head?.map (·.toNat)) = some 47))
include n1 n2 n3
theorem step_head (h : headB c = true) : step (c :: r) = if isWord ((c :: r).take (spanL partB (c :: r))) then some (some (2, (c :: r).take (spanL partB (c :: r)), 0), spanL partB (c :: r), 0)
      else if isName ((c :: r).take (spanL partB (c :: r))) then some (some (1, (c :: r).take (spanL partB (c :: r)), 0), spanL partB (c :: r), 0) else none := by
  unfold step; simp only; rw [if_neg n1, if_neg n2, if_neg n3, if_pos h]
theorem step_dollar (hh : headB c = false) (h : c.toNat = 36) : step (c :: r) = if isName (r.take (spanL partB r)) then some (some (3, r.take (spanL partB r), 0), 1 + spanL partB r, 0) else none := by
  unfold step; simp only; rw [if_neg n1, if_neg n2, if_neg n3, hh, if_neg (by decide), if_pos h]
theorem step_digit (hh : headB c = false) (h36 : ¬ c.toNat = 36) (hd : digitB c = true) : step (c :: r) = match numOf ((c :: r).take (spanL digitB (c :: r))) with
      | some v => some (some (4, (c :: r).take (spanL digitB (c :: r)), wrap64 v), spanL digitB (c :: r), 0)
      | none => none := by
  unfold step; simp only; rw [if_neg n1, if_neg n2, if_neg n3, hh, if_neg (by decide), if_neg h36, if_pos hd]
  cases numOf ((c :: r).take (spanL digitB (c :: r))) <;> rfl
theorem step_text (hh : headB c = false) (h36 : ¬ c.toNat = 36) (hd : digitB c = false) (h39 : c.toNat = 39) : step (c :: r) = match textL r with
      | some (bs, m) => some (some (5, bs, 0), 1 + m, 0)
      | none => none := by
  unfold step; simp only; rw [if_neg n1, if_neg n2, if_neg n3, hh, if_neg (by decide), if_neg h36, hd, if_neg (by decide), if_pos h39]
  cases textL r <;> rfl
theorem step_sign (hh : headB c = false) (h36 : ¬ c.toNat = 36) (hd : digitB c = false) (h39 : ¬ c.toNat = 39) : step (c :: r) = if signL (c :: r) = 0 then none else some (some (6, (c :: r).take (signL (c :: r)), 0), signL (c :: r), 0) := by
  unfold step; simp only; rw [if_neg n1, if_neg n2, if_neg n3, hh, if_neg (by decide), if_neg h36, hd, if_neg (by decide), if_neg h39]
end Go.Proofs.YteinadddmcicoaaGreatDoor.LexPlain
