/- What a text's tokens are, as functions on bytes; no program in this text. -/
import Derived.Lib.ItoaLen
import Derived.Lib.ParseIntBTie
import Derived.Lib.IndexMore
import Derived.Lib.IndexLaws
import Derived.RowKit
namespace Go.Proofs.YteinadddmcicoaaGreatDoor.LexPlain
open Go.Lib Go.RowKit

def headB (c : UInt8) : Bool := decide (97 ≤ c.toNat ∧ c.toNat ≤ 122) || decide (65 ≤ c.toNat ∧ c.toNat ≤ 90) || decide (c.toNat = 95)
def digitB (c : UInt8) : Bool := decide (48 ≤ c.toNat ∧ c.toNat ≤ 57)
def partB (c : UInt8) : Bool := headB c || digitB c
def notLF (c : UInt8) : Bool := decide (c.toNat ≠ 10)
def spanL (p : UInt8 → Bool) (l : List UInt8) : Nat := (l.takeWhile p).length

def wordsL : List (List UInt8) := [[97, 98, 115, 116, 114, 97, 99, 116], [97, 115], [98, 114, 101, 97, 107], [99, 97, 116, 99, 104], [99, 108, 97, 115, 115], [99, 111, 110, 116, 105, 110, 117, 101], [101, 99, 104, 111], [101, 108, 115, 101], [101, 120, 116, 101, 110, 100, 115], [102, 97, 108, 115, 101], [102, 105, 110, 97, 108, 108, 121], [102, 111, 114, 101, 97, 99, 104], [102, 114, 111, 109], [102, 117, 110, 99, 116, 105, 111, 110], [105, 102], [105, 109, 112, 108, 101, 109, 101, 110, 116, 115], [105, 110, 115, 116, 97, 110, 99, 101, 111, 102], [105, 110, 116, 101, 114, 102, 97, 99, 101], [110, 101, 119], [110, 117, 108, 108], [112, 117, 98, 108, 105, 99], [114, 101, 116, 117, 114, 110], [116, 104, 114, 111, 119], [116, 114, 117, 101], [116, 114, 121], [119, 104, 105, 108, 101], [121, 105, 101, 108, 100]]
def signsL : List (List UInt8) := [[61, 61, 61], [33, 61, 61], [60, 61], [62, 61], [38, 38], [124, 124], [61, 62], [45, 62], [123], [125], [40], [41], [91], [93], [44], [59], [61], [46], [43], [45], [42], [37], [33], [60], [62], [124]]
def wordsT : List UInt8 := [32, 97, 98, 115, 116, 114, 97, 99, 116, 32, 97, 115, 32, 98, 114, 101, 97, 107, 32, 99, 97, 116, 99, 104, 32, 99, 108, 97, 115, 115, 32, 99, 111, 110, 116, 105, 110, 117, 101, 32, 101, 99, 104, 111, 32, 101, 108, 115, 101, 32, 101, 120, 116, 101, 110, 100, 115, 32, 102, 97, 108, 115, 101, 32, 102, 105, 110, 97, 108, 108, 121, 32, 102, 111, 114, 101, 97, 99, 104, 32, 102, 114, 111, 109, 32, 102, 117, 110, 99, 116, 105, 111, 110, 32, 105, 102, 32, 105, 109, 112, 108, 101, 109, 101, 110, 116, 115, 32, 105, 110, 115, 116, 97, 110, 99, 101, 111, 102, 32, 105, 110, 116, 101, 114, 102, 97, 99, 101, 32, 110, 101, 119, 32, 110, 117, 108, 108, 32, 112, 117, 98, 108, 105, 99, 32, 114, 101, 116, 117, 114, 110, 32, 116, 104, 114, 111, 119, 32, 116, 114, 117, 101, 32, 116, 114, 121, 32, 119, 104, 105, 108, 101, 32, 121, 105, 101, 108, 100, 32]
def signsT : List UInt8 := [32, 61, 61, 61, 32, 33, 61, 61, 32, 60, 61, 32, 62, 61, 32, 38, 38, 32, 124, 124, 32, 61, 62, 32, 45, 62, 32, 123, 32, 125, 32, 40, 32, 41, 32, 91, 32, 93, 32, 44, 32, 59, 32, 61, 32, 46, 32, 43, 32, 45, 32, 42, 32, 37, 32, 33, 32, 60, 32, 62, 32, 124, 32]

/-- What stands between two blanks. -/
def segs : List UInt8 → List (List UInt8)
  | [] => []
  | c :: r => if c = 32 ∧ r.contains 32 = true then r.takeWhile (fun b => b != 32) :: segs r else segs r

theorem segs_words : segs wordsT = wordsL := by decide +kernel
theorem segs_signs : segs signsT = signsL := by decide +kernel

theorem contains_cons (b : UInt8) (l sub : List UInt8) : contains (b :: l) sub = (sub.isPrefixOf (b :: l) || contains l sub) := by
  have hg := index_ge l sub
  unfold contains
  rw [show index (b :: l) sub = if sub.isPrefixOf (b :: l) then 0 else if index l sub == -1 then -1 else index l sub + 1 from rfl]
  split
  · rename_i h; simp [h]
  · rename_i h
    simp only [Bool.not_eq_true] at h
    simp only [h, Bool.false_or]
    split
    · rename_i h2; rw [beq_iff_eq] at h2; simp [h2]
    · rename_i h2; rw [beq_iff_eq] at h2
      by_cases h3 : 0 ≤ index l sub <;> simp [h3] <;> omega

theorem prefix_blank : ∀ (s l : List UInt8), s.contains 32 = false → (s ++ [32]).isPrefixOf l = (l.contains 32 && (l.takeWhile (fun b => b != 32) == s))
  | [], [], _ => by simp
  | [], c :: l, _ => by
    by_cases hc : c = 32
    · subst hc; simp
    · simp [List.isPrefixOf, hc, Ne.symm hc]
  | a :: s, [], _ => by simp [List.isPrefixOf]
  | a :: s, c :: l, h => by
    have ha : ¬ a = 32 := by intro e; subst e; simp at h
    have hs : s.contains 32 = false := by
      simp only [List.contains_cons, Bool.or_eq_false_iff] at h; exact h.2
    have ih := prefix_blank s l hs
    simp only [List.cons_append, List.isPrefixOf, ih]
    by_cases hc : c = 32
    · subst hc; simp [ha]
    · by_cases hac : a = c
      · subst hac; simp [ha, Ne.symm ha]
      · have e1 : (a == c) = false := by simpa using hac
        have e2 : (c == a) = false := by simpa using Ne.symm hac
        simp [hc, Ne.symm hc, e1, e2, List.takeWhile_cons]

theorem contains_blank (s : List UInt8) (hs : s.contains 32 = false) : ∀ T : List UInt8, contains T (32 :: (s ++ [32])) = (segs T).contains s
  | [] => by simp [segs, contains, index]
  | c :: r => by
    rw [contains_cons, contains_blank s hs r]
    simp only [List.isPrefixOf, segs, prefix_blank s r hs]
    by_cases hc : c = 32
    · subst hc
      by_cases hr : r.contains 32 = true
      · rw [if_pos ⟨rfl, hr⟩, hr]
        rw [List.contains_cons, Bool.true_and, beq_self_eq_true, Bool.true_and]
        congr 1
        rw [Bool.eq_iff_iff, beq_iff_eq, beq_iff_eq]; exact eq_comm
      · rw [if_neg (fun h => hr h.2)]
        simp only [Bool.not_eq_true] at hr
        rw [hr]; simp
    · rw [if_neg (fun h => hc h.1)]
      simp [Ne.symm hc]

theorem words_clean : wordsL.all (fun w => !w.contains 32 && !w.isEmpty) = true := by decide +kernel
theorem signs_clean : signsL.all (fun w => !w.contains 32 && decide (1 ≤ w.length) && decide (w.length ≤ 3)) = true := by decide +kernel

/-- Word, as the program asks it. -/
theorem word_eq (s : List UInt8) : (!s.isEmpty && (!s.contains 32 && contains wordsT (32 :: (s ++ [32])))) = wordsL.contains s := by
  by_cases hs : s.contains 32 = true
  · rw [hs]
    simp only [Bool.not_true, Bool.false_and, Bool.and_false]
    by_cases h : wordsL.contains s = true
    · have := List.all_eq_true.1 words_clean s (by simpa using h)
      rw [hs] at this; simp at this
    · simp only [Bool.not_eq_true] at h; exact h.symm
  · simp only [Bool.not_eq_true] at hs
    rw [contains_blank s hs, segs_words, hs]
    by_cases h : wordsL.contains s = true
    · have := List.all_eq_true.1 words_clean s (by simpa using h)
      rw [h]; simp at this ⊢; exact this.2
    · simp only [Bool.not_eq_true] at h; rw [h]; simp

theorem sign_eq (s : List UInt8) : (contains signsT (32 :: (s ++ [32])) && !s.contains 32) = signsL.contains s ∨ s.contains 32 = true := by
  by_cases hs : s.contains 32 = true
  · exact .inr hs
  · simp only [Bool.not_eq_true] at hs
    refine .inl ?_
    rw [contains_blank s hs, segs_signs, hs]; simp

def isWord (s : List UInt8) : Bool := wordsL.contains s
def isName (s : List UInt8) : Bool := !s.isEmpty && decide (s.length ≤ 24) && ((s.head?.map headB).getD false) && s.all partB && !isWord s

end Go.Proofs.YteinadddmcicoaaGreatDoor.LexPlain
