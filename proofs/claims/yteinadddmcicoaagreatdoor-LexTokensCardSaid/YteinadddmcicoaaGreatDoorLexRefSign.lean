/- Walks over the document's sign: the first of the list that begins here is the longest. -/
import Derived.Test.YteinadddmcicoaaGreatDoorLexStep
import Derived.Test.YteinadddmcicoaaGreatDoorLexScan
import Derived.Test.YteinadddmcicoaaGreatDoorLexSmall
import Derived.Test.YteinadddmcicoaaGreatDoorLexNumber
import Derived.BigQuiet
import Derived.Deep.QuietTactic
namespace Go.Proofs.YteinadddmcicoaaGreatDoor
open Go.RowKit Go.Shelf
open LexPlain (signsL signL)

/-- How many bytes the first of the list has that stands at the head; nought: none does. -/
def firstLen : List (List UInt8) → List UInt8 → Nat
  | [], _ => 0
  | w :: ws, l => if l.take w.length = w then w.length else firstLen ws l

theorem firstLen_append (a b : List (List UInt8)) (l : List UInt8) (h : ∀ w ∈ a, w ≠ []) : firstLen (a ++ b) l = if firstLen a l = 0 then firstLen b l else firstLen a l := by
  induction a with
  | nil => simp [firstLen]
  | cons w ws ih =>
    have hw : w.length ≠ 0 := fun e => h w (List.mem_cons_self) (List.eq_nil_of_length_eq_zero e)
    simp only [List.cons_append, firstLen]
    split
    · simp [hw]
    · exact ih fun x hx => h x (List.mem_cons_of_mem _ hx)
theorem firstLen_same (n : Nat) (l : List UInt8) : ∀ ws : List (List UInt8), (∀ w ∈ ws, w.length = n) → firstLen ws l = if ws.contains (l.take n) = true then n else 0
  | [], _ => rfl
  | w :: ws, h => by
    have hw := h w (List.mem_cons_self)
    have ih := firstLen_same n l ws fun x hx => h x (List.mem_cons_of_mem _ hx)
    simp only [firstLen, List.contains_cons, Bool.or_eq_true, beq_iff_eq]
    rw [hw, ih]
    by_cases he : l.take n = w
    · rw [if_pos he, if_pos (Or.inl he)]
    · rw [if_neg he]
      by_cases hc : ws.contains (l.take n) = true
      · rw [if_pos hc, if_pos (Or.inr hc)]
      · rw [if_neg hc, if_neg]
        rintro (h' | h')
        · exact he h'
        · exact hc h'

def signs3 : List (List UInt8) := signsL.take 2
def signs2 : List (List UInt8) := (signsL.drop 2).take 6
def signs1 : List (List UInt8) := signsL.drop 8
theorem signs_parts : signsL = signs3 ++ (signs2 ++ signs1) := by decide +kernel
theorem signs_len3 : ∀ w ∈ signs3, w.length = 3 := by decide +kernel
theorem signs_len2 : ∀ w ∈ signs2, w.length = 2 := by decide +kernel
theorem signs_len1 : ∀ w ∈ signs1, w.length = 1 := by decide +kernel
theorem not_in {ws : List (List UInt8)} {n : Nat} (h : ∀ w ∈ ws, w.length = n) {x : List UInt8} (hx : x.length ≠ n) : ws.contains x = false := by
  cases hc : ws.contains x with
  | false => rfl
  | true => exact absurd (h x (List.contains_iff_mem.1 hc)) hx
theorem signs_split (x : List UInt8) : signsL.contains x = (signs3.contains x || (signs2.contains x || signs1.contains x)) := by
  rw [signs_parts, Bool.eq_iff_iff]
  simp only [Bool.or_eq_true, List.contains_iff_mem, List.mem_append]

theorem firstLen_sign (l : List UInt8) : firstLen signsL l = signL l := by
  have e3 := firstLen_same 3 l signs3 signs_len3
  have e2 := firstLen_same 2 l signs2 signs_len2
  have e1 := firstLen_same 1 l signs1 signs_len1
  have hF : firstLen signsL l = if signs3.contains (l.take 3) = true then 3 else if signs2.contains (l.take 2) = true then 2 else if signs1.contains (l.take 1) = true then 1 else 0 := by
    rw [signs_parts, firstLen_append signs3 _ l (fun w hw e => by have := signs_len3 w hw; rw [e] at this; simp at this),
      firstLen_append signs2 _ l (fun w hw e => by have := signs_len2 w hw; rw [e] at this; simp at this), e3, e2, e1]
    by_cases h3 : signs3.contains (l.take 3) = true
    · rw [if_pos h3, if_pos h3]; rfl
    · rw [if_neg h3, if_neg h3, if_pos rfl]
      by_cases h2 : signs2.contains (l.take 2) = true
      · rw [if_pos h2, if_pos h2]; rfl
      · rw [if_neg h2, if_neg h2, if_pos rfl]
  rw [hF]
  unfold signL
  rw [signs_split, signs_split, signs_split]
  rcases Nat.lt_or_ge l.length 1 with h0 | h1
  · have : l = [] := List.eq_nil_of_length_eq_zero (by omega)
    subst this
    rw [not_in signs_len3 (by simp), not_in signs_len2 (by simp), not_in signs_len1 (by simp)]
    simp
  rcases Nat.lt_or_ge l.length 2 with h0 | h2
  · have t3 : l.take 3 = l := List.take_of_length_le (by omega)
    have t2 : l.take 2 = l := List.take_of_length_le (by omega)
    have t1 : l.take 1 = l := List.take_of_length_le (by omega)
    rw [t3, t2, t1, not_in signs_len3 (by omega), not_in signs_len2 (by omega)]
    simp only [Bool.false_or, Bool.false_eq_true, if_false]
    split
    · omega
    · rfl
  rcases Nat.lt_or_ge l.length 3 with h0 | h3
  · have t3 : l.take 3 = l := List.take_of_length_le (by omega)
    have t2 : l.take 2 = l := List.take_of_length_le (by omega)
    have t1 : (l.take 1).length = 1 := by rw [List.length_take]; omega
    rw [t3, t2, not_in signs_len3 (x := l) (by omega), not_in signs_len1 (x := l) (by omega), not_in signs_len3 (x := l.take 1) (by omega), not_in signs_len2 (x := l.take 1) (by omega), t1]
    simp only [Bool.false_or, Bool.or_false, Bool.false_eq_true, if_false]
    split
    · omega
    · rfl
  · have t3 : (l.take 3).length = 3 := by rw [List.length_take]; omega
    have t2 : (l.take 2).length = 2 := by rw [List.length_take]; omega
    have t1 : (l.take 1).length = 1 := by rw [List.length_take]; omega
    rw [not_in signs_len2 (x := l.take 3) (by omega), not_in signs_len1 (x := l.take 3) (by omega), not_in signs_len3 (x := l.take 2) (by omega), not_in signs_len1 (x := l.take 2) (by omega),
      not_in signs_len3 (x := l.take 1) (by omega), not_in signs_len2 (x := l.take 1) (by omega), t3, t2, t1]
    simp only [Bool.false_or, Bool.or_false]

theorem firstLen_drop (k : Nat) (h : k < signsL.length) (l : List UInt8) : firstLen (signsL.drop k) l = if l.take signsL[k].length = signsL[k] then signsL[k].length else firstLen (signsL.drop (k + 1)) l := by
  rw [List.drop_eq_getElem_cons h]
  rfl
theorem sign_small (k : Nat) (h : k < signsL.length) : signsL[k].length ≤ 3 ∧ 1 ≤ signsL[k].length := by
  have : ∀ w ∈ signsL, w.length ≤ 3 ∧ 1 ≤ w.length := by decide +kernel
  exact this _ (List.getElem_mem h)
def signCells : Array Value := (signsL.map fun w => Value.string ⟨w.toArray⟩).toArray
theorem signCells_at (k : Nat) (h : k < signsL.length) : signCells[k]? = some (.string ⟨signsL[k].toArray⟩) := by
  unfold signCells
  rw [List.getElem?_toArray, List.getElem?_map, List.getElem?_eq_getElem h]
  rfl
set_option maxHeartbeats 3200000 in
set_option maxRecDepth 100000 in
theorem refSign_any (s : ByteArray) (hs : s.size ≤ 1000000) (w : World) :
    Calls Tryz.prog 132 #[.string s] w fun e w' => e = .returned (.int .i64 (signL s.data.toList)) ∧ Below w.heap.size w w' := by
  have hcell : Hid (∀ k, (h : k < signsL.length) → (w.alloc (.cells signCells 9)).cell? ⟨w.heap.size, k, none⟩ = some (.string ⟨signsL[k].toArray⟩)) := Lib.hid (fun k h => by
    rw [cell_of_row _ _ _ _ _ _ (heap_alloc_new w _)]; exact signCells_at k h)
  have HB := Lib.hid ((Below.refl w.heap.size w).alloc (Nat.le_refl _) (.cells signCells 9))
  have hlen : signsL.length = 26 := by decide +kernel
  obtain ⟨W, hW⟩ : ∃ W, W = w.alloc (.cells signCells 9) := ⟨_, rfl⟩
  rw [← hW] at hcell HB
  have HW := Lib.hid hW
  clear hW
  rw [← firstLen_sign]
  generalize hn : firstLen signsL s.data.toList = n
  have HN := Lib.hid hn
  clear hn
  go_enter Tryz.func132, Tryz.ntmps132
  go_wp2_with fail
  go_loopw [4] (fun vi wr => ∃ k m : Nat, vi = .int .i64 k ∧ k ≤ 26 ∧ Hid (firstLen (signsL.drop k) s.data.toList = n) ∧ wr = W.drewN m) (fun vi _ => 26 - (intOf vi).toNat)
  case atStart => exact ⟨0, 0, rfl, by omega, by rw [List.drop_zero]; exact HN, by rw [HW.out]; rfl⟩
  case round =>
    obtain ⟨k, m, rfl, hk, hr, rfl⟩ := hrel
    by_cases hkn : k < 26
    · have c0 := hcell.out k (by omega)
      have HD := Lib.hid (firstLen_drop k (by omega) s.data.toList)
      obtain ⟨hw3, hw1⟩ := sign_small k (by omega)
      generalize signsL[k]'(by omega) = wd at c0 HD hw3 hw1
      have hTK : (s.extract 0 wd.length).toList = s.data.toList.take wd.length := by rw [ByteArray.toList_eq, take_extract]
      have hSL : s.data.toList.length = s.size := Array.length_toList
      by_cases hsz : wd.length ≤ s.size
      · by_cases he : s.data.toList.take wd.length = wd
        · have hq : ((s.extract 0 wd.length).toList == wd) = true := by rw [hTK, beq_iff_eq]; exact he
          have HR := Lib.hid (show wd.length = n by rw [← hr.out, HD.out, if_pos he])
          clear he hTK hSL
          go_wp2_with fail
          go_big_quiet (fail)
          go_wp2_with fail
          go_returns
          exact ⟨ret_i64 (by have := HR.out; omega), HB.out.trans ⟨rfl, rfl, rfl, Nat.le_refl _, fun _ _ => rfl⟩⟩
        · have hq : ((s.extract 0 wd.length).toList == wd) = false := by rw [hTK, beq_eq_false_iff_ne]; exact he
          have HR := Lib.hid (show firstLen (signsL.drop (k + 1)) s.data.toList = n by rw [← hr.out, HD.out, if_neg he])
          clear he hTK hSL
          go_wp2_with fail
          go_big_quiet (fail)
          go_wp2_with fail
          go_roundw
          case rel => exact ⟨k + 1, _, by go_num, by omega, HR, rfl⟩
          case measure => simp [intOf]; omega
      · have he : s.data.toList.take wd.length ≠ wd := fun e => by
          have := congrArg List.length e
          rw [List.length_take] at this
          omega
        have HR := Lib.hid (show firstLen (signsL.drop (k + 1)) s.data.toList = n by rw [← hr.out, HD.out, if_neg he])
        have hg : decide (wd.length ≤ s.size) = false := decide_eq_false hsz
        clear he hTK hSL hsz
        go_wp2_with fail
        go_big_quiet (fail)
        go_wp2_with fail
        go_roundw
        case rel => exact ⟨k + 1, _, by go_num, by omega, HR, rfl⟩
        case measure => simp [intOf]; omega
    · have hk26 : k = 26 := by omega
      have HR := Lib.hid (show 0 = n by rw [← hr.out, hk26, List.drop_of_length_le (by omega)]; rfl)
      clear hk26
      go_wp2_with fail
      go_returns
      exact ⟨ret_i64 (by have := HR.out; omega), HB.out.trans ⟨rfl, rfl, rfl, Nat.le_refl _, fun _ _ => rfl⟩⟩
end Go.Proofs.YteinadddmcicoaaGreatDoor
