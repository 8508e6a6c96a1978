/- Walks over the statements of layer 1: lives, WordDoes, WordTexts, WordDivides, WordBack, WordRing, WordOrders: each returns true in every world that holds the library's table and sentinels. -/
import Derived.Test.YthipeocjgflfaaaDoorWordDo
import Derived.Test.YthipeocjgflfaaaDoorWordRefP
namespace Go.Proofs.YthipeocjgflfaaaDoor
open Go.RowKit Go.Shelf

theorem _root_.Go.RowKit.Below.thens {w w1 w2 : World} (h : Below w.heap.size w w1) (k : Below w1.heap.size w1 w2) : Below w.heap.size w w2 := h.trans (k.mono h.size)

def True_ (w : World) (e : Ending) (w' : World) : Prop := e = .returned (.bool true) ∧ Below w.heap.size w w'

theorem pw45 : WordPlain.parseW [45, 52, 53] = some (-45) := by
  have h : Lib.itoa (-45) = [45, 52, 53] := by decide +kernel
  rw [← h]; exact WordPlain.parseW_itoa _ (by omega) (by omega)

set_option maxHeartbeats 800000 in
theorem lives_any (w : World) (h : Has w) : Calls Tryd.prog 11 #[] w (True_ w) := by
  have hd : doR 1 2 3 = (5, 0) := by decide +kernel
  have c1 := do_all 1 2 3 (by omega) (by omega) (by omega) (by omega) (by omega) (by omega)
  unfold Does at c1
  rw [hd] at c1
  have c2 := fun w h => parse_some (⟨#[45, 52, 53]⟩ : ByteArray) (by decide) (-45) pw45 w h
  have h45 : Lib.itoa (-45) = [45, 52, 53] := by decide +kernel
  have c3 := fun w h => text_any (-45) (by omega) (by omega) w h
  rw [h45] at c3
  clear hd h45
  have C1 := Lib.hid c1
  have C2 := Lib.hid c2
  have C3 := Lib.hid c3
  clear c1 c2 c3
  go_enter Tryd.func11, Tryd.ntmps11
  go_wp2_with (go_at_call 9; refine (C1.out _).mono ?_; rintro e w1 ⟨rfl, rfl⟩)
  go_wp2_with (go_at_call 12; refine (C2.out _ h).mono ?_; rintro e w2 ⟨rfl, hb2⟩)
  go_wp2_with (go_at_call 14; refine (C3.out _ (h.next hb2)).mono ?_; rintro e w3 ⟨rfl, hb3⟩)
  go_ret
  exact ⟨rfl, hb2.trans (hb3.mono hb2.size)⟩

set_option maxHeartbeats 800000 in
theorem wordDoes_any (c a b : Int) (g1 : 0 ≤ c) (g2 : c ≤ 255) (h1 : -9223372036854775808 ≤ a) (h2 : a ≤ 9223372036854775807) (h3 : -9223372036854775808 ≤ b) (h4 : b ≤ 9223372036854775807) (w : World) (h : Has w) :
    Calls Tryd.prog 3 #[.int .u8 c, .int .i64 a, .int .i64 b] w (True_ w) := by
  have C1 := Lib.hid (do_all c a b g1 g2 h1 h2 h3 h4)
  have C2 := Lib.hid (doRef_all c a b g1 g2 h1 h2 h3 h4)
  generalize hx : doR c a b = x
  unfold Does at C1 C2
  rw [hx] at C1 C2
  clear hx
  obtain ⟨q, r⟩ := x
  go_enter Tryd.func3, Tryd.ntmps3
  go_wp2_with (go_at_call 9; refine (C1.out _).mono ?_; rintro e w1 ⟨rfl, rfl⟩)
  go_wp2_with (go_at_call 10; refine (C2.out _).mono ?_; rintro e w1 ⟨rfl, rfl⟩)
  go_wp2_with (go_at_call 11; refine (lives_any _ h).mono ?_; rintro e w1 ⟨rfl, hb⟩)
  go_ret
  exact ⟨rfl, hb⟩

set_option maxHeartbeats 800000 in
theorem wordTexts_long (n : Int) (s : ByteArray) (hs : 262144 < s.size) (w : World) :
    Calls Tryd.prog 4 #[.int .i64 n, .string s] w (True_ w) := by
  go_enter Tryd.func4, Tryd.ntmps4
  go_wp2
  go_ret
  exact ⟨rfl, Below.refl _ _⟩

set_option maxHeartbeats 800000 in
theorem wordTexts_any (n : Int) (s : ByteArray) (hs : s.size ≤ 262144) (h1 : -9223372036854775808 ≤ n) (h2 : n ≤ 9223372036854775807) (w : World) (h : Has w) :
    Calls Tryd.prog 4 #[.int .i64 n, .string s] w (True_ w) := by
  have C1 := Lib.hid (fun w h => parse_any s (by omega) w h)
  have C2 := Lib.hid (fun w => refParse_any s w)
  have C3 := Lib.hid (fun w h => text_any n h1 h2 w h)
  have C4 := Lib.hid (fun w => refText_any n h1 h2 w)
  generalize hx : WordPlain.parseW s.data.toList = x at C1 C2
  clear hx
  generalize hy : (Lib.itoa n) = y at C3 C4
  clear hy
  cases x with
  | none =>
    go_enter Tryd.func4, Tryd.ntmps4
    go_wp2_with (go_at_call 12; refine (C1.out _ h).mono ?_; rintro e w1 ⟨rfl, hb1⟩)
    go_wp2_with (go_at_call 13; refine (C2.out _).mono ?_; rintro e w2 ⟨rfl, hb2⟩)
    go_wp2_with (go_at_call 14; refine (C3.out _ ((h.next hb1).next hb2)).mono ?_; rintro e w3 ⟨rfl, hb3⟩)
    go_wp2_with (go_at_call 15; refine (C4.out _).mono ?_; rintro e w4 ⟨rfl, hb4⟩)
    go_wp2_with (go_at_call 11; refine (lives_any _ ((((h.next hb1).next hb2).next hb3).next hb4)).mono ?_; rintro e w5 ⟨rfl, hb5⟩)
    go_ret
    exact ⟨rfl, (((hb1.thens hb2).thens hb3).thens hb4).thens hb5⟩
  | some v =>
    go_enter Tryd.func4, Tryd.ntmps4
    go_wp2_with (go_at_call 12; refine (C1.out _ h).mono ?_; rintro e w1 ⟨rfl, hb1⟩)
    go_wp2_with (go_at_call 13; refine (C2.out _).mono ?_; rintro e w2 ⟨rfl, hb2⟩)
    go_wp2_with (go_at_call 14; refine (C3.out _ ((h.next hb1).next hb2)).mono ?_; rintro e w3 ⟨rfl, hb3⟩)
    go_wp2_with (go_at_call 15; refine (C4.out _).mono ?_; rintro e w4 ⟨rfl, hb4⟩)
    go_wp2_with (go_at_call 11; refine (lives_any _ ((((h.next hb1).next hb2).next hb3).next hb4)).mono ?_; rintro e w5 ⟨rfl, hb5⟩)
    go_ret
    exact ⟨rfl, (((hb1.thens hb2).thens hb3).thens hb4).thens hb5⟩

theorem itoa_eq_iff (a b : Int) (h1 : -9223372036854775808 ≤ a) (h2 : a ≤ 9223372036854775807) (h3 : -9223372036854775808 ≤ b) (h4 : b ≤ 9223372036854775807) : (Lib.itoa a == Lib.itoa b) = (a == b) := by
  rw [Bool.eq_iff_iff, beq_iff_eq, beq_iff_eq]
  exact ⟨WordPlain.itoa_inj a b h1 h2 h3 h4, fun h => by rw [h]⟩

set_option maxHeartbeats 800000 in
theorem wordBack_any (a b : Int) (h1 : -9223372036854775808 ≤ a) (h2 : a ≤ 9223372036854775807) (h3 : -9223372036854775808 ≤ b) (h4 : b ≤ 9223372036854775807) (w : World) (h : Has w) :
    Calls Tryd.prog 6 #[.int .i64 a, .int .i64 b] w (True_ w) := by
  have C0 := Lib.hid (fun w h => text_any a h1 h2 w h)
  have hz : (⟨(Lib.itoa a).toArray⟩ : ByteArray).size ≤ 281474976710656 := by
    have := WordPlain.itoa_length_le20 a h1 h2
    simp [ByteArray.size]; omega
  have C1 := Lib.hid (fun w h => parse_some (⟨(Lib.itoa a).toArray⟩ : ByteArray) hz a (by simpa using WordPlain.parseW_itoa a h1 h2) w h)
  have C2 := Lib.hid (fun w h => text_any b h3 h4 w h)
  have he := itoa_eq_iff a b h1 h2 h3 h4
  clear hz
  generalize hx : Lib.itoa a = x at C0 C1 he
  generalize hy : Lib.itoa b = y at C2 he
  clear hx hy
  by_cases hab : a = b
  · have e1 : (a == b) = true := by simpa using hab
    have e2 : (x == y) = true := by rw [he]; exact e1
    clear hab he
    go_enter Tryd.func6, Tryd.ntmps6
    go_wp2_with (go_at_call 14; refine (C0.out _ h).mono ?_; rintro e w1 ⟨rfl, hb1⟩)
    go_wp2_with (go_at_call 12; refine (C1.out _ (h.next hb1)).mono ?_; rintro e w2 ⟨rfl, hb2⟩)
    go_wp2_with (go_at_call 14; refine (C0.out _ ((h.next hb1).next hb2)).mono ?_; rintro e w3 ⟨rfl, hb3⟩)
    refine (C2.out _ (((h.next hb1).next hb2).next hb3)).mono ?_
    rintro e w4 ⟨rfl, hb4⟩
    go_wp2_with (go_at_call 11; refine (lives_any _ ((((h.next hb1).next hb2).next hb3).next hb4)).mono ?_; rintro e w5 ⟨rfl, hb5⟩)
    go_ret
    exact ⟨rfl, (((hb1.thens hb2).thens hb3).thens hb4).thens hb5⟩
  · have e1 : (a == b) = false := by simpa using hab
    have e2 : (x == y) = false := by rw [he]; exact e1
    clear hab he
    go_enter Tryd.func6, Tryd.ntmps6
    go_wp2_with (go_at_call 14; refine (C0.out _ h).mono ?_; rintro e w1 ⟨rfl, hb1⟩)
    go_wp2_with (go_at_call 12; refine (C1.out _ (h.next hb1)).mono ?_; rintro e w2 ⟨rfl, hb2⟩)
    go_wp2_with (go_at_call 14; refine (C0.out _ ((h.next hb1).next hb2)).mono ?_; rintro e w3 ⟨rfl, hb3⟩)
    refine (C2.out _ (((h.next hb1).next hb2).next hb3)).mono ?_
    rintro e w4 ⟨rfl, hb4⟩
    go_wp2_with (go_at_call 11; refine (lives_any _ ((((h.next hb1).next hb2).next hb3).next hb4)).mono ?_; rintro e w5 ⟨rfl, hb5⟩)
    go_ret
    exact ⟨rfl, (((hb1.thens hb2).thens hb3).thens hb4).thens hb5⟩
theorem doRing_any (c a b : Int) (hc : c = 1 ∨ c = 2 ∨ c = 3) : Does 9 c a b := by
  intro w
  rcases hc with rfl | rfl | rfl
  all_goals
    go_enter Tryd.func9, Tryd.ntmps9
    go_wp2
    go_ret2
    exact ⟨ret2 (by simp [doR]) (by simp [doR]), rfl⟩

/-- WordDivides, behind its two operations: no quotient. -/
theorem wordDivides_bad (a b ee f r : Int) (hq : doR 4 a b = (0, ee)) (hr : doR 5 a b = (r, f)) (h1 : -9223372036854775808 ≤ a) (h2 : a ≤ 9223372036854775807) (h3 : -9223372036854775808 ≤ b) (h4 : b ≤ 9223372036854775807)
    (hc : (b = 0 ∧ ee = 4 ∧ f = 4) ∨ (b = -1 ∧ ee = 5 ∧ f = 0 ∧ r = 0)) (w : World) (h : Has w) :
    Calls Tryd.prog 5 #[.int .i64 a, .int .i64 b] w (True_ w) := by
  have C1 := Lib.hid (do_all 4 a b (by omega) (by omega) h1 h2 h3 h4)
  have C2 := Lib.hid (do_all 5 a b (by omega) (by omega) h1 h2 h3 h4)
  unfold Does at C1 C2
  rw [hq] at C1
  rw [hr] at C2
  clear hq hr
  rcases hc with ⟨rfl, rfl, rfl⟩ | ⟨rfl, rfl, rfl, rfl⟩
  all_goals
    go_enter Tryd.func5, Tryd.ntmps5
    go_wp2_with fail
    refine (C1.out _).mono ?_
    rintro e w1 ⟨rfl, rfl⟩
    go_wp2_with fail
    refine (C2.out _).mono ?_
    rintro e w1 ⟨rfl, rfl⟩
    go_wp2_with (go_at_call 11; refine (lives_any _ h).mono ?_; rintro e w1 ⟨rfl, hb⟩)
    go_ret
    exact ⟨rfl, hb⟩

set_option maxHeartbeats 1600000 in
/-- WordDivides, behind its two operations: a quotient. -/
theorem wordDivides_good (a b q r : Int) (hq : doR 4 a b = (q, 0)) (hr : doR 5 a b = (r, 0)) (h1 : -9223372036854775808 ≤ a) (h2 : a ≤ 9223372036854775807) (h3 : -9223372036854775808 ≤ b) (h4 : b ≤ 9223372036854775807)
    (hs : (wrap64 (wrap64 (q * b) + r) == a) = true) (hl : r = 0 ∨ (0 < r ∧ 0 < a) ∨ (r < 0 ∧ a < 0)) (hm : b = -9223372036854775808 ∨ (0 < b ∧ r < b ∧ -b < r) ∨ (b < 0 ∧ b ≠ -9223372036854775808 ∧ b < r ∧ r < -b)) (w : World) (h : Has w) :
    Calls Tryd.prog 5 #[.int .i64 a, .int .i64 b] w (True_ w) := by
  have C1 := Lib.hid (do_all 4 a b (by omega) (by omega) h1 h2 h3 h4)
  have C2 := Lib.hid (do_all 5 a b (by omega) (by omega) h1 h2 h3 h4)
  unfold Does at C1 C2
  rw [hq] at C1
  rw [hr] at C2
  clear hq hr
  have HS := Lib.hid hs
  go_enter Tryd.func5, Tryd.ntmps5
  go_wp2_with fail
  refine (C1.out _).mono ?_
  rintro e w1 ⟨rfl, rfl⟩
  go_wp2_with fail
  refine (C2.out _).mono ?_
  rintro e w1 ⟨rfl, rfl⟩
  go_wp2_with (go_at_call 11; refine (lives_any _ h).mono ?_; rintro e w1 ⟨rfl, hb⟩)
  all_goals first | (go_ret; exact ⟨rfl, hb⟩) | (exfalso; have h9 := HS.out; simp_all; done)

theorem quot_facts (a b : Int) (h1 : -9223372036854775808 ≤ a) (h2 : a ≤ 9223372036854775807) (h3 : -9223372036854775808 ≤ b) (h4 : b ≤ 9223372036854775807) (hb : b ≠ 0) (hn : ¬ (b = -1 ∧ a = -9223372036854775808)) :
    wrap64 (wrap64 (wrap64 (a.tdiv b) * b) + a.tmod b) = a ∧ (a.tmod b = 0 ∨ (0 < a.tmod b ∧ 0 < a) ∨ (a.tmod b < 0 ∧ a < 0)) ∧
    (b = -9223372036854775808 ∨ (0 < b ∧ a.tmod b < b ∧ -b < a.tmod b) ∨ (b < 0 ∧ b ≠ -9223372036854775808 ∧ b < a.tmod b ∧ a.tmod b < -b)) := by
  have e := Int.tdiv_mul_add_tmod a b
  have l1 := Int.natAbs_tmod a b
  have l2 : a.natAbs % b.natAbs < b.natAbs := Nat.mod_lt _ (by omega)
  have l3 : a.natAbs % b.natAbs ≤ a.natAbs := Nat.mod_le _ _
  have s1 : 0 ≤ a → 0 ≤ a.tmod b := fun h => Int.tmod_nonneg b h
  have s2 : a ≤ 0 → a.tmod b ≤ 0 := fun h => by
    have := Int.tmod_nonneg b (show 0 ≤ -a by omega)
    rw [Int.neg_tmod] at this; omega
  have q1 : (a.tdiv b).natAbs = a.natAbs / b.natAbs := Int.natAbs_tdiv a b
  have q2 : a.natAbs / b.natAbs ≤ a.natAbs := Nat.div_le_self _ _
  generalize a.tmod b = r at *
  generalize a.tdiv b = q at *
  have q3 : q ≠ 9223372036854775808 := by
    intro hq
    subst hq
    have : a.natAbs / b.natAbs = 9223372036854775808 := by rw [← q1]; rfl
    have ha : a = -9223372036854775808 := by omega
    subst ha
    have hb1 : b.natAbs = 1 := by
      rcases Nat.lt_or_ge b.natAbs 2 with h | h
      · omega
      · have := Nat.div_le_div_left h (by omega) (a := Int.natAbs (-9223372036854775808))
        have e2 : Int.natAbs (-9223372036854775808) / 2 = 4611686018427387904 := by decide
        omega
    have : b = 1 ∨ b = -1 := by omega
    rcases this with rfl | rfl
    · omega
    · exact hn ⟨rfl, rfl⟩
  have hq : wrap64 q = q := by unfold wrap64; omega
  have hw : ∀ z : Int, wrap64 (wrap64 z + r) = wrap64 (z + r) := fun z => by unfold wrap64; omega
  refine ⟨?_, ?_, ?_⟩
  · rw [hq, hw, e]; unfold wrap64; omega
  · omega
  · omega

theorem wordDivides_any (a b : Int) (h1 : -9223372036854775808 ≤ a) (h2 : a ≤ 9223372036854775807) (h3 : -9223372036854775808 ≤ b) (h4 : b ≤ 9223372036854775807) (w : World) (h : Has w) :
    Calls Tryd.prog 5 #[.int .i64 a, .int .i64 b] w (True_ w) := by
  by_cases hb : b = 0
  · exact wordDivides_bad a b 4 4 0 (by simp [doR, hb]) (by simp [doR, hb]) h1 h2 h3 h4 (.inl ⟨hb, rfl, rfl⟩) w h
  by_cases hn : b = -1 ∧ a = -9223372036854775808
  · exact wordDivides_bad a b 5 0 0 (by simp [doR, hn]) (by simp [doR, hn]) h1 h2 h3 h4 (.inr ⟨hn.1, rfl, rfl, rfl⟩) w h
  · obtain ⟨f1, f2, f3⟩ := quot_facts a b h1 h2 h3 h4 hb hn
    exact wordDivides_good a b (wrap64 (a.tdiv b)) (a.tmod b) (by simp only [doR]; rw [if_neg (by omega), if_neg (by omega), if_neg (by omega), if_pos trivial, if_neg hb, if_neg hn])
      (by simp only [doR]; rw [if_neg (by omega), if_neg (by omega), if_neg (by omega), if_neg (by omega), if_pos trivial, if_neg hb]) h1 h2 h3 h4 (beq_iff_eq.2 f1) f2 f3 w h
end Go.Proofs.YthipeocjgflfaaaDoor
