/- Walks over the document's one: the token that begins here. -/
import Derived.Test.YteinadddmcicoaaGreatDoorLexRefText
import Derived.Test.YteinadddmcicoaaGreatDoorLexRefSign
import Derived.Test.YteinadddmcicoaaGreatDoorLexStep2
import Derived.Test.YteinadddmcicoaaGreatDoorLexLinesP
namespace Go.Proofs.YteinadddmcicoaaGreatDoor
open Go.RowKit Go.Shelf
open LexPlain (spanL partB digitB headB isWord isName numOf textL signL step_head step_dollar step_digit step_text step_sign spanL_le)

/-- What one answers: a token and how many bytes it has; nought: there is none. -/
def OneEnd (o : Option (Option (Nat × List UInt8 × Int) × Nat × Nat)) (e : Ending) : Prop := match o with
  | some (some (k, S, v), n, _) => e = .returned (.tuple #[.agg #[.int .u8 k, .string ⟨S.toArray⟩, .int .i64 v, .int .i64 0], .int .i64 n])
  | _ => ∃ (x0 : Int) (x1 : ByteArray) (x2 x3 : Int), e = .returned (.tuple #[.agg #[.int .u8 x0, .string x1, .int .i64 x2, .int .i64 x3], .int .i64 0])
theorem oneEnd_no {o : Option (Option (Nat × List UInt8 × Int) × Nat × Nat)} {x0 : Int} {x1 : ByteArray} {x2 x3 : Int} (h : o = none) : OneEnd o (.returned (.tuple #[.agg #[.int .u8 x0, .string x1, .int .i64 x2, .int .i64 x3], .int .i64 0])) := by subst h; exact ⟨_, _, _, _, rfl⟩
theorem oneEnd_yes {o : Option (Option (Nat × List UInt8 × Int) × Nat × Nat)} {k n f : Nat} {S : List UInt8} {v kk vv nn : Int} {x : ByteArray} (h : o = some (some (k, S, v), n, f)) (h1 : kk = k) (h2 : x.data.toList = S) (h3 : vv = v) (h4 : nn = n) : OneEnd o (.returned (.tuple #[.agg #[.int .u8 kk, .string x, .int .i64 vv, .int .i64 0], .int .i64 nn])) := by
  subst h; subst h1; subst h2; subst h3; subst h4
  rfl
theorem mid_extract (s : ByteArray) (n : Nat) : (s.extract 1 (1 + n)).data.toList = (s.data.toList.drop 1).take n := by
  simp [List.extract_eq_take_drop]

theorem cells4 {w : World} {g : Nat} {u0 u1 u2 u3 : Value} (z0 : w.cell? ⟨g, 0, none⟩ = some u0) (z1 : w.cell? ⟨g, 1, none⟩ = some u1) (z2 : w.cell? ⟨g, 2, none⟩ = some u2) (z3 : w.cell? ⟨g, 3, none⟩ = some u3) (a b c d : Value) :
    ((((w.setCell ⟨g, 0, none⟩ a).setCell ⟨g, 1, none⟩ b).setCell ⟨g, 2, none⟩ c).setCell ⟨g, 3, none⟩ d).cell? ⟨g, 0, none⟩ = some a ∧
    ((((w.setCell ⟨g, 0, none⟩ a).setCell ⟨g, 1, none⟩ b).setCell ⟨g, 2, none⟩ c).setCell ⟨g, 3, none⟩ d).cell? ⟨g, 1, none⟩ = some b ∧
    ((((w.setCell ⟨g, 0, none⟩ a).setCell ⟨g, 1, none⟩ b).setCell ⟨g, 2, none⟩ c).setCell ⟨g, 3, none⟩ d).cell? ⟨g, 2, none⟩ = some c ∧
    ((((w.setCell ⟨g, 0, none⟩ a).setCell ⟨g, 1, none⟩ b).setCell ⟨g, 2, none⟩ c).setCell ⟨g, 3, none⟩ d).cell? ⟨g, 3, none⟩ = some d := by
  have far : ∀ (W : World) (i j : Nat) (v : Value), i ≠ j → (W.setCell ⟨g, i, none⟩ v).cell? ⟨g, j, none⟩ = W.cell? ⟨g, j, none⟩ := fun W i j v h => World.cell?_setCell_other _ _ _ _ (by intro e; injection e with _ e; exact h e)
  refine ⟨?_, ?_, ?_, ?_⟩
  · rw [far _ 3 0 _ (by decide), far _ 2 0 _ (by decide), far _ 1 0 _ (by decide)]
    exact World.cell?_setCell_same _ _ _ z0
  · rw [far _ 3 1 _ (by decide), far _ 2 1 _ (by decide)]
    exact World.cell?_setCell_same _ _ _ (by rw [far _ 0 1 _ (by decide)]; exact z1)
  · rw [far _ 3 2 _ (by decide)]
    exact World.cell?_setCell_same _ _ _ (by rw [far _ 1 2 _ (by decide), far _ 0 2 _ (by decide)]; exact z2)
  · exact World.cell?_setCell_same _ _ _ (by rw [far _ 2 3 _ (by decide), far _ 1 3 _ (by decide), far _ 0 3 _ (by decide)]; exact z3)

section
variable (s : ByteArray) (h0 : 0 < s.size) (hs : s.size ≤ 65536) (w : World)
  (n1 : ¬ s[0].toNat = 10) (n2 : ¬ (s[0].toNat = 32 ∨ s[0].toNat = 9 ∨ s[0].toNat = 13)) (n3 : ¬ (s[0].toNat = 47 ∧ ((s.data.toList.drop 1).head?.map (·.toNat)) = some 47))
include h0 hs n1 n2 n3

set_option maxHeartbeats 3200000 in
set_option maxRecDepth 100000 in
theorem one_head (hh : headB s[0] = true) : Calls Tryz.prog 11 #[.string s] w fun e w' => OneEnd (LexPlain.step s.data.toList) e ∧ Below w.heap.size w w' := by
  have hst := step_head s[0] (s.data.toList.drop 1) n1 n2 n3 hh
  rw [← list_cons s h0] at hst
  have C1 := Lib.hid (fun w' => refHead_any s[0] w')
  rw [hh] at C1
  have C2 := Lib.hid (fun w' => refRun_part s (by omega) w')
  have hle := spanL_le partB s.data.toList
  rw [Array.length_toList] at hle
  have hle : spanL partB s.data.toList ≤ s.size := hle
  generalize spanL partB s.data.toList = n at hst C2 hle
  have C3 := Lib.hid (fun w' => refWord_any (s.extract 0 n) w')
  have C4 := Lib.hid (fun w' => refName_any (s.extract 0 n) w')
  rw [take_extract] at C3 C4
  have hTK := Lib.hid (take_extract s n)
  obtain ⟨o, ho⟩ : ∃ o, o = LexPlain.step s.data.toList := ⟨_, rfl⟩
  rw [← ho] at hst ⊢
  clear ho n1 n2 n3 hh
  cases hw : isWord (s.data.toList.take n) with
  | true =>
    rw [hw] at hst C3
    rw [if_pos rfl] at hst
    have HO := Lib.hid hst
    clear hst hw
    go_enter Tryz.func11, Tryz.ntmps11
    go_wp2_with fail
    refine (C1.out _).mono ?_
    rintro e w1 ⟨rfl, rfl⟩
    go_wp2_with fail
    refine (C2.out _).mono ?_
    rintro e w1 ⟨rfl, rfl⟩
    go_wp2_with fail
    refine (C3.out _).mono ?_
    rintro e w1 ⟨rfl, rfl⟩
    go_wp2_with fail
    go_returns
    exact ⟨oneEnd_yes HO.out rfl hTK.out rfl rfl, (Below.refl w.heap.size w).alloc (Nat.le_refl _) _⟩
  | false =>
    rw [hw] at hst C3
    rw [if_neg (by decide)] at hst
    cases hm : isName (s.data.toList.take n) with
    | true =>
      rw [hm] at hst C4
      rw [if_pos rfl] at hst
      have HO := Lib.hid hst
      clear hst hw hm
      go_enter Tryz.func11, Tryz.ntmps11
      go_wp2_with fail
      refine (C1.out _).mono ?_
      rintro e w1 ⟨rfl, rfl⟩
      go_wp2_with fail
      refine (C2.out _).mono ?_
      rintro e w1 ⟨rfl, rfl⟩
      go_wp2_with fail
      refine (C3.out _).mono ?_
      rintro e w1 ⟨rfl, rfl⟩
      go_wp2_with fail
      refine (C4.out _).mono ?_
      rintro e w1 ⟨rfl, rfl⟩
      go_wp2_with fail
      go_returns
      exact ⟨oneEnd_yes HO.out rfl hTK.out rfl rfl, (Below.refl w.heap.size w).alloc (Nat.le_refl _) _⟩
    | false =>
      rw [hm] at hst C4
      rw [if_neg (by decide)] at hst
      have HO := Lib.hid hst
      clear hst hw hm
      go_enter Tryz.func11, Tryz.ntmps11
      go_wp2_with fail
      refine (C1.out _).mono ?_
      rintro e w1 ⟨rfl, rfl⟩
      go_wp2_with fail
      refine (C2.out _).mono ?_
      rintro e w1 ⟨rfl, rfl⟩
      go_wp2_with fail
      refine (C3.out _).mono ?_
      rintro e w1 ⟨rfl, rfl⟩
      go_wp2_with fail
      refine (C4.out _).mono ?_
      rintro e w1 ⟨rfl, rfl⟩
      go_wp2_with fail
      go_returns
      exact ⟨oneEnd_no HO.out, (Below.refl w.heap.size w).alloc (Nat.le_refl _) _⟩

set_option maxHeartbeats 3200000 in
set_option maxRecDepth 100000 in
theorem one_dollar (hh : headB s[0] = false) (h36 : s[0].toNat = 36) : Calls Tryz.prog 11 #[.string s] w fun e w' => OneEnd (LexPlain.step s.data.toList) e ∧ Below w.heap.size w w' := by
  have hst := step_dollar s[0] (s.data.toList.drop 1) n1 n2 n3 hh h36
  rw [← list_cons s h0] at hst
  have C1 := Lib.hid (fun w' => refHead_any s[0] w')
  rw [hh] at C1
  have d36 : ((s[0].toNat : Int) == 36) = true := by rw [beq_iff_eq]; omega
  have C2 := Lib.hid (fun w' => refRun_part (s.extract 1 s.size) (by simp; omega) w')
  rw [drop_extract] at C2
  have hle := spanL_le partB (s.data.toList.drop 1)
  rw [List.length_drop, Array.length_toList] at hle
  have hle : spanL partB (s.data.toList.drop 1) ≤ s.size - 1 := hle
  generalize spanL partB (s.data.toList.drop 1) = n at hst C2 hle
  have C4 := Lib.hid (fun w' => refName_any (s.extract 1 (1 + n)) w')
  rw [mid_extract] at C4
  have hTK := Lib.hid (mid_extract s n)
  obtain ⟨o, ho⟩ : ∃ o, o = LexPlain.step s.data.toList := ⟨_, rfl⟩
  rw [← ho] at hst ⊢
  clear ho n1 n2 n3 hh h36
  cases hm : isName ((s.data.toList.drop 1).take n) with
  | true =>
    rw [hm] at hst C4
    rw [if_pos rfl] at hst
    have HO := Lib.hid hst
    clear hst hm
    go_enter Tryz.func11, Tryz.ntmps11
    go_wp2_with fail
    refine (C1.out _).mono ?_
    rintro e w1 ⟨rfl, rfl⟩
    go_wp2_with fail
    refine (C2.out _).mono ?_
    rintro e w1 ⟨rfl, rfl⟩
    go_wp2_with fail
    refine (C4.out _).mono ?_
    rintro e w1 ⟨rfl, rfl⟩
    go_wp2_with fail
    go_returns
    exact ⟨oneEnd_yes HO.out rfl hTK.out rfl (by go_num), (Below.refl w.heap.size w).alloc (Nat.le_refl _) _⟩
  | false =>
    rw [hm] at hst C4
    rw [if_neg (by decide)] at hst
    have HO := Lib.hid hst
    clear hst hm
    go_enter Tryz.func11, Tryz.ntmps11
    go_wp2_with fail
    refine (C1.out _).mono ?_
    rintro e w1 ⟨rfl, rfl⟩
    go_wp2_with fail
    refine (C2.out _).mono ?_
    rintro e w1 ⟨rfl, rfl⟩
    go_wp2_with fail
    refine (C4.out _).mono ?_
    rintro e w1 ⟨rfl, rfl⟩
    go_wp2_with fail
    go_returns
    exact ⟨oneEnd_no HO.out, (Below.refl w.heap.size w).alloc (Nat.le_refl _) _⟩

set_option maxHeartbeats 3200000 in
set_option maxRecDepth 100000 in
theorem one_digit (hh : headB s[0] = false) (h36 : ¬ s[0].toNat = 36) (hd : digitB s[0] = true) : Calls Tryz.prog 11 #[.string s] w fun e w' => OneEnd (LexPlain.step s.data.toList) e ∧ Below w.heap.size w w' := by
  have hst := step_digit s[0] (s.data.toList.drop 1) n1 n2 n3 hh h36 hd
  rw [← list_cons s h0] at hst
  have C1 := Lib.hid (fun w' => refHead_any s[0] w')
  rw [hh] at C1
  have d36 : ((s[0].toNat : Int) == 36) = false := by rw [beq_eq_false_iff_ne]; omega
  have C0 := Lib.hid (fun w' => refDigit_any s[0] w')
  rw [hd] at C0
  have C2 := Lib.hid (fun w' => refRun_digit s (by omega) w')
  have hle := spanL_le digitB s.data.toList
  rw [Array.length_toList] at hle
  have hle : spanL digitB s.data.toList ≤ s.size := hle
  have hpos : 1 ≤ spanL digitB s.data.toList := by
    rw [list_cons s h0, LexPlain.spanL_cons digitB _ _ hd]; omega
  have hall : (s.data.toList.take (spanL digitB s.data.toList)).all digitB = true := List.all_eq_true.2 (LexPlain.span_all digitB s.data.toList)
  generalize spanL digitB s.data.toList = n at hst C2 hle hpos hall
  have hne : s.data.toList.take n ≠ [] := fun e => by
    have := congrArg List.length e
    have hz : s.data.toList.length = s.size := Array.length_toList
    rw [List.length_take, hz, List.length_nil] at this
    omega
  have CD := Lib.hid (fun w' => refDigits_any (s.extract 0 n) (by simp; omega) (by rw [take_extract]; exact hall) w')
  rw [take_extract, LexPlain.refDig_eq hall hne] at CD
  have hTK := Lib.hid (take_extract s n)
  obtain ⟨o, ho⟩ : ∃ o, o = LexPlain.step s.data.toList := ⟨_, rfl⟩
  rw [← ho] at hst ⊢
  clear ho n1 n2 n3 hh h36 hall hne hd
  cases hm : numOf (s.data.toList.take n) with
  | some v =>
    rw [hm] at hst CD
    have HO := Lib.hid hst
    clear hst hm
    go_enter Tryz.func11, Tryz.ntmps11
    go_wp2_with fail
    refine (C1.out _).mono ?_
    rintro e w1 ⟨rfl, rfl⟩
    go_wp2_with fail
    refine (C0.out _).mono ?_
    rintro e w1 ⟨rfl, rfl⟩
    go_wp2_with fail
    refine (C2.out _).mono ?_
    rintro e w1 ⟨rfl, rfl⟩
    go_wp2_with fail
    refine (CD.out _).mono ?_
    rintro e w1 ⟨he, rfl⟩
    obtain rfl : e = .returned (.tuple #[.int .u64 v, .bool true]) := he
    go_wp2_with fail
    go_returns
    exact ⟨oneEnd_yes HO.out rfl hTK.out (by first | rfl | simp [wrap64, IntKind.wrap_i64]) rfl, (Below.refl w.heap.size w).alloc (Nat.le_refl _) _⟩
  | none =>
    rw [hm] at hst CD
    have HO := Lib.hid hst
    clear hst hm
    go_enter Tryz.func11, Tryz.ntmps11
    go_wp2_with fail
    refine (C1.out _).mono ?_
    rintro e w1 ⟨rfl, rfl⟩
    go_wp2_with fail
    refine (C0.out _).mono ?_
    rintro e w1 ⟨rfl, rfl⟩
    go_wp2_with fail
    refine (C2.out _).mono ?_
    rintro e w1 ⟨rfl, rfl⟩
    go_wp2_with fail
    refine (CD.out _).mono ?_
    rintro e w1 ⟨he, rfl⟩
    obtain rfl : e = .returned (.tuple #[.int .u64 0, .bool false]) := he
    go_wp2_with fail
    go_returns
    exact ⟨oneEnd_no HO.out, (Below.refl w.heap.size w).alloc (Nat.le_refl _) _⟩

set_option maxHeartbeats 3200000 in
set_option maxRecDepth 100000 in
theorem one_text (hh : headB s[0] = false) (h36 : ¬ s[0].toNat = 36) (hd : digitB s[0] = false) (h39 : s[0].toNat = 39) : Calls Tryz.prog 11 #[.string s] w fun e w' => OneEnd (LexPlain.step s.data.toList) e ∧ Below w.heap.size w w' := by
  have hst := step_text s[0] (s.data.toList.drop 1) n1 n2 n3 hh h36 hd h39
  rw [← list_cons s h0] at hst
  have C1 := Lib.hid (fun w' => refHead_any s[0] w')
  rw [hh] at C1
  have d36 : ((s[0].toNat : Int) == 36) = false := by rw [beq_eq_false_iff_ne]; omega
  have C0 := Lib.hid (fun w' => refDigit_any s[0] w')
  rw [hd] at C0
  have d39 : ((s[0].toNat : Int) == 39) = true := by rw [beq_iff_eq]; omega
  have CT := Lib.hid (fun w' => refText_any s h0 (by omega) w')
  obtain ⟨o, ho⟩ : ∃ o, o = LexPlain.step s.data.toList := ⟨_, rfl⟩
  rw [← ho] at hst ⊢
  clear ho n1 n2 n3 hh h36 hd h39
  cases hm : textL (s.data.toList.drop 1) with
  | some x =>
    obtain ⟨bs, m⟩ := x
    rw [hm] at hst CT
    have HO := Lib.hid hst
    clear hst hm
    go_enter Tryz.func11, Tryz.ntmps11
    go_wp2_with fail
    refine (C1.out _).mono ?_
    rintro e w1 ⟨rfl, rfl⟩
    go_wp2_with fail
    refine (C0.out _).mono ?_
    rintro e w1 ⟨rfl, rfl⟩
    go_wp2_with fail
    refine (CT.out _).mono ?_
    rintro e w1 ⟨he, hb1⟩
    obtain rfl : e = .returned (.tuple #[.string ⟨bs.toArray⟩, .int .i64 (1 + m : Nat)]) := he
    have z0 : w1.cell? ⟨w.heap.size, 0, none⟩ = some (.int .u8 0) := cell_later hb1 (by go_simp)
    have z1 : w1.cell? ⟨w.heap.size, 1, none⟩ = some (.string ⟨#[]⟩) := cell_later hb1 (by go_simp)
    have z2 : w1.cell? ⟨w.heap.size, 2, none⟩ = some (.int .i64 0) := cell_later hb1 (by go_simp)
    have z3 : w1.cell? ⟨w.heap.size, 3, none⟩ = some (.int .i64 0) := cell_later hb1 (by go_simp)
    have f0 : w1.frozen? ⟨w.heap.size, 0, none⟩ = false := (hb1.frozen (p := ⟨w.heap.size, 0, none⟩) (by simp)).trans (by go_simp)
    have f1 : w1.frozen? ⟨w.heap.size, 1, none⟩ = false := (hb1.frozen (p := ⟨w.heap.size, 1, none⟩) (by simp)).trans (by go_simp)
    have f2 : w1.frozen? ⟨w.heap.size, 2, none⟩ = false := (hb1.frozen (p := ⟨w.heap.size, 2, none⟩) (by simp)).trans (by go_simp)
    have f3 : w1.frozen? ⟨w.heap.size, 3, none⟩ = false := (hb1.frozen (p := ⟨w.heap.size, 3, none⟩) (by simp)).trans (by go_simp)
    have HB := Lib.hid (((Below.refl w.heap.size w).alloc (Nat.le_refl _) (.cells #[.int .u8 0, .string ⟨#[]⟩, .int .i64 0, .int .i64 0] 71)).trans (hb1.mono (by simp)))
    clear hb1
    obtain ⟨g0, g1, g2, g3⟩ := cells4 z0 z1 z2 z3 (.int .u8 5) (.string ⟨bs.toArray⟩) (.int .i64 0) (.int .i64 0)
    have HB4 : Hid (Below w.heap.size w ((((w1.setCell ⟨w.heap.size, 0, none⟩ (.int .u8 5)).setCell ⟨w.heap.size, 1, none⟩ (.string ⟨bs.toArray⟩)).setCell ⟨w.heap.size, 2, none⟩ (.int .i64 0)).setCell ⟨w.heap.size, 3, none⟩ (.int .i64 0))) := Lib.hid ((((HB.out.setCell (p := ⟨w.heap.size, 0, none⟩) (Nat.le_refl _) _).setCell (p := ⟨w.heap.size, 1, none⟩) (Nat.le_refl _) _).setCell (p := ⟨w.heap.size, 2, none⟩) (Nat.le_refl _) _).setCell (p := ⟨w.heap.size, 3, none⟩) (Nat.le_refl _) _)
    clear HB
    go_wp2_with fail
    generalize (((w1.setCell ⟨w.heap.size, 0, none⟩ (.int .u8 5)).setCell ⟨w.heap.size, 1, none⟩ (.string ⟨bs.toArray⟩)).setCell ⟨w.heap.size, 2, none⟩ (.int .i64 0)).setCell ⟨w.heap.size, 3, none⟩ (.int .i64 0) = W4 at g0 g1 g2 g3 HB4 ⊢
    try simp only [Exit.inBlock, Exit.then]
    refine bodyPost_ret (by simp [results, Tryz.results11, go_sem, g0, g1, g2, g3]; try rfl) rfl ?_
    exact ⟨oneEnd_yes HO.out rfl rfl rfl rfl, HB4.out⟩
  | none =>
    rw [hm] at hst CT
    have HO := Lib.hid hst
    clear hst hm
    go_enter Tryz.func11, Tryz.ntmps11
    go_wp2_with fail
    refine (C1.out _).mono ?_
    rintro e w1 ⟨rfl, rfl⟩
    go_wp2_with fail
    refine (C0.out _).mono ?_
    rintro e w1 ⟨rfl, rfl⟩
    go_wp2_with fail
    refine (CT.out _).mono ?_
    rintro e w1 ⟨he, hb1⟩
    obtain rfl : e = .returned (.tuple #[.string ⟨#[]⟩, .int .i64 0]) := he
    have z0 : w1.cell? ⟨w.heap.size, 0, none⟩ = some (.int .u8 0) := cell_later hb1 (by go_simp)
    have z1 : w1.cell? ⟨w.heap.size, 1, none⟩ = some (.string ⟨#[]⟩) := cell_later hb1 (by go_simp)
    have z2 : w1.cell? ⟨w.heap.size, 2, none⟩ = some (.int .i64 0) := cell_later hb1 (by go_simp)
    have z3 : w1.cell? ⟨w.heap.size, 3, none⟩ = some (.int .i64 0) := cell_later hb1 (by go_simp)
    have f0 : w1.frozen? ⟨w.heap.size, 0, none⟩ = false := (hb1.frozen (p := ⟨w.heap.size, 0, none⟩) (by simp)).trans (by go_simp)
    have f1 : w1.frozen? ⟨w.heap.size, 1, none⟩ = false := (hb1.frozen (p := ⟨w.heap.size, 1, none⟩) (by simp)).trans (by go_simp)
    have f2 : w1.frozen? ⟨w.heap.size, 2, none⟩ = false := (hb1.frozen (p := ⟨w.heap.size, 2, none⟩) (by simp)).trans (by go_simp)
    have f3 : w1.frozen? ⟨w.heap.size, 3, none⟩ = false := (hb1.frozen (p := ⟨w.heap.size, 3, none⟩) (by simp)).trans (by go_simp)
    have HB := Lib.hid (((Below.refl w.heap.size w).alloc (Nat.le_refl _) (.cells #[.int .u8 0, .string ⟨#[]⟩, .int .i64 0, .int .i64 0] 71)).trans (hb1.mono (by simp)))
    clear hb1
    obtain ⟨g0, g1, g2, g3⟩ := cells4 z0 z1 z2 z3 (.int .u8 5) (.string ⟨#[]⟩) (.int .i64 0) (.int .i64 0)
    have HB4 : Hid (Below w.heap.size w ((((w1.setCell ⟨w.heap.size, 0, none⟩ (.int .u8 5)).setCell ⟨w.heap.size, 1, none⟩ (.string ⟨#[]⟩)).setCell ⟨w.heap.size, 2, none⟩ (.int .i64 0)).setCell ⟨w.heap.size, 3, none⟩ (.int .i64 0))) := Lib.hid ((((HB.out.setCell (p := ⟨w.heap.size, 0, none⟩) (Nat.le_refl _) _).setCell (p := ⟨w.heap.size, 1, none⟩) (Nat.le_refl _) _).setCell (p := ⟨w.heap.size, 2, none⟩) (Nat.le_refl _) _).setCell (p := ⟨w.heap.size, 3, none⟩) (Nat.le_refl _) _)
    clear HB
    go_wp2_with fail
    generalize (((w1.setCell ⟨w.heap.size, 0, none⟩ (.int .u8 5)).setCell ⟨w.heap.size, 1, none⟩ (.string ⟨#[]⟩)).setCell ⟨w.heap.size, 2, none⟩ (.int .i64 0)).setCell ⟨w.heap.size, 3, none⟩ (.int .i64 0) = W4 at g0 g1 g2 g3 HB4 ⊢
    try simp only [Exit.inBlock, Exit.then]
    refine bodyPost_ret (by simp [results, Tryz.results11, go_sem, g0, g1, g2, g3]; try rfl) rfl ?_
    exact ⟨oneEnd_no HO.out, HB4.out⟩

set_option maxHeartbeats 3200000 in
set_option maxRecDepth 100000 in
theorem one_sign (hh : headB s[0] = false) (h36 : ¬ s[0].toNat = 36) (hd : digitB s[0] = false) (h39 : ¬ s[0].toNat = 39) : Calls Tryz.prog 11 #[.string s] w fun e w' => OneEnd (LexPlain.step s.data.toList) e ∧ Below w.heap.size w w' := by
  have hst := step_sign s[0] (s.data.toList.drop 1) n1 n2 n3 hh h36 hd h39
  rw [← list_cons s h0] at hst
  have C1 := Lib.hid (fun w' => refHead_any s[0] w')
  rw [hh] at C1
  have d36 : ((s[0].toNat : Int) == 36) = false := by rw [beq_eq_false_iff_ne]; omega
  have C0 := Lib.hid (fun w' => refDigit_any s[0] w')
  rw [hd] at C0
  have d39 : ((s[0].toNat : Int) == 39) = false := by rw [beq_eq_false_iff_ne]; omega
  have CS := Lib.hid (fun w' => refSign_any s (by omega) w')
  have hle := LexPlain.signL_le s.data.toList
  rw [Array.length_toList] at hle
  have hle : signL s.data.toList ≤ s.size := hle
  generalize signL s.data.toList = n at hst CS hle
  have hTK := Lib.hid (take_extract s n)
  obtain ⟨o, ho⟩ : ∃ o, o = LexPlain.step s.data.toList := ⟨_, rfl⟩
  rw [← ho] at hst ⊢
  clear ho n1 n2 n3 hh h36 hd h39
  by_cases hn : n = 0
  · have HO := Lib.hid (show o = none by rw [hst, if_pos hn])
    subst hn
    clear hst
    go_enter Tryz.func11, Tryz.ntmps11
    go_wp2_with fail
    refine (C1.out _).mono ?_
    rintro e w1 ⟨rfl, rfl⟩
    go_wp2_with fail
    refine (C0.out _).mono ?_
    rintro e w1 ⟨rfl, rfl⟩
    go_wp2_with fail
    refine (CS.out _).mono ?_
    rintro e w1 ⟨rfl, hb1⟩
    have z0 : w1.cell? ⟨w.heap.size, 0, none⟩ = some (.int .u8 0) := cell_later hb1 (by go_simp)
    have z1 : w1.cell? ⟨w.heap.size, 1, none⟩ = some (.string ⟨#[]⟩) := cell_later hb1 (by go_simp)
    have z2 : w1.cell? ⟨w.heap.size, 2, none⟩ = some (.int .i64 0) := cell_later hb1 (by go_simp)
    have z3 : w1.cell? ⟨w.heap.size, 3, none⟩ = some (.int .i64 0) := cell_later hb1 (by go_simp)
    have f0 : w1.frozen? ⟨w.heap.size, 0, none⟩ = false := (hb1.frozen (p := ⟨w.heap.size, 0, none⟩) (by simp)).trans (by go_simp)
    have f1 : w1.frozen? ⟨w.heap.size, 1, none⟩ = false := (hb1.frozen (p := ⟨w.heap.size, 1, none⟩) (by simp)).trans (by go_simp)
    have f2 : w1.frozen? ⟨w.heap.size, 2, none⟩ = false := (hb1.frozen (p := ⟨w.heap.size, 2, none⟩) (by simp)).trans (by go_simp)
    have f3 : w1.frozen? ⟨w.heap.size, 3, none⟩ = false := (hb1.frozen (p := ⟨w.heap.size, 3, none⟩) (by simp)).trans (by go_simp)
    have HB := Lib.hid (((Below.refl w.heap.size w).alloc (Nat.le_refl _) (.cells #[.int .u8 0, .string ⟨#[]⟩, .int .i64 0, .int .i64 0] 71)).trans (hb1.mono (by simp)))
    clear hb1
    obtain ⟨g0, g1, g2, g3⟩ := cells4 z0 z1 z2 z3 (.int .u8 6) (.string ByteArray.empty) (.int .i64 0) (.int .i64 0)
    have HB4 : Hid (Below w.heap.size w ((((w1.setCell ⟨w.heap.size, 0, none⟩ (.int .u8 6)).setCell ⟨w.heap.size, 1, none⟩ (.string ByteArray.empty)).setCell ⟨w.heap.size, 2, none⟩ (.int .i64 0)).setCell ⟨w.heap.size, 3, none⟩ (.int .i64 0))) := Lib.hid ((((HB.out.setCell (p := ⟨w.heap.size, 0, none⟩) (Nat.le_refl _) _).setCell (p := ⟨w.heap.size, 1, none⟩) (Nat.le_refl _) _).setCell (p := ⟨w.heap.size, 2, none⟩) (Nat.le_refl _) _).setCell (p := ⟨w.heap.size, 3, none⟩) (Nat.le_refl _) _)
    clear HB
    go_wp2_with fail
    generalize (((w1.setCell ⟨w.heap.size, 0, none⟩ (.int .u8 6)).setCell ⟨w.heap.size, 1, none⟩ (.string ByteArray.empty)).setCell ⟨w.heap.size, 2, none⟩ (.int .i64 0)).setCell ⟨w.heap.size, 3, none⟩ (.int .i64 0) = W4 at g0 g1 g2 g3 HB4 ⊢
    try simp only [Exit.inBlock, Exit.then]
    refine bodyPost_ret (by simp [results, Tryz.results11, go_sem, g0, g1, g2, g3]; try rfl) rfl ?_
    exact ⟨oneEnd_no HO.out, HB4.out⟩
  · have HO := Lib.hid (show o = some (some (6, s.data.toList.take n, 0), n, 0) by rw [hst, if_neg hn])
    clear hst
    go_enter Tryz.func11, Tryz.ntmps11
    go_wp2_with fail
    refine (C1.out _).mono ?_
    rintro e w1 ⟨rfl, rfl⟩
    go_wp2_with fail
    refine (C0.out _).mono ?_
    rintro e w1 ⟨rfl, rfl⟩
    go_wp2_with fail
    refine (CS.out _).mono ?_
    rintro e w1 ⟨rfl, hb1⟩
    have z0 : w1.cell? ⟨w.heap.size, 0, none⟩ = some (.int .u8 0) := cell_later hb1 (by go_simp)
    have z1 : w1.cell? ⟨w.heap.size, 1, none⟩ = some (.string ⟨#[]⟩) := cell_later hb1 (by go_simp)
    have z2 : w1.cell? ⟨w.heap.size, 2, none⟩ = some (.int .i64 0) := cell_later hb1 (by go_simp)
    have z3 : w1.cell? ⟨w.heap.size, 3, none⟩ = some (.int .i64 0) := cell_later hb1 (by go_simp)
    have f0 : w1.frozen? ⟨w.heap.size, 0, none⟩ = false := (hb1.frozen (p := ⟨w.heap.size, 0, none⟩) (by simp)).trans (by go_simp)
    have f1 : w1.frozen? ⟨w.heap.size, 1, none⟩ = false := (hb1.frozen (p := ⟨w.heap.size, 1, none⟩) (by simp)).trans (by go_simp)
    have f2 : w1.frozen? ⟨w.heap.size, 2, none⟩ = false := (hb1.frozen (p := ⟨w.heap.size, 2, none⟩) (by simp)).trans (by go_simp)
    have f3 : w1.frozen? ⟨w.heap.size, 3, none⟩ = false := (hb1.frozen (p := ⟨w.heap.size, 3, none⟩) (by simp)).trans (by go_simp)
    have HB := Lib.hid (((Below.refl w.heap.size w).alloc (Nat.le_refl _) (.cells #[.int .u8 0, .string ⟨#[]⟩, .int .i64 0, .int .i64 0] 71)).trans (hb1.mono (by simp)))
    clear hb1
    obtain ⟨g0, g1, g2, g3⟩ := cells4 z0 z1 z2 z3 (.int .u8 6) (.string (s.extract 0 n)) (.int .i64 0) (.int .i64 0)
    have HB4 : Hid (Below w.heap.size w ((((w1.setCell ⟨w.heap.size, 0, none⟩ (.int .u8 6)).setCell ⟨w.heap.size, 1, none⟩ (.string (s.extract 0 n))).setCell ⟨w.heap.size, 2, none⟩ (.int .i64 0)).setCell ⟨w.heap.size, 3, none⟩ (.int .i64 0))) := Lib.hid ((((HB.out.setCell (p := ⟨w.heap.size, 0, none⟩) (Nat.le_refl _) _).setCell (p := ⟨w.heap.size, 1, none⟩) (Nat.le_refl _) _).setCell (p := ⟨w.heap.size, 2, none⟩) (Nat.le_refl _) _).setCell (p := ⟨w.heap.size, 3, none⟩) (Nat.le_refl _) _)
    clear HB
    go_wp2_with fail
    generalize (((w1.setCell ⟨w.heap.size, 0, none⟩ (.int .u8 6)).setCell ⟨w.heap.size, 1, none⟩ (.string (s.extract 0 n))).setCell ⟨w.heap.size, 2, none⟩ (.int .i64 0)).setCell ⟨w.heap.size, 3, none⟩ (.int .i64 0) = W4 at g0 g1 g2 g3 HB4 ⊢
    try simp only [Exit.inBlock, Exit.then]
    refine bodyPost_ret (by simp [results, Tryz.results11, go_sem, g0, g1, g2, g3]; try rfl) rfl ?_
    exact ⟨oneEnd_yes HO.out rfl hTK.out rfl rfl, HB4.out⟩

theorem one_any : Calls Tryz.prog 11 #[.string s] w fun e w' => OneEnd (LexPlain.step s.data.toList) e ∧ Below w.heap.size w w' := by
  cases hh : headB s[0] with
  | true => exact one_head s h0 hs w n1 n2 n3 hh
  | false =>
    by_cases h36 : s[0].toNat = 36
    · exact one_dollar s h0 hs w n1 n2 n3 hh h36
    cases hd : digitB s[0] with
    | true => exact one_digit s h0 hs w n1 n2 n3 hh h36 hd
    | false =>
      by_cases h39 : s[0].toNat = 39
      · exact one_text s h0 hs w n1 n2 n3 hh h36 hd h39
      · exact one_sign s h0 hs w n1 n2 n3 hh h36 hd h39
end
end Go.Proofs.YteinadddmcicoaaGreatDoor
