/- The law LexTokens answers true. -/
import Derived.Test.YteinadddmcicoaaGreatDoorLexRefTokens
import Derived.Test.YteinadddmcicoaaGreatDoorLexAlive
import Derived.Test.YteinadddmcicoaaGreatDoorBookApart
import Derived.Test.YteinadddmcicoaaGreatDoorLexSpellsP
import Derived.Deep.WholeRow
namespace Go.Proofs.YteinadddmcicoaaGreatDoor
open Go.RowKit Go.Shelf
open LexPlain (Tok lexA)

/-- What both Tokens answer: a row, a line, an error. -/
def TokRes (ts : List Tok) (a k : Int) (B : Nat) (e : Ending) (w : World) : Prop := ∃ v, e = .returned (.tuple #[v, .int .i64 a, .int .i64 k]) ∧ w.ownsRow B 71 4 v ts.length (ts.flatMap tokCells)
theorem tok_res (s : ByteArray) (hs : s.size ≤ 140737488351232) : ∃ ts a k, ts.length ≤ 65536 ∧
    (∀ w, Has w → Calls Tryz.prog 4 #[.string s] w fun e w' => TokRes ts a k w.heap.size e w' ∧ Below w.heap.size w w') ∧
    (∀ w, Calls Tryz.prog 5 #[.string s] w fun e w' => TokRes ts a k w.heap.size e w' ∧ Below w.heap.size w w') := by
  by_cases hbig : 65536 < s.size
  · refine ⟨[], 0, 3, by simp, fun w _ => (tokens_long s hbig (by omega) w).mono ?_, fun w => (refTokens_long s hbig (by omega) w).mono ?_⟩
    · rintro e w' ⟨rfl, rfl⟩
      exact ⟨⟨_, rfl, World.ownsRow_nil w _ _ _⟩, Below.refl _ _⟩
    · rintro e w' ⟨rfl, rfl⟩
      exact ⟨⟨_, rfl, World.ownsRow_nil w _ _ _⟩, Below.refl _ _⟩
  · have h1 := fun w hH => tokens_any s (by omega) w hH
    have h2 := fun w => refTokens_any s (by omega) w
    cases ho : lexA 0 s.data.toList with
    | inl at' =>
      rw [ho] at h1 h2
      refine ⟨[], at', 6, by simp, fun w hH => (h1 w hH).mono ?_, fun w => (h2 w).mono ?_⟩
      · rintro e w' ⟨he, hb⟩
        exact ⟨⟨_, he, World.ownsRow_nil w' _ _ _⟩, hb⟩
      · rintro e w' ⟨he, hb⟩
        exact ⟨⟨_, he, World.ownsRow_nil w' _ _ _⟩, hb⟩
    | inr ts =>
      rw [ho] at h1 h2
      have hl := (LexPlain.spells_len s.data.toList.length s.data.toList 0 ts (Nat.le_refl _) ho).2
      have hz : s.data.toList.length = s.size := Array.length_toList
      refine ⟨ts, 0, 0, by omega, fun w hH => (h1 w hH).mono ?_, fun w => (h2 w).mono ?_⟩
      · rintro e w' ⟨⟨v, he, ho⟩, hb⟩
        exact ⟨⟨v, he, ho⟩, hb⟩
      · rintro e w' ⟨⟨v, he, ho⟩, hb⟩
        exact ⟨⟨v, he, ho⟩, hb⟩

theorem own_base {w : World} {B B' : Nat} {e : TypeId} {size : Nat} {v : Value} {n : Nat} {xs : List Value} (h : w.ownsRow B' e size v n xs) (hB : B ≤ B') : w.ownsRow B e size v n xs := by
  obtain ⟨h1, h2⟩ := h
  refine ⟨h1, ?_⟩
  rcases h2 with h2 | ⟨g, cap, cur, hv, hg, hh, r⟩
  · exact .inl h2
  · exact .inr ⟨g, cap, cur, hv, Nat.le_trans hB hg, hh, r⟩

set_option maxHeartbeats 800000 in
theorem bookTokens_any (B b n : Nat) (v : Value) (xa : Option Addr) (xm xc : Nat) (xs : List Value) (w : World) (hb : Blk w b 62 (BookC n v)) (hBb : B ≤ b) (hB : B ≤ w.heap.size) (hown : w.ownsRow B 90 2 v n xs) (hn : n ≤ 100) :
    Calls Tryz.prog 7 #[.pointer (some ⟨b, 0, none⟩), .slice xa xm xc] w fun e w' => e = .returned (.tuple #[]) ∧ ∃ v', Blk w' b 62 (BookC (n + 1) v') ∧ w'.ownsRow B 90 2 v' (n + 1) (xs ++ [.slice xa xm xc, .int .i64 n]) ∧ Below B w w' ∧
      ∀ (y : Value) (m : Nat) (ys : List Value), w.ownsRow B 71 4 y m ys → w'.ownsRow B 71 4 y m ys := by
  have CK := Lib.hid (keepToken_any B b n v xa xm xc xs w hb hBb hB hown hn)
  clear hb hown
  go_enter Tryz.func7, Tryz.ntmps7
  go_wp2_with fail
  refine CK.out.mono ?_
  rintro e w1 ⟨rfl, h1⟩
  have H1 := Lib.hid h1
  clear h1
  go_wp2_with fail
  go_returns
  exact ⟨rfl, H1.out⟩

theorem infoBook : (Tryz.prog.info? 62).map (fun i => (i.zero, i.size)) = some (some (.agg (BookC 0 (.slice none 0 0))), 35) := by kernel_rfl
theorem build_book (ρ : Operand → Value) (d : Option Tmp) (pos : String) (after : Array Edge) (w : World) :
    (execOp ρ { dst := d, op := .build 62 #[], type := 62, pos := pos, after := after, guard := none }).run Tryz.prog w = .ok (.value (.agg (BookC 0 (.slice none 0 0)))) w := by kernel_rfl
theorem alloc_book (ρ : Operand → Value) (d : Option Tmp) (ty : TypeId) (pos : String) (after : Array Edge) (w : World) :
    (execOp ρ { dst := d, op := .alloc 62, type := ty, pos := pos, after := after, guard := none }).run Tryz.prog w = .ok (.value (.pointer (some ⟨w.heap.size, 0, none⟩))) (w.alloc (.cells (BookC 0 (.slice none 0 0)) 62)) := by kernel_rfl
theorem store_book (ρ : Operand → Value) (x y : Operand) (ty : TypeId) (pos : String) (after : Array Edge) (w : World) (hx : ρ x = .pointer (some ⟨w.heap.size, 0, none⟩)) (hy : ρ y = .agg (BookC 0 (.slice none 0 0))) :
    (execOp ρ { dst := none, op := .store 62 x y, type := ty, pos := pos, after := after, guard := none }).run Tryz.prog (w.alloc (.cells (BookC 0 (.slice none 0 0)) 62)) = .ok .skip (w.alloc (.cells (BookC 0 (.slice none 0 0)) 62)) := by
  have h := run_storeAt_new (P := Tryz.prog) w 62 (BookC 0 (.slice none 0 0)) (BookC 0 (.slice none 0 0)) (by kernel_rfl) rfl (by kernel_rfl)
  unfold execOp
  simp only [hx, hy]
  simp only [Sem.run_bind, h, Result.andThen_ok, Sem.run_pure]
def two {α : Type} (x y : α) : Nat → α := fun i => if i = 0 then x else y

set_option maxHeartbeats 6400000 in
set_option maxRecDepth 100000 in
theorem lexTokens_any (s : ByteArray) (hs : s.size ≤ 140737488351232) (w : World) (hH : Has w) :
    Calls Tryz.prog 3 #[.string s] w fun e w' => e = .returned (.bool true) ∧ Below w.heap.size w w' := by
  have CA := Lib.hid (fun w hh => alive_any w hh)
  obtain ⟨ts, a, k, hlen, h1, h2⟩ := tok_res s hs
  have C1 := Lib.hid h1
  have C3 := Lib.hid h2
  clear h1 h2 hs
  go_enter Tryz.func3, Tryz.ntmps3
  go_wp2_with fail
  refine (C1.out _ hH).mono ?_
  rintro e w1 ⟨⟨v1, rfl, hown1⟩, hb1⟩
  have HO1 := Lib.hid hown1
  have HB1 := Lib.hid hb1
  have HH1 := Lib.hid (hH.next hb1)
  clear hown1 hb1
  go_wp2_with fail
  refine (C1.out _ HH1.out).mono ?_
  rintro e w2 ⟨⟨v2, rfl, hown2⟩, hb2⟩
  have HO2 := Lib.hid hown2
  have HG2 := Lib.hid hb2
  have HB2 := Lib.hid (HB1.out.thens hb2)
  clear hown2 hb2
  go_wp2_with fail
  refine (C3.out _).mono ?_
  rintro e w3 ⟨⟨v3, rfl, hown3⟩, hb3⟩
  have HB3 := Lib.hid (HB2.out.thens hb3)
  have HO13 := Lib.hid (own_below2 (own_below2 HO1.out HG2.out) hb3)
  have HO23 := Lib.hid (own_below2 HO2.out hb3)
  have HO3 := Lib.hid hown3
  have CS1 := Lib.hid (same_any ts (by omega) w3 HO13.out hown3)
  clear hown3 hb3
  go_wp2_with fail
  refine CS1.out.mono ?_
  rintro e w4 ⟨rfl, hb4⟩
  have HB4 := Lib.hid (HB3.out.thens hb4)
  have HO14 := Lib.hid (own_below2 HO13.out hb4)
  have HO24 := Lib.hid (own_below2 HO23.out hb4)
  have CS2 := Lib.hid (same_any ts (by omega) w4 HO24.out (own_below2 HO3.out hb4))
  clear hb4
  go_wp2_with fail
  refine CS2.out.mono ?_
  rintro e w5 ⟨rfl, hb5⟩
  have HB5 := Lib.hid (HB4.out.thens hb5)
  have HO15 := Lib.hid (own_below2 HO14.out hb5)
  have HO25 := Lib.hid (own_below2 HO24.out hb5)
  obtain ⟨a1, c1, rfl⟩ := own_form HO15.out
  obtain ⟨a2, c2, rfl⟩ := own_form HO25.out
  have HAL := Lib.hid ((Below.refl w5.heap.size w5).alloc (Nat.le_refl _) (.cells (BookC 0 (.slice none 0 0)) 62))
  have HB6 := Lib.hid (HB5.out.thens HAL.out)
  have hBb : Hid (w.heap.size ≤ w5.heap.size) := Lib.hid HB5.out.size
  have CK1 := Lib.hid (bookTokens_any w.heap.size w5.heap.size 0 (.slice none 0 0) a1 ts.length c1 [] (w5.alloc (.cells (BookC 0 (.slice none 0 0)) 62)) (Blk.new _ _ _) hBb.out HB6.out.size (World.ownsRow_nil _ _ _ _) (by omega))
  clear hb5
  go_upto_region 6 with (fail)
  refine wp_region_lit ?_
  refine wpList_plain rfl fun K1 hK1 => ?_
  unfold Oper.wp
  rw [build_book]
  refine hK1 _ _ ?_
  refine wpList_plain rfl fun K2 hK2 => ?_
  unfold Oper.wp
  rw [alloc_book]
  refine hK2 _ _ ?_
  refine wpList_plain rfl fun K3 hK3 => ?_
  unfold Oper.wp
  rw [store_book _ _ _ _ _ _ _ (by rfl) (by rfl)]
  refine hK3 _ _ ?_
  clear K1 hK1 K2 hK2 K3 hK3
  go_wp2_with fail
  refine CK1.out.mono ?_
  rintro e w7 ⟨rfl, vb, hblk7, hheld7, hb7, hkeep7⟩
  have HB7 := Lib.hid (HB6.out.trans hb7)
  have HO17 := Lib.hid (hkeep7 _ _ _ (own_below2 HO15.out HAL.out))
  have HO27 := Lib.hid (hkeep7 _ _ _ (own_base (own_below2 HO25.out HAL.out) HB1.out.size))
  have CK2 := Lib.hid (bookTokens_any w.heap.size w5.heap.size 1 vb a2 ts.length c2 _ w7 hblk7 hBb.out HB7.out.size hheld7 (by omega))
  clear hblk7 hheld7 hb7 hkeep7
  go_wp2_with fail
  refine CK2.out.mono ?_
  rintro e w8 ⟨rfl, vb2, hblk8, hheld8, hb8, hkeep8⟩
  have HB8 := Lib.hid (HB7.out.trans hb8)
  have hS : HeldS w.heap.size w5.heap.size vb2 (two (.slice a1 ts.length c1) (.slice a2 ts.length c2)) (fun _ => ts.length) (fun _ => ts.flatMap tokCells) w8 := by
    refine ⟨hblk8, hBb.out, hheld8, fun i hi => ?_, fun i j hi hj hij g hg => ?_⟩
    · match i, hi with
      | 0, _ => exact hkeep8 _ _ _ HO17.out
      | 1, _ => exact hkeep8 _ _ _ HO27.out
    · match i, j, hi, hj with
      | 0, 1, _, _ =>
        intro e2
        have q1 := (HO1.out.lt g hg).2
        have q2 := (HO2.out.lt g e2).1
        omega
      | 1, 0, _, _ =>
        intro e2
        have q1 := (HO1.out.lt g e2).2
        have q2 := (HO2.out.lt g hg).1
        omega
      | 0, 0, _, _ => exact absurd rfl hij
      | 1, 1, _, _ => exact absurd rfl hij
  have CP := Lib.hid (apart_any w.heap.size w5.heap.size vb2 _ _ _ w8 hS HB8.out.size (fun i _ => by show ts.length ≤ _; omega))
  clear hblk8 hheld8 hb8 hkeep8 hS
  go_wp2_with fail
  refine CP.out.mono ?_
  rintro e w9 ⟨rfl, hb9⟩
  have HB9 := Lib.hid (HB8.out.trans hb9)
  clear hb9
  go_wp2_with fail
  refine (CA.out _ (hH.next HB9.out)).mono ?_
  rintro e w10 ⟨rfl, hb10⟩
  go_wp2_with fail
  go_returns
  exact ⟨rfl, HB9.out.thens hb10⟩
end Go.Proofs.YteinadddmcicoaaGreatDoor
