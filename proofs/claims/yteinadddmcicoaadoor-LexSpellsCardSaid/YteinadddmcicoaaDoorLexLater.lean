/- Walks over layer 2's laws' helpers: later, spelt. -/
import Derived.Test.YteinadddmcicoaaDoorLexUp
import Derived.Test.YteinadddmcicoaaDoorLexQuote
import Derived.Test.YteinadddmcicoaaDoorLexSpellsP
namespace Go.Proofs.YteinadddmcicoaaDoor
open Go.RowKit Go.Shelf
open LexPlain (Tok quoteL spell)

set_option maxHeartbeats 3200000 in
set_option maxRecDepth 100000 in
theorem later_any {B : Nat} {v : Value} (ts : List Tok) (hlen : ts.length ≤ 1000000) (m : Nat) (hm : m ≤ 1000000) (hl : ∀ t ∈ ts, t.line ≤ 1000000) (w : World) (h1 : w.ownsRow B 31 4 v ts.length (ts.flatMap tokCells)) :
    Calls Tryd.prog 19 #[v, .int .i64 m] w fun e w' => (∃ g, e = .returned (.slice (some ⟨g, 0, none⟩) ts.length (ts.length + 2)) ∧ w.heap.size ≤ g ∧ RowOf w' g ((ts.map (upLine (· + m))).flatMap tokCells) ((ts.length + 2) * 4)) ∧ Below w.heap.size w w' := by
  have C1 := Lib.hid (twin_any ts hlen w h1)
  have HL := Lib.hid hl
  clear hl h1
  go_enter Tryd.func19, Tryd.ntmps19
  go_wp2_with fail
  refine C1.out.mono ?_
  rintro e w1 ⟨⟨g, rfl, hg, hr⟩, hb⟩
  have HR := Lib.hid hr
  have HB := Lib.hid hb
  clear hr hb
  go_wp2_with fail
  go_loopw [6] (fun vi wr => ∃ k : Nat, vi = .int .i64 k ∧ k ≤ ts.length ∧ Hid (RowOf wr g ((partUp (· + m) k ts).flatMap tokCells) ((ts.length + 2) * 4) ∧ Below w.heap.size w wr)) (fun vi _ => ts.length - (intOf vi).toNat)
  case atStart => exact ⟨0, rfl, by omega, Lib.hid ⟨by rw [partUp_zero]; exact HR.out, HB.out⟩⟩
  case round =>
    obtain ⟨k, rfl, hk, hr⟩ := hrel
    rename_i wr
    by_cases hkn : k < ts.length
    · have hc := hr.out.1.at (k * 4 + 3) _ (partUp_line _ ts k hkn)
      have hf := hr.out.1.frozen (k * 4 + 3)
      have hL := HL.out ts[k] (List.getElem_mem hkn)
      have HU := Lib.hid (up_row (· + m) ts k hkn hr.out.1)
      generalize ts[k].line = L at hc hL HU
      go_wp2_with fail
      go_roundw
      case rel => exact ⟨k + 1, by go_num, by omega, Lib.hid ⟨HU.out _ (by go_num), hr.out.2.setCell (p := ⟨g, k * 4 + 3, none⟩) hg _⟩⟩
      case measure => simp [intOf]; omega
    · have hkk : k = ts.length := by omega
      subst hkk
      go_wp2_with fail
      go_returns
      exact ⟨⟨_, rfl, hg, by have := hr.out.1; rw [partUp_all] at this; exact this⟩, hr.out.2⟩

set_option maxHeartbeats 1600000 in
theorem spelt_any (kd : Nat) (hk : kd ≤ 200) (S : List UInt8) (hs : S.length ≤ 1000000) (N : Int) (L : Nat) (w : World) :
    Calls Tryd.prog 20 #[.agg #[.int .u8 kd, .string ⟨S.toArray⟩, .int .i64 N, .int .i64 L]] w fun e w' => e = .returned (.string ⟨(spell kd S).toArray⟩) ∧ Below w.heap.size w w' := by
  have hz : (⟨S.toArray⟩ : ByteArray).size = S.length := by show S.toArray.size = _; simp
  have C1 := Lib.hid (fun w' => quote_any ⟨S.toArray⟩ (by omega) w')
  rw [show (⟨S.toArray⟩ : ByteArray).data.toList = S from rfl] at C1
  have HB := Lib.hid ((Below.refl w.heap.size w).alloc (Nat.le_refl _) (.cells #[.int .u8 kd, .string ⟨S.toArray⟩, .int .i64 N, .int .i64 L] 31))
  clear hz
  by_cases h3 : kd = 3
  · subst h3
    have hE : spell 3 S = 36 :: S := rfl
    rw [hE]
    clear hE
    go_enter Tryd.func20, Tryd.ntmps20
    go_wp2_with fail
    go_returns
    exact ⟨congrArg Ending.returned (congrArg Value.string (congrArg ByteArray.mk (by simp))), HB.out⟩
  by_cases h5 : kd = 5
  · subst h5
    have hE : spell 5 S = quoteL S := rfl
    rw [hE]
    clear hE
    go_enter Tryd.func20, Tryd.ntmps20
    go_wp2_with fail
    refine (C1.out _).mono ?_
    rintro e w1 ⟨rfl, hb⟩
    go_wp2_with fail
    go_returns
    exact ⟨rfl, HB.out.thens hb⟩
  have hE : spell kd S = S := by unfold spell; rw [if_neg h3, if_neg h5]
  rw [hE]
  clear hE
  have d3 : ((kd : Int) == 3) = false := by rw [beq_eq_false_iff_ne]; omega
  have d5 : ((kd : Int) == 5) = false := by rw [beq_eq_false_iff_ne]; omega
  clear h3 h5
  go_enter Tryd.func20, Tryd.ntmps20
  go_wp2_with fail
  go_returns
  exact ⟨rfl, HB.out⟩
end Go.Proofs.YteinadddmcicoaaDoor
