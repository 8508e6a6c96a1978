/- What the walks over layer 2 ask of a world, and the walks over its small functions: head, part, span, Word, Name, and the reference's. -/
import Derived.Test.YteinadddmcicoaaGreatDoorRows
import Derived.Test.YteinadddmcicoaaGreatDoorLexPlain
import Derived.Test.YteinadddmcicoaaGreatDoorShelf
import Derived.WalkKit
import Derived.WalkSpells
import Derived.WalkLawsBesides
import Derived.Handy
namespace Go.Proofs.YteinadddmcicoaaGreatDoor
open Go.RowKit Go.Shelf

theorem _root_.Go.RowKit.Below.thens {w w1 w2 : World} (h : Below w.heap.size w w1) (k : Below w1.heap.size w1 w2) : Below w.heap.size w w2 := h.trans (k.mono h.size)

/-- THE WORLD HOLDS THE LIBRARY's TABLES AND SENTINELS. -/
structure Has (w : World) : Prop where
  maxl : ∃ m, w.cell? ⟨0, 0, none⟩ = some (.int .i64 m)
  tab : Lib.TabIs Tryz.prog w "internal/strconv.uint64pow10" .u64 Lib.pow10Tab
  syn : ∃ tp p, w.var? Tryz.prog "strconv.ErrSyntax" = some #[.iface tp p]
  rng : ∃ tp p, w.var? Tryz.prog "strconv.ErrRange" = some #[.iface tp p]
  case : Lib.CaseVar 4 Lib.caseA w
  utf8 : Lib.Utf8Tabs 5 6 w
  size : 9 ≤ w.heap.size

theorem gTab : Tryz.prog.globalNamed "internal/strconv.uint64pow10" = some 3 := by kernel_rfl
theorem gSyn : Tryz.prog.globalNamed "strconv.ErrSyntax" = some 1 := by kernel_rfl
theorem gRng : Tryz.prog.globalNamed "strconv.ErrRange" = some 2 := by kernel_rfl

theorem Has.next {w w' : World} (h : Has w) (hb : Below w.heap.size w w') : Has w' := by
  have hs := h.size
  obtain ⟨m, e0⟩ := h.maxl
  obtain ⟨t1, p1, e1⟩ := h.syn
  obtain ⟨t2, p2, e2⟩ := h.rng
  obtain ⟨R, oR, cap, c1, c2⟩ := h.case
  refine ⟨⟨m, cell_later hb e0⟩, ?_, ⟨t1, p1, var?_below hb gSyn (by omega) e1⟩, ⟨t2, p2, var?_below hb gRng (by omega) e2⟩,
    ⟨R, oR, cap, cell_later hb c1, fun i hi => ?_⟩, ⟨fun c hc => cell_later hb (h.utf8.1 c hc), fun i hi => ⟨cell_later hb (h.utf8.2 i hi).1, cell_later hb (h.utf8.2 i hi).2⟩⟩, Nat.le_trans hs hb.size⟩
  · have := h.tab
    unfold Lib.TabIs at *
    exact var?_below hb gTab (by omega) this
  · obtain ⟨a1, a2, a3, a4, a5⟩ := c2 i hi
    exact ⟨cell_later hb a1, cell_later hb a2, cell_later hb a3, cell_later hb a4, cell_later hb a5⟩

/-- The same, of what lies below block B. -/
def HasB (B : Nat) (w : World) : Prop := ∃ w0, Has w0 ∧ w0.heap.size ≤ B ∧ Below w0.heap.size w0 w
theorem HasB.has {B : Nat} {w : World} (h : HasB B w) : Has w := let ⟨_, h0, _, hb⟩ := h; h0.next hb
theorem HasB.next {B : Nat} {w w' : World} (h : HasB B w) (hb : Below B w w') : HasB B w' := let ⟨w0, h0, hs, hb0⟩ := h; ⟨w0, h0, hs, hb0.trans (hb.mono hs)⟩
theorem HasB.mono {B B' : Nat} {w : World} (h : HasB B w) (hB : B ≤ B') : HasB B' w := let ⟨w0, h0, hs, hb0⟩ := h; ⟨w0, h0, Nat.le_trans hs hB, hb0⟩
theorem Has.toB {w : World} (h : Has w) : HasB w.heap.size w := ⟨w, h, Nat.le_refl _, Below.refl _ _⟩

/-! ### Bytes -/
theorem ret_bool {a b : Bool} (h : a = b) : Ending.returned (.bool a) = .returned (.bool b) := by rw [h]
theorem ret_i64 {a b : Int} (h : a = b) : Ending.returned (.int .i64 a) = .returned (.int .i64 b) := by rw [h]

theorem head_any (c : UInt8) (w : World) : Calls Tryz.prog 117 #[.int .u8 c.toNat] w fun e w' => e = .returned (.bool (LexPlain.headB c)) ∧ w = w' := by
  go_enter Tryz.func117, Tryz.ntmps117
  go_wp2
  all_goals (go_ret; exact ⟨ret_bool (by rw [Bool.eq_iff_iff]; unfold LexPlain.headB; simp only [Bool.or_eq_true, Bool.and_eq_true, decide_eq_true_eq, beq_iff_eq, bne_iff_ne, true_iff, iff_true, Bool.false_eq_true, false_iff, iff_false, ne_eq, Bool.not_eq_true', beq_eq_false_iff_ne]; omega), rfl⟩)
theorem part_any (c : UInt8) (w : World) : Calls Tryz.prog 118 #[.int .u8 c.toNat] w fun e w' => e = .returned (.bool (LexPlain.partB c)) ∧ w = w' := by
  go_enter Tryz.func118, Tryz.ntmps118
  go_wp2
  all_goals (go_ret; exact ⟨ret_bool (by rw [Bool.eq_iff_iff]; unfold LexPlain.partB LexPlain.headB LexPlain.digitB; simp only [Bool.or_eq_true, Bool.and_eq_true, decide_eq_true_eq, beq_iff_eq, bne_iff_ne, true_iff, iff_true, Bool.false_eq_true, false_iff, iff_false, ne_eq, Bool.not_eq_true', beq_eq_false_iff_ne]; omega), rfl⟩)
theorem refHead_any (c : UInt8) (w : World) : Calls Tryz.prog 125 #[.int .u8 c.toNat] w fun e w' => e = .returned (.bool (LexPlain.headB c)) ∧ w = w' := by
  go_enter Tryz.func125, Tryz.ntmps125
  go_wp2
  all_goals (go_ret; exact ⟨ret_bool (by rw [Bool.eq_iff_iff]; unfold LexPlain.headB; simp only [Bool.or_eq_true, Bool.and_eq_true, decide_eq_true_eq, beq_iff_eq, bne_iff_ne, true_iff, iff_true, Bool.false_eq_true, false_iff, iff_false, ne_eq, Bool.not_eq_true', beq_eq_false_iff_ne]; omega), rfl⟩)
theorem refDigit_any (c : UInt8) (w : World) : Calls Tryz.prog 129 #[.int .u8 c.toNat] w fun e w' => e = .returned (.bool (LexPlain.digitB c)) ∧ w = w' := by
  go_enter Tryz.func129, Tryz.ntmps129
  go_wp2
  all_goals (go_ret; exact ⟨ret_bool (by rw [Bool.eq_iff_iff]; unfold LexPlain.digitB; simp only [Bool.or_eq_true, Bool.and_eq_true, decide_eq_true_eq, beq_iff_eq, bne_iff_ne, true_iff, iff_true, Bool.false_eq_true, false_iff, iff_false, ne_eq, Bool.not_eq_true', beq_eq_false_iff_ne]; omega), rfl⟩)
theorem refPart_any (c : UInt8) (w : World) : Calls Tryz.prog 208 #[.int .u8 c.toNat] w fun e w' => e = .returned (.bool (LexPlain.partB c)) ∧ w = w' := by
  go_enter Tryz.func208, Tryz.ntmps208
  go_wp2
  all_goals (go_ret; exact ⟨ret_bool (by rw [Bool.eq_iff_iff]; unfold LexPlain.partB LexPlain.headB LexPlain.digitB; simp only [Bool.or_eq_true, Bool.and_eq_true, decide_eq_true_eq, beq_iff_eq, bne_iff_ne, true_iff, iff_true, Bool.false_eq_true, false_iff, iff_false, ne_eq, Bool.not_eq_true', beq_eq_false_iff_ne]; omega), rfl⟩)
theorem digitC_any (c : UInt8) (w : World) : Calls Tryz.prog 204 #[.int .u8 c.toNat] w fun e w' => e = .returned (.bool (LexPlain.digitB c)) ∧ w = w' := by
  go_enter Tryz.func204, Tryz.ntmps204
  go_wp2
  all_goals (go_ret; exact ⟨ret_bool (by rw [Bool.eq_iff_iff]; unfold LexPlain.digitB; simp only [Bool.or_eq_true, Bool.and_eq_true, decide_eq_true_eq, beq_iff_eq, bne_iff_ne, true_iff, iff_true, Bool.false_eq_true, false_iff, iff_false, ne_eq, Bool.not_eq_true', beq_eq_false_iff_ne]; omega), rfl⟩)
theorem notLF_any (c : UInt8) (w : World) : Calls Tryz.prog 116 #[.int .u8 c.toNat] w fun e w' => e = .returned (.bool (LexPlain.notLF c)) ∧ w = w' := by
  go_enter Tryz.func116, Tryz.ntmps116
  go_wp2
  all_goals (go_ret; exact ⟨ret_bool (by rw [Bool.eq_iff_iff]; unfold LexPlain.notLF; simp only [Bool.or_eq_true, Bool.and_eq_true, decide_eq_true_eq, beq_iff_eq, bne_iff_ne, true_iff, iff_true, Bool.false_eq_true, false_iff, iff_false, ne_eq, Bool.not_eq_true', beq_eq_false_iff_ne]; omega), rfl⟩)
end Go.Proofs.YteinadddmcicoaaGreatDoor
