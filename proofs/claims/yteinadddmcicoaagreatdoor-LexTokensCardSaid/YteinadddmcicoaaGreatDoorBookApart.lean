/- The book: Apart answers true: no list shares memory with another one. -/
import Derived.Test.YteinadddmcicoaaGreatDoorBookNil
import Derived.Test.YteinadddmcicoaaGreatDoorBookLook
namespace Go.Proofs.YteinadddmcicoaaGreatDoor
open Go.RowKit Go.Shelf

set_option maxHeartbeats 12800000 in
set_option maxRecDepth 100000 in
theorem apart_any (B b : Nat) (vt : Value) (vs : Nat → Value) (ns : Nat → Nat) (xs : Nat → List Value) (w : World) (h : HeldS B b vt vs ns xs w) (hB : B ≤ w.heap.size) (hns : ∀ i, i < 2 → ns i ≤ 100000) :
    Calls Tryz.prog 8 #[.pointer (some ⟨b, 0, none⟩)] w fun e w' => e = .returned (.bool true) ∧ Below B w w' := by
  have HS := Lib.hid h
  have HN := Lib.hid hns
  have HB := Lib.hid h.1
  have hBw := Lib.hid hB
  clear h hns hB
  go_enter Tryz.func8, Tryz.ntmps8
  go_wp2_with fail
  refine (fillNumber_nil b 2 vt w HB.out).mono ?_
  rintro e w' ⟨rfl, rfl⟩
  go_wp2_with fail
  refine (fillWide_nil b 2 vt w HB.out).mono ?_
  rintro e w' ⟨rfl, rfl⟩
  go_wp2_with fail
  refine (fillText_nil b 2 vt w HB.out).mono ?_
  rintro e w' ⟨rfl, rfl⟩
  go_wp2_with fail
  refine (fillEvent_nil b 2 vt w HB.out).mono ?_
  rintro e w' ⟨rfl, rfl⟩
  go_wp2_with fail
  refine (fillToken_any B b vt vs ns xs w HS.out hBw.out (fun i hi => Nat.le_trans (HN.out i hi) (by omega))).mono ?_
  rintro e w1 ⟨rfl, h1, hb1⟩
  have HM1 : Hid (HeldM B b vt vs ns w1) := Lib.hid h1
  have HB1 := Lib.hid h1.1
  have HW1 := Lib.hid hb1
  clear h1 hb1
  go_wp2_with fail
  refine (fillCall_nil b 2 vt w1 HB1.out).mono ?_
  rintro e w' ⟨rfl, rfl⟩
  go_wp2_with fail
  refine (fillTally_nil b 2 vt w1 HB1.out).mono ?_
  rintro e w' ⟨rfl, rfl⟩
  go_wp2_with fail
  refine (fillLink_nil b 2 vt w1 HB1.out).mono ?_
  rintro e w' ⟨rfl, rfl⟩
  go_wp2_with fail
  refine (fillAnswer_nil b 2 vt w1 HB1.out).mono ?_
  rintro e w' ⟨rfl, rfl⟩
  go_wp2_with fail
  refine (fillAsk_nil b 2 vt w1 HB1.out).mono ?_
  rintro e w' ⟨rfl, rfl⟩
  go_wp2_with fail
  refine (fillIns_nil b 2 vt w1 HB1.out).mono ?_
  rintro e w' ⟨rfl, rfl⟩
  go_wp2_with fail
  refine (fillState_nil b 2 vt w1 HB1.out).mono ?_
  rintro e w' ⟨rfl, rfl⟩
  go_wp2_with fail
  refine (fillValue_nil b 2 vt w1 HB1.out).mono ?_
  rintro e w' ⟨rfl, rfl⟩
  go_wp2_with fail
  refine (fillEntry_nil b 2 vt w1 HB1.out).mono ?_
  rintro e w' ⟨rfl, rfl⟩
  go_wp2_with fail
  refine (fillField_nil b 2 vt w1 HB1.out).mono ?_
  rintro e w' ⟨rfl, rfl⟩
  go_wp2_with fail
  refine (fillAct_nil b 2 vt w1 HB1.out).mono ?_
  rintro e w' ⟨rfl, rfl⟩
  go_wp2_with fail
  refine (fillExpr_nil b 2 vt w1 HB1.out).mono ?_
  rintro e w' ⟨rfl, rfl⟩
  go_wp2_with fail
  refine (fillCatch_nil b 2 vt w1 HB1.out).mono ?_
  rintro e w' ⟨rfl, rfl⟩
  go_wp2_with fail
  refine (fillStmt_nil b 2 vt w1 HB1.out).mono ?_
  rintro e w' ⟨rfl, rfl⟩
  go_wp2_with fail
  refine (fillFunc_nil b 2 vt w1 HB1.out).mono ?_
  rintro e w' ⟨rfl, rfl⟩
  go_wp2_with fail
  refine (fillProp_nil b 2 vt w1 HB1.out).mono ?_
  rintro e w' ⟨rfl, rfl⟩
  go_wp2_with fail
  refine (fillClass_nil b 2 vt w1 HB1.out).mono ?_
  rintro e w' ⟨rfl, rfl⟩
  go_wp2_with fail
  refine (fillReport_nil b 2 vt w1 HB1.out).mono ?_
  rintro e w' ⟨rfl, rfl⟩
  go_wp2_with fail
  refine (fillRun_nil b 2 vt w1 HB1.out).mono ?_
  rintro e w' ⟨rfl, rfl⟩
  go_wp2_with fail
  refine (fillTry_nil b 2 vt w1 HB1.out).mono ?_
  rintro e w' ⟨rfl, rfl⟩
  go_wp2_with fail
  refine (fillProc_nil b 2 vt w1 HB1.out).mono ?_
  rintro e w' ⟨rfl, rfl⟩
  go_wp2_with fail
  refine (fillShape_nil b 2 vt w1 HB1.out).mono ?_
  rintro e w' ⟨rfl, rfl⟩
  go_wp2_with fail
  refine (fillMove_nil b 2 vt w1 HB1.out).mono ?_
  rintro e w' ⟨rfl, rfl⟩
  go_wp2_with fail
  refine (fillJob_nil b 2 vt w1 HB1.out).mono ?_
  rintro e w' ⟨rfl, rfl⟩
  go_wp2_with fail
  refine (fillResult_nil b 2 vt w1 HB1.out).mono ?_
  rintro e w' ⟨rfl, rfl⟩
  go_wp2_with fail
  refine (fillMoveRow_nil b 2 vt w1 HB1.out).mono ?_
  rintro e w' ⟨rfl, rfl⟩
  go_wp2_with fail
  refine (fillNumberRow_nil b 2 vt w1 HB1.out).mono ?_
  rintro e w' ⟨rfl, rfl⟩
  go_wp2_with fail
  refine (fillCallRow_nil b 2 vt w1 HB1.out).mono ?_
  rintro e w' ⟨rfl, rfl⟩
  go_wp2_with fail
  refine (growNumber_nil b 2 vt w1 HB1.out).mono ?_
  rintro e w' ⟨rfl, rfl⟩
  go_wp2_with fail
  refine (growWide_nil b 2 vt w1 HB1.out).mono ?_
  rintro e w' ⟨rfl, rfl⟩
  go_wp2_with fail
  refine (growText_nil b 2 vt w1 HB1.out).mono ?_
  rintro e w' ⟨rfl, rfl⟩
  go_wp2_with fail
  refine (growEvent_nil b 2 vt w1 HB1.out).mono ?_
  rintro e w' ⟨rfl, rfl⟩
  go_wp2_with fail
  refine (growToken_any B b vt vs ns w1 HM1.out (Nat.le_trans hBw.out HW1.out.size) (fun i hi => Nat.le_trans (HN.out i hi) (by omega))).mono ?_
  rintro e w2 ⟨rfl, ⟨vs2, h2⟩, hb2⟩
  have HM2 := Lib.hid h2
  have HB2 := Lib.hid h2.1
  have HW2 := Lib.hid (HW1.out.trans hb2)
  clear h2 hb2
  go_wp2_with fail
  refine (growCall_nil b 2 vt w2 HB2.out).mono ?_
  rintro e w' ⟨rfl, rfl⟩
  go_wp2_with fail
  refine (growTally_nil b 2 vt w2 HB2.out).mono ?_
  rintro e w' ⟨rfl, rfl⟩
  go_wp2_with fail
  refine (growLink_nil b 2 vt w2 HB2.out).mono ?_
  rintro e w' ⟨rfl, rfl⟩
  go_wp2_with fail
  refine (growAnswer_nil b 2 vt w2 HB2.out).mono ?_
  rintro e w' ⟨rfl, rfl⟩
  go_wp2_with fail
  refine (growAsk_nil b 2 vt w2 HB2.out).mono ?_
  rintro e w' ⟨rfl, rfl⟩
  go_wp2_with fail
  refine (growIns_nil b 2 vt w2 HB2.out).mono ?_
  rintro e w' ⟨rfl, rfl⟩
  go_wp2_with fail
  refine (growState_nil b 2 vt w2 HB2.out).mono ?_
  rintro e w' ⟨rfl, rfl⟩
  go_wp2_with fail
  refine (growValue_nil b 2 vt w2 HB2.out).mono ?_
  rintro e w' ⟨rfl, rfl⟩
  go_wp2_with fail
  refine (growEntry_nil b 2 vt w2 HB2.out).mono ?_
  rintro e w' ⟨rfl, rfl⟩
  go_wp2_with fail
  refine (growField_nil b 2 vt w2 HB2.out).mono ?_
  rintro e w' ⟨rfl, rfl⟩
  go_wp2_with fail
  refine (growAct_nil b 2 vt w2 HB2.out).mono ?_
  rintro e w' ⟨rfl, rfl⟩
  go_wp2_with fail
  refine (growExpr_nil b 2 vt w2 HB2.out).mono ?_
  rintro e w' ⟨rfl, rfl⟩
  go_wp2_with fail
  refine (growCatch_nil b 2 vt w2 HB2.out).mono ?_
  rintro e w' ⟨rfl, rfl⟩
  go_wp2_with fail
  refine (growStmt_nil b 2 vt w2 HB2.out).mono ?_
  rintro e w' ⟨rfl, rfl⟩
  go_wp2_with fail
  refine (growFunc_nil b 2 vt w2 HB2.out).mono ?_
  rintro e w' ⟨rfl, rfl⟩
  go_wp2_with fail
  refine (growProp_nil b 2 vt w2 HB2.out).mono ?_
  rintro e w' ⟨rfl, rfl⟩
  go_wp2_with fail
  refine (growClass_nil b 2 vt w2 HB2.out).mono ?_
  rintro e w' ⟨rfl, rfl⟩
  go_wp2_with fail
  refine (growReport_nil b 2 vt w2 HB2.out).mono ?_
  rintro e w' ⟨rfl, rfl⟩
  go_wp2_with fail
  refine (growRun_nil b 2 vt w2 HB2.out).mono ?_
  rintro e w' ⟨rfl, rfl⟩
  go_wp2_with fail
  refine (growTry_nil b 2 vt w2 HB2.out).mono ?_
  rintro e w' ⟨rfl, rfl⟩
  go_wp2_with fail
  refine (growProc_nil b 2 vt w2 HB2.out).mono ?_
  rintro e w' ⟨rfl, rfl⟩
  go_wp2_with fail
  refine (growShape_nil b 2 vt w2 HB2.out).mono ?_
  rintro e w' ⟨rfl, rfl⟩
  go_wp2_with fail
  refine (growMove_nil b 2 vt w2 HB2.out).mono ?_
  rintro e w' ⟨rfl, rfl⟩
  go_wp2_with fail
  refine (growJob_nil b 2 vt w2 HB2.out).mono ?_
  rintro e w' ⟨rfl, rfl⟩
  go_wp2_with fail
  refine (growResult_nil b 2 vt w2 HB2.out).mono ?_
  rintro e w' ⟨rfl, rfl⟩
  go_wp2_with fail
  refine (growMoveRow_nil b 2 vt w2 HB2.out).mono ?_
  rintro e w' ⟨rfl, rfl⟩
  go_wp2_with fail
  refine (growNumberRow_nil b 2 vt w2 HB2.out).mono ?_
  rintro e w' ⟨rfl, rfl⟩
  go_wp2_with fail
  refine (growCallRow_nil b 2 vt w2 HB2.out).mono ?_
  rintro e w' ⟨rfl, rfl⟩
  go_wp2_with fail
  go_loopw [3] (fun vi wr => ∃ k : Nat, vi = .int .u64 k ∧ k ≤ 8 ∧ w2 = wr) (fun vi _ => 8 - (intOf vi).toNat)
  case atStart => exact ⟨0, rfl, by omega, rfl⟩
  case round =>
    obtain ⟨k, rfl, hk, rfl⟩ := hrel
    by_cases hk8 : k < 8
    · go_wp2_with fail
      refine (bits_nil b 2 vt k w2 HB2.out).mono ?_
      rintro e w' ⟨rfl, rfl⟩
      go_wp2_with fail
      go_roundw
      case rel => exact ⟨k + 1, by go_num, by omega, trivial⟩
      case measure => simp [intOf]; omega
    · go_wp2_with fail
      refine (lookNumber_nil b 2 vt w2 HB2.out).mono ?_
      rintro e w' ⟨rfl, rfl⟩
      go_wp2_with fail
      refine (lookWide_nil b 2 vt w2 HB2.out).mono ?_
      rintro e w' ⟨rfl, rfl⟩
      go_wp2_with fail
      refine (lookText_nil b 2 vt w2 HB2.out).mono ?_
      rintro e w' ⟨rfl, rfl⟩
      go_wp2_with fail
      refine (lookEvent_nil b 2 vt w2 HB2.out).mono ?_
      rintro e w' ⟨rfl, rfl⟩
      go_wp2_with fail
      refine (lookToken_any B b vt vs2 (fun i => ns i + 3) w2 HM2.out (fun i hi => by have := HN.out i hi; show ns i + 3 ≤ _; omega)).mono ?_
      rintro e w3 ⟨rfl, hb3⟩
      have HB3 := Lib.hid (Blk.below HB2.out hb3 HB2.out.lt)
      have HW3 := Lib.hid (HW2.out.trans (hb3.mono (Nat.le_trans hBw.out HW2.out.size)))
      clear hb3
      go_wp2_with fail
      refine (lookCall_nil b 2 vt w3 HB3.out).mono ?_
      rintro e w' ⟨rfl, rfl⟩
      go_wp2_with fail
      refine (lookTally_nil b 2 vt w3 HB3.out).mono ?_
      rintro e w' ⟨rfl, rfl⟩
      go_wp2_with fail
      refine (lookLink_nil b 2 vt w3 HB3.out).mono ?_
      rintro e w' ⟨rfl, rfl⟩
      go_wp2_with fail
      refine (lookAnswer_nil b 2 vt w3 HB3.out).mono ?_
      rintro e w' ⟨rfl, rfl⟩
      go_wp2_with fail
      refine (lookAsk_nil b 2 vt w3 HB3.out).mono ?_
      rintro e w' ⟨rfl, rfl⟩
      go_wp2_with fail
      refine (lookIns_nil b 2 vt w3 HB3.out).mono ?_
      rintro e w' ⟨rfl, rfl⟩
      go_wp2_with fail
      refine (lookState_nil b 2 vt w3 HB3.out).mono ?_
      rintro e w' ⟨rfl, rfl⟩
      go_wp2_with fail
      refine (lookValue_nil b 2 vt w3 HB3.out).mono ?_
      rintro e w' ⟨rfl, rfl⟩
      go_wp2_with fail
      refine (lookEntry_nil b 2 vt w3 HB3.out).mono ?_
      rintro e w' ⟨rfl, rfl⟩
      go_wp2_with fail
      refine (lookField_nil b 2 vt w3 HB3.out).mono ?_
      rintro e w' ⟨rfl, rfl⟩
      go_wp2_with fail
      refine (lookAct_nil b 2 vt w3 HB3.out).mono ?_
      rintro e w' ⟨rfl, rfl⟩
      go_wp2_with fail
      refine (lookExpr_nil b 2 vt w3 HB3.out).mono ?_
      rintro e w' ⟨rfl, rfl⟩
      go_wp2_with fail
      refine (lookCatch_nil b 2 vt w3 HB3.out).mono ?_
      rintro e w' ⟨rfl, rfl⟩
      go_wp2_with fail
      refine (lookStmt_nil b 2 vt w3 HB3.out).mono ?_
      rintro e w' ⟨rfl, rfl⟩
      go_wp2_with fail
      refine (lookFunc_nil b 2 vt w3 HB3.out).mono ?_
      rintro e w' ⟨rfl, rfl⟩
      go_wp2_with fail
      refine (lookProp_nil b 2 vt w3 HB3.out).mono ?_
      rintro e w' ⟨rfl, rfl⟩
      go_wp2_with fail
      refine (lookClass_nil b 2 vt w3 HB3.out).mono ?_
      rintro e w' ⟨rfl, rfl⟩
      go_wp2_with fail
      refine (lookReport_nil b 2 vt w3 HB3.out).mono ?_
      rintro e w' ⟨rfl, rfl⟩
      go_wp2_with fail
      refine (lookRun_nil b 2 vt w3 HB3.out).mono ?_
      rintro e w' ⟨rfl, rfl⟩
      go_wp2_with fail
      refine (lookTry_nil b 2 vt w3 HB3.out).mono ?_
      rintro e w' ⟨rfl, rfl⟩
      go_wp2_with fail
      refine (lookProc_nil b 2 vt w3 HB3.out).mono ?_
      rintro e w' ⟨rfl, rfl⟩
      go_wp2_with fail
      refine (lookShape_nil b 2 vt w3 HB3.out).mono ?_
      rintro e w' ⟨rfl, rfl⟩
      go_wp2_with fail
      refine (lookMove_nil b 2 vt w3 HB3.out).mono ?_
      rintro e w' ⟨rfl, rfl⟩
      go_wp2_with fail
      refine (lookJob_nil b 2 vt w3 HB3.out).mono ?_
      rintro e w' ⟨rfl, rfl⟩
      go_wp2_with fail
      refine (lookResult_nil b 2 vt w3 HB3.out).mono ?_
      rintro e w' ⟨rfl, rfl⟩
      go_wp2_with fail
      refine (lookMoveRow_nil b 2 vt w3 HB3.out).mono ?_
      rintro e w' ⟨rfl, rfl⟩
      go_wp2_with fail
      refine (lookNumberRow_nil b 2 vt w3 HB3.out).mono ?_
      rintro e w' ⟨rfl, rfl⟩
      go_wp2_with fail
      refine (lookCallRow_nil b 2 vt w3 HB3.out).mono ?_
      rintro e w' ⟨rfl, rfl⟩
      go_wp2_with fail
      go_returns
      exact ⟨rfl, HW3.out⟩
end Go.Proofs.YteinadddmcicoaaGreatDoor
