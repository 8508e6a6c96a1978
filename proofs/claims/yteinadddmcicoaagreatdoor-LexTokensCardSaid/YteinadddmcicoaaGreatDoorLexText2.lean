/- Walks over layer 2's scanner: text, the walk. -/
import Derived.Test.YteinadddmcicoaaGreatDoorLexText
import Derived.Deep.RegionHeld3
import Derived.Deep.QuietTactic
import Derived.BigQuiet
namespace Go.Proofs.YteinadddmcicoaaGreatDoor
open Go.RowKit Go.Shelf
open LexPlain (Tok hexV charF textL textL_step textL_nil textL_end)

theorem textEnd_none {B b line : Nat} {s : ByteArray} {ts : List Tok} {o : Option (List UInt8 × Nat)} {w : World} (ho : o = none) (h : ScanBad B b line w) : TextEnd B b line s ts o w := by subst ho; exact h
theorem textEnd_some {B b line : Nat} {s : ByteArray} {ts : List Tok} {o : Option (List UInt8 × Nat)} {w : World} {bs : List UInt8} {m : Nat} (ho : o = some (bs, m)) (h : Scan B b (s.extract (1 + m) s.size) line (ts ++ [⟨5, bs, 0, line⟩]) false w) : TextEnd B b line s ts o w := by subst ho; exact h

theorem TInv.bad {s : ByteArray} {L : List UInt8} {w : World} {acc : List UInt8} {t : ByteArray} {wr : World} {B b line : Nat} {ts : List Tok} {o : Option (List UInt8 × Nat)} (h : TInv s L w acc t wr) (hS : Scan B b s line ts false w) (hB : B ≤ w.heap.size) (ho : textL L = o) (hN : textL L = none) :
    TextEnd B b line s ts o (wr.setCell ⟨b, 3, none⟩ (.bool true)) ∧ Below B w (wr.setCell ⟨b, 3, none⟩ (.bool true)) :=
  ⟨textEnd_none (ho.symm.trans hN) ⟨_, _, (hS.below h.2.2.2).setBad true⟩, (h.2.2.2.mono hB).setCell (p := ⟨b, 3, none⟩) hS.hB _⟩

theorem belowDraws (w : World) (n : Nat) : Below w.heap.size w (w.drewN n) := ⟨rfl, rfl, rfl, Nat.le_refl _, fun _ _ => rfl⟩
/-- What the walk asks of the scanner's cells. -/
theorem TInv.cells {s : ByteArray} {L : List UInt8} {w : World} {acc : List UInt8} {t : ByteArray} {wr : World} {B b line : Nat} {ts : List Tok} (h : TInv s L w acc t wr) (hS : Scan B b s line ts false w) :
    wr.cell? ⟨b, 0, none⟩ = some (.string s) ∧ wr.cell? ⟨b, 3, none⟩ = some (.bool false) ∧ wr.frozen? ⟨b, 3, none⟩ = false := by
  have h' := (hS.below h.2.2.2).cells
  exact ⟨h'.2.1, h'.2.2.2.1, h'.2.2.2.2.2.2⟩

set_option maxHeartbeats 12800000 in
set_option maxRecDepth 100000 in
theorem text_any (B b : Nat) (s : ByteArray) (line : Nat) (ts : List Tok) (w : World) (h : Scan B b s line ts false w) (hB : B ≤ w.heap.size) (hl : line ≤ 1000000) (hs : s.size ≤ 1000000) (hs1 : 1 ≤ s.size) (hts : ts.length ≤ 1000000) (hH : HasB B w) :
    Calls Tryz.prog 123 #[.pointer (some ⟨b, 0, none⟩)] w fun e w' => e = .returned (.tuple #[]) ∧ TextEnd B b line s ts (textL (s.data.toList.drop 1)) w' ∧ Below B w w' := by
  have hsz : s.data.toList.length = s.size := Array.length_toList
  obtain ⟨hlt, c0, c1, c3, f0, f1, f3⟩ := h.cells
  generalize hm : s.data.toList.drop 1 = L
  have HST := Lib.hid (TInv.start s L w hm hs1)
  generalize ho : textL L = o
  have HO := Lib.hid ho
  have HS := Lib.hid h
  clear hm h ho
  go_enter Tryz.func123, Tryz.ntmps123
  go_wp2
  go_loopw [3] (fun vt wr => ∃ (t : ByteArray) (acc : List UInt8), vt = .string t ∧ t.size + 1 ≤ s.size ∧ TInv s L w acc t wr) (fun vt _ => strSize vt)
  case atStart => exact ⟨s.extract 1 s.size, [], rfl, by rw [ByteArray.size_extract]; omega, HST.out⟩
  case round =>
    obtain ⟨t, acc, rfl, hts1, hr⟩ := hrel
    rename_i wr
    have HR := Lib.hid hr
    clear hr
    obtain ⟨k0, k3, e3⟩ := HR.out.cells HS.out
    have hwr := HR.out.2.2.2.size
    by_cases h0 : t.size = 0
    · have z1 := ba_is_empty t h0
      have z2 := ba_empty t h0
      have HZ : Hid (textL L = none) := Lib.hid (by have := HR.out.2.1; rw [z2] at this; exact comb_nil this)
      clear z2 h0
      go_wp2_with fail
      go_returns
      exact ⟨rfl, HR.out.bad HS.out hB HO.out HZ.out⟩
    have z1 := ba_not_empty t h0
    have hpos : 0 < t.size := by omega
    have HL := Lib.hid (list_cons t hpos)
    have HNE : Hid (t.data.toList ≠ []) := Lib.hid (by rw [HL.out]; simp)
    clear h0
    by_cases h39 : t[0].toNat = 39
    · have b39 : ((t[0].toNat : Int) != 39) = false := by rw [bne_eq_false_iff_eq]; omega
      have d10 : ((t[0].toNat : Int) == 10) = false := by rw [beq_eq_false_iff_ne]; omega
      have HE : Hid (textL L = some (acc, s.size - 1 - t.size + 1)) := Lib.hid (by have := HR.out.2.1; rw [HL.out] at this; exact comb_end this h39)
      have HBD : Hid (Lib.IsBuilderF 353 5 w.heap.size w.heap.size (Lib.byteCells acc) wr.drew) := Lib.hid (IsB.below HR.out.2.2.1 (Below.refl _ _).drew)
      have CS := Lib.hid (fun w' hb hw' => Tryz.Builder_String_any_k w.heap.size w.heap.size acc w' hb hw')
      have hI1 : IntKind.i64.wrap ((s.size : Int) - (t.size : Int)) = (s.size : Int) - (t.size : Int) := IntWalk.i64_in _ (by omega)
      have hI2 : IntKind.i64.wrap ((s.size : Int) - (t.size : Int) + 1) = (s.size : Int) - (t.size : Int) + 1 := IntWalk.i64_in _ (by omega)
      have hI3 : Hid ((s.size : Int) - (t.size : Int) + 1 = ((1 + (s.size - 1 - t.size + 1) : Nat) : Int)) := Lib.hid (by omega)
      have hI4 : Hid (1 + (s.size - 1 - t.size + 1) ≤ s.size) := Lib.hid (by omega)
      clear h39
      go_wp2_with fail
      go_region_with (first
        | (go_at_call 201; refine (CS.out _ HBD.out hwr).mono ?_; rintro e w1 ⟨rfl, hb1, hb2, -⟩; have hb3 := Lib.hid (HR.out.2.2.2.drew.trans hb2); have m0 : w1.cell? ⟨b, 0, none⟩ = some (.string s) := cell_later hb3.out c0)
        | (go_at_call 121; refine (put_any B b s line ts false _ (HS.out.below hb3.out) (Nat.le_trans hB hb3.out.size) hl _ 5 (by rfl) _ _ _ _ (1 + (s.size - 1 - t.size + 1)) (by exact hI3.out) hI4.out hs hts).mono ?_; rintro e w3 ⟨rfl, hsc, hb4⟩))
      all_goals
        go_wp2_with fail
        go_returns
        exact ⟨rfl, textEnd_some (HO.out.symm.trans HE.out) hsc, (hb3.out.mono hB).trans hb4⟩
    by_cases h10 : t[0].toNat = 10
    · have HZ : Hid (textL L = none) := Lib.hid (comb_bad HR.out.2.1 HNE.out (by rw [HL.out]; simp; omega) (by rw [HL.out]; exact charF_lf _ _ h10))
      go_wp2_with fail
      go_returns
      exact ⟨rfl, HR.out.bad HS.out hB HO.out HZ.out⟩
    have H39 : Hid (¬ (t.data.toList.head?.map (·.toNat)) = some 39) := Lib.hid (by rw [HL.out]; simp; omega)
    have b39 : ((t[0].toNat : Int) != 39) = true := by rw [bne_iff_ne]; omega
    have b10 : ((t[0].toNat : Int) != 10) = true := by rw [bne_iff_ne]; omega
    by_cases h92 : t[0].toNat = 92
    · have b92 : ((t[0].toNat : Int) != 92) = false := by rw [bne_eq_false_iff_eq]; omega
      have CP := Lib.hid (fun x => pre2 t x hpos h92)
      have h92' := Lib.hid h92
      clear h39 h10 h92
      by_cases h1 : 1 < t.size
      · have HL2 := Lib.hid (list_cons2 t h1)
        by_cases a1 : t[1].toNat = 39
        · have C1 := Lib.hid (fun w' => CP.out 39 w' true ⟨fun _ => rfl, fun _ => ⟨h1, a1⟩⟩)
          have HC : Hid (charF t.data.toList = some (t[1], 2)) := Lib.hid (by rw [HL2.out]; exact charF_same _ _ _ h92'.out (.inl a1))
          have HW := Lib.hid (HR.out.write hs t[1] 2 (by omega) (by omega) HC.out H39.out)
          clear a1
          go_wp2_with fail
          refine (C1.out _).mono ?_
          rintro e w1 ⟨rfl, rfl⟩
          go_wp2_with fail
          refine (HW.out _ (by rfl)).mono ?_
          rintro e w2 ⟨rfl, hb1⟩
          have HB1 := Lib.hid hb1
          clear hb1
          go_wp2_with fail
          go_roundw
          case rel => exact ⟨t.extract 2 t.size, acc ++ [t[1]], rfl, by rw [ByteArray.size_extract]; omega, HB1.out⟩
          case measure => simp [strSize]; omega
        by_cases a2 : t[1].toNat = 92
        · have C1 := Lib.hid (fun w' => CP.out 39 w' false ⟨fun ⟨_, hh⟩ => absurd hh a1, fun hh => absurd hh (by decide)⟩)
          have C2 := Lib.hid (fun w' => CP.out 92 w' true ⟨fun _ => rfl, fun _ => ⟨h1, a2⟩⟩)
          have HC : Hid (charF t.data.toList = some (t[1], 2)) := Lib.hid (by rw [HL2.out]; exact charF_same _ _ _ h92'.out (.inr a2))
          have HW := Lib.hid (HR.out.write hs t[1] 2 (by omega) (by omega) HC.out H39.out)
          clear a1 a2
          go_wp2_with fail
          refine (C1.out _).mono ?_
          rintro e w1 ⟨rfl, rfl⟩
          go_wp2_with fail
          refine (C2.out _).mono ?_
          rintro e w1 ⟨rfl, rfl⟩
          go_wp2_with fail
          refine (HW.out _ (by rfl)).mono ?_
          rintro e w2 ⟨rfl, hb1⟩
          have HB1 := Lib.hid hb1
          clear hb1
          go_wp2_with fail
          go_roundw
          case rel => exact ⟨t.extract 2 t.size, acc ++ [t[1]], rfl, by rw [ByteArray.size_extract]; omega, HB1.out⟩
          case measure => simp [strSize]; omega
        by_cases a3 : t[1].toNat = 110
        · have C1 := Lib.hid (fun w' => CP.out 39 w' false ⟨fun ⟨_, hh⟩ => absurd hh a1, fun hh => absurd hh (by decide)⟩)
          have C2 := Lib.hid (fun w' => CP.out 92 w' false ⟨fun ⟨_, hh⟩ => absurd hh a2, fun hh => absurd hh (by decide)⟩)
          have C3 := Lib.hid (fun w' => CP.out 110 w' true ⟨fun _ => rfl, fun _ => ⟨h1, a3⟩⟩)
          have HC : Hid (charF t.data.toList = some (10, 2)) := Lib.hid (by rw [HL2.out]; exact charF_n _ _ _ h92'.out a3)
          have HW := Lib.hid (HR.out.write hs 10 2 (by omega) (by omega) HC.out H39.out)
          clear a1 a2 a3
          go_wp2_with fail
          refine (C1.out _).mono ?_
          rintro e w1 ⟨rfl, rfl⟩
          go_wp2_with fail
          refine (C2.out _).mono ?_
          rintro e w1 ⟨rfl, rfl⟩
          go_wp2_with fail
          refine (C3.out _).mono ?_
          rintro e w1 ⟨rfl, rfl⟩
          go_wp2_with fail
          refine (HW.out _ (by rfl)).mono ?_
          rintro e w2 ⟨rfl, hb1⟩
          have HB1 := Lib.hid hb1
          clear hb1
          go_wp2_with fail
          go_roundw
          case rel => exact ⟨t.extract 2 t.size, acc ++ [10], rfl, by rw [ByteArray.size_extract]; omega, HB1.out⟩
          case measure => simp [strSize]; omega
        have C1 := Lib.hid (fun w' => CP.out 39 w' false ⟨fun ⟨_, hh⟩ => absurd hh a1, fun hh => absurd hh (by decide)⟩)
        have C2 := Lib.hid (fun w' => CP.out 92 w' false ⟨fun ⟨_, hh⟩ => absurd hh a2, fun hh => absurd hh (by decide)⟩)
        have C3 := Lib.hid (fun w' => CP.out 110 w' false ⟨fun ⟨_, hh⟩ => absurd hh a3, fun hh => absurd hh (by decide)⟩)
        by_cases a4 : t[1].toNat = 120
        · have C4 := Lib.hid (fun w' => CP.out 120 w' true ⟨fun _ => rfl, fun _ => ⟨h1, a4⟩⟩)
          clear a1 a2 a3
          by_cases h4 : 4 ≤ t.size
          · have h3 : 3 < t.size := by omega
            have HL4 := Lib.hid (list_cons4 t h3)
            have HXY : Hid ((t.extract 2 4).data.toList = [t[2], t[3]]) := Lib.hid (by simp only [ByteArray.data_extract, Array.toList_extract, List.extract_eq_take_drop]; rw [HL4.out]; rfl)
            have i4 : (4 : Int) ≤ (t.size : Int) := by omega
            have HZ2 : (t.extract 2 4).size = 2 := by rw [ByteArray.size_extract]; omega
            have g5 : decide ((4 : Int) ≤ (t.size : Int)) = true := decide_eq_true (by omega)
            have HCH := Lib.hid (charF_hex t[0] t[1] t[2] t[3] (t.data.toList.drop 4) h92'.out a4)
            rw [← HL4.out] at HCH
            have HRD : Hid (HasB B wr.drew) := Lib.hid ((hH.next (HR.out.2.2.2.mono hB)).next (Below.refl _ _).drew)
            have CL : Hid (∀ w', HasB B w' → Calls Tryz.prog 207 #[.string (t.extract 2 4)] w' fun e w1 => e = .returned (.string ⟨(Lib.toLowerD [t[2], t[3]]).toArray⟩) ∧ Below w'.heap.size w' w1) := Lib.hid (fun w' hh => by rw [← HXY.out]; exact lower_any2 B (t.extract 2 4) w' hh (by omega))
            obtain ⟨lw, hlw⟩ : ∃ lw, lw = Lib.toLowerD [t[2], t[3]] := ⟨_, rfl⟩
            rw [← hlw] at CL
            have HLW := Lib.hid hlw
            clear hlw a4
            by_cases hq : lw = [t[2], t[3]]
            · have q1 : (lw == (t.extract 2 4).toList) = true := by rw [ByteArray.toList_eq, HXY.out, hq]; simp
              have HQ := Lib.hid (HLW.out.symm.trans hq)
              clear hq
              cases hp : p16 0 (t.extract 2 4).data.toList with
              | none =>
                have CB := Lib.hid (fun w' hh => parse16_bad (t.extract 2 4) (by omega) (by omega) hp w' hh)
                have HC : Hid (charF t.data.toList = none) := Lib.hid (by
                  rw [HXY.out] at hp
                  rw [HCH.out]
                  cases hx : hexV t[2] with
                  | none => rfl
                  | some a => cases hy : hexV t[3] with
                    | none => rfl
                    | some b' => rw [(hex_no hx hy).2] at hp; cases hp)
                have HZ := Lib.hid (comb_bad HR.out.2.1 HNE.out H39.out HC.out)
                clear hp
                go_wp2_with fail
                refine (C1.out _).mono ?_
                rintro e w1 ⟨rfl, rfl⟩
                go_wp2_with fail
                refine (C2.out _).mono ?_
                rintro e w1 ⟨rfl, rfl⟩
                go_wp2_with fail
                refine (C3.out _).mono ?_
                rintro e w1 ⟨rfl, rfl⟩
                go_wp2_with fail
                go_region_held3 (fun _ => True) (exact trivial) (first | (go_at_call 114; (with_reducible refine (C4.out _).mono ?_); rintro e w1 ⟨rfl, rfl⟩) | (go_at_call 207; refine (CL.out _ HRD.out).mono ?_; rintro e w1 ⟨rfl, hbl⟩; have HBL := Lib.hid (((Below.refl _ wr).drew).thens hbl)))
                go_wp2_with fail
                refine (CB.out _ ((hH.next (HR.out.2.2.2.mono hB)).next (HBL.out.mono (Nat.le_trans hB hwr))).has).mono ?_
                rintro e w2 ⟨x, tp, N, hx0, hx1, rfl, hb2⟩
                have HR2 := Lib.hid ((HR.out.below HBL.out).below hb2)
                obtain ⟨m0, m3, n3⟩ := HR2.out.cells HS.out
                go_wp2_with fail
                go_returns
                exact ⟨rfl, HR2.out.bad HS.out hB HO.out HZ.out⟩
              | some v =>
                have CG := Lib.hid (fun w' => parse16_ok (t.extract 2 4) (by omega) (by omega) v hp w')
                have hv : v < 256 := by rw [HXY.out] at hp; obtain ⟨a, b', hx, hy, hv, hlt⟩ := hex_yes HQ.out hp; exact hlt
                have HC : Hid (charF t.data.toList = some (UInt8.ofNat v, 4)) := Lib.hid (by
                  rw [HXY.out] at hp
                  obtain ⟨a, b', hx, hy, hv, hlt⟩ := hex_yes HQ.out hp
                  rw [HCH.out, hx, hy, hv])
                clear hp
                go_wp2_with fail
                refine (C1.out _).mono ?_
                rintro e w1 ⟨rfl, rfl⟩
                go_wp2_with fail
                refine (C2.out _).mono ?_
                rintro e w1 ⟨rfl, rfl⟩
                go_wp2_with fail
                refine (C3.out _).mono ?_
                rintro e w1 ⟨rfl, rfl⟩
                go_wp2_with fail
                go_region_held3 (fun _ => True) (exact trivial) (first | (go_at_call 114; (with_reducible refine (C4.out _).mono ?_); rintro e w1 ⟨rfl, rfl⟩) | (go_at_call 207; refine (CL.out _ HRD.out).mono ?_; rintro e w1 ⟨rfl, hbl⟩; have HBL := Lib.hid (((Below.refl _ wr).drew).thens hbl)))
                go_wp2_with fail
                refine (CG.out _).mono ?_
                rintro e w2 ⟨rfl, hb2⟩
                have HR2 := Lib.hid ((HR.out.below HBL.out).below hb2)
                have HW := Lib.hid (HR2.out.write hs (UInt8.ofNat v) 4 (by omega) (by omega) HC.out H39.out)
                go_wp2_with fail
                refine (HW.out _ (by first | rfl | (simp; omega))).mono ?_
                rintro e w3 ⟨rfl, hb1⟩
                have HB1 := Lib.hid hb1
                clear hb1
                go_wp2_with fail
                go_roundw
                case rel => exact ⟨t.extract 4 t.size, acc ++ [UInt8.ofNat v], rfl, by rw [ByteArray.size_extract]; omega, HB1.out⟩
                case measure => simp [strSize]; omega
            · have q1 : (lw == (t.extract 2 4).toList) = false := by rw [ByteArray.toList_eq, HXY.out]; simpa using hq
              have HC : Hid (charF t.data.toList = none) := Lib.hid (by
                rw [HCH.out]
                cases hx : hexV t[2] with
                | none => rfl
                | some a => cases hy : hexV t[3] with
                  | none => rfl
                  | some b' => exact absurd (HLW.out.trans (hex_no hx hy).1) hq)
              have HZ := Lib.hid (comb_bad HR.out.2.1 HNE.out H39.out HC.out)
              clear hq
              go_wp2_with fail
              refine (C1.out _).mono ?_
              rintro e w1 ⟨rfl, rfl⟩
              go_wp2_with fail
              refine (C2.out _).mono ?_
              rintro e w1 ⟨rfl, rfl⟩
              go_wp2_with fail
              refine (C3.out _).mono ?_
              rintro e w1 ⟨rfl, rfl⟩
              go_wp2_with fail
              go_region_held3 (fun _ => True) (exact trivial) (first | (go_at_call 114; (with_reducible refine (C4.out _).mono ?_); rintro e w1 ⟨rfl, rfl⟩) | (go_at_call 207; refine (CL.out _ HRD.out).mono ?_; rintro e w1 ⟨rfl, hbl⟩; have HBL := Lib.hid (((Below.refl _ wr).drew).thens hbl)))
              have HR2 := Lib.hid (HR.out.below HBL.out)
              obtain ⟨m0, m3, n3⟩ := HR2.out.cells HS.out
              go_wp2_with fail
              go_returns
              exact ⟨rfl, HR2.out.bad HS.out hB HO.out HZ.out⟩
          · have HC : Hid (charF t.data.toList = none) := Lib.hid (by rw [HL2.out]; exact charF_short _ _ _ h92'.out a4 (by have hz : t.data.toList.length = t.size := Array.length_toList; rw [List.length_drop]; omega))
            have HZ := Lib.hid (comb_bad HR.out.2.1 HNE.out H39.out HC.out)
            have g5 : decide ((4 : Int) ≤ (t.size : Int)) = false := decide_eq_false (by omega)
            clear a4 h4
            go_wp2_with fail
            refine (C1.out _).mono ?_
            rintro e w1 ⟨rfl, rfl⟩
            go_wp2_with fail
            refine (C2.out _).mono ?_
            rintro e w1 ⟨rfl, rfl⟩
            go_wp2_with fail
            refine (C3.out _).mono ?_
            rintro e w1 ⟨rfl, rfl⟩
            go_wp2_with fail
            go_quiet ((go_at_call 114; exact Calls.quiet_of_same ((C4.out _).mono fun _ _ h => ⟨h.1, h.2.symm⟩)))
            go_wp2_with fail
            go_returns
            exact ⟨rfl, (HR.out.below (belowDraws wr _)).bad HS.out hB HO.out HZ.out⟩
        · have C4 := Lib.hid (fun w' => CP.out 120 w' false ⟨fun ⟨_, hh⟩ => absurd hh a4, fun hh => absurd hh (by decide)⟩)
          have HC : Hid (charF t.data.toList = none) := Lib.hid (by rw [HL2.out]; exact charF_other _ _ _ h92'.out a1 a2 a3 a4)
          have HZ := Lib.hid (comb_bad HR.out.2.1 HNE.out H39.out HC.out)
          clear a1 a2 a3 a4
          go_wp2_with fail
          refine (C1.out _).mono ?_
          rintro e w1 ⟨rfl, rfl⟩
          go_wp2_with fail
          refine (C2.out _).mono ?_
          rintro e w1 ⟨rfl, rfl⟩
          go_wp2_with fail
          refine (C3.out _).mono ?_
          rintro e w1 ⟨rfl, rfl⟩
          go_wp2_with fail
          go_quiet ((go_at_call 114; exact Calls.quiet_of_same ((C4.out _).mono fun _ _ h => ⟨h.1, h.2.symm⟩)))
          go_wp2_with fail
          go_returns
          exact ⟨rfl, (HR.out.below (belowDraws wr _)).bad HS.out hB HO.out HZ.out⟩
      · have NO : Hid (∀ x : UInt8, ¬ ∃ hh : 1 < t.size, t[1].toNat = x.toNat) := Lib.hid (fun x ⟨hh, _⟩ => h1 hh)
        have C1 := Lib.hid (fun w' => CP.out 39 w' false ⟨fun hh => absurd hh (NO.out _), fun hh => absurd hh (by decide)⟩)
        have C2 := Lib.hid (fun w' => CP.out 92 w' false ⟨fun hh => absurd hh (NO.out _), fun hh => absurd hh (by decide)⟩)
        have C3 := Lib.hid (fun w' => CP.out 110 w' false ⟨fun hh => absurd hh (NO.out _), fun hh => absurd hh (by decide)⟩)
        have C4 := Lib.hid (fun w' => CP.out 120 w' false ⟨fun hh => absurd hh (NO.out _), fun hh => absurd hh (by decide)⟩)
        have HC : Hid (charF t.data.toList = none) := Lib.hid (by have hz : t.data.toList.length = t.size := Array.length_toList; rw [HL.out, show t.data.toList.drop 1 = [] from List.drop_eq_nil_of_le (by omega)]; exact charF_alone _ h92'.out)
        have HZ := Lib.hid (comb_bad HR.out.2.1 HNE.out H39.out HC.out)
        go_wp2_with fail
        refine (C1.out _).mono ?_
        rintro e w1 ⟨rfl, rfl⟩
        go_wp2_with fail
        refine (C2.out _).mono ?_
        rintro e w1 ⟨rfl, rfl⟩
        go_wp2_with fail
        refine (C3.out _).mono ?_
        rintro e w1 ⟨rfl, rfl⟩
        go_wp2_with fail
        go_quiet ((go_at_call 114; exact Calls.quiet_of_same ((C4.out _).mono fun _ _ h => ⟨h.1, h.2.symm⟩)))
        go_wp2_with fail
        go_returns
        exact ⟨rfl, (HR.out.below (belowDraws wr _)).bad HS.out hB HO.out HZ.out⟩
    · have HC : Hid (charF t.data.toList = some (t[0], 1)) := Lib.hid (by rw [HL.out]; exact charF_plain _ _ h39 h10 h92)
      have b92 : ((t[0].toNat : Int) != 92) = true := by rw [bne_iff_ne]; omega
      clear h39 h10 h92
      have HW := Lib.hid (HR.out.write hs t[0] 1 (by omega) (by omega) HC.out H39.out)
      go_wp2_with fail
      refine (HW.out _ (by rfl)).mono ?_
      rintro e w1 ⟨rfl, hb1⟩
      have HB1 := Lib.hid hb1
      clear hb1
      go_wp2_with fail
      go_roundw
      case rel => exact ⟨t.extract 1 t.size, acc ++ [t[0]], rfl, by rw [ByteArray.size_extract]; omega, HB1.out⟩
      case measure => simp [strSize]; omega
end Go.Proofs.YteinadddmcicoaaGreatDoor
