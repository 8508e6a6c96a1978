/- Walks over layer 2's Quote. -/
import Derived.Test.YteinadddmcicoaaGreatDoorLexBuilder
import Derived.Test.YteinadddmcicoaaGreatDoorLexText
import Derived.Test.YteinadddmcicoaaGreatDoorLexQuoteP
import Derived.Laws.Strings3
import Derived.Laws.Closers25
namespace Go.Proofs.YteinadddmcicoaaGreatDoor
open Go.RowKit Go.Shelf
open LexPlain (quoteB quoteF quoteL hexD)

def QInv (s : ByteArray) (w : World) (r : Nat) (cs : Array Value) (n k : Nat) (wr : World) : Prop :=
  Lib.IsBuilder 353 5 w.heap.size w.heap.size (Lib.byteCells (39 :: quoteF (s.data.toList.take k))) wr ∧ Below w.heap.size w wr ∧ wr.heap[r]? = some (.cells cs 5 (n, n + 1))

theorem isb_below {T e : TypeId} {B b : Nat} {bs : List Value} {w w' : World} (h : Lib.IsBuilder T e B b bs w) (hb : Below w.heap.size w w') : Lib.IsBuilder T e B b bs w' := by
  have key : ∀ p, Lib.BuilderAt T e B b p bs w → Lib.BuilderAt T e B b p bs w' := by
    rintro p ⟨hB, v, hk, ho, hne⟩
    refine ⟨hB, v, (hb.block b ?_).trans hk, ho.kept (row := none) ⟨hb.os, hb.tape, hb.output, hb.size, fun i hi _ => hb.block i hi⟩ ?_, hne⟩
    · rcases Nat.lt_or_ge b w.heap.size with h' | h'
      · exact h'
      · simp [Array.getElem?_eq_none h'] at hk
    · cases hv : v.ownBlock with
      | none => exact .inl rfl
      | some g => exact .inr (by simp)
  exact h.elim (fun x => .inl (key _ x)) (fun x => .inr (key _ x))

theorem ret_str {a b : List UInt8} (h : a = b) : Ending.returned (.string ⟨a.toArray⟩) = .returned (.string ⟨b.toArray⟩) := by rw [h]
theorem hexAt : ∀ (d : Fin 16), ((⟨#[48, 49, 50, 51, 52, 53, 54, 55, 56, 57, 97, 98, 99, 100, 101, 102]⟩ : ByteArray)[d.val]'(by have := d.isLt; show d.val < 16; exact this)) = hexD d.val := by decide +kernel
theorem hexAtInt (d : Nat) (h : d < 16) (h' : d < (⟨#[48, 49, 50, 51, 52, 53, 54, 55, 56, 57, 97, 98, 99, 100, 101, 102]⟩ : ByteArray).size) : (((⟨#[48, 49, 50, 51, 52, 53, 54, 55, 56, 57, 97, 98, 99, 100, 101, 102]⟩ : ByteArray)[d]'h').toNat : Int) = ((hexD d).toNat : Int) := by
  rw [show ((⟨#[48, 49, 50, 51, 52, 53, 54, 55, 56, 57, 97, 98, 99, 100, 101, 102]⟩ : ByteArray)[d]'h') = hexD d from hexAt ⟨d, h⟩]
theorem QInv.next {s : ByteArray} {w : World} {r : Nat} {cs : Array Value} {n k : Nat} {wr w2 : World} {c : UInt8} (h : QInv s w r cs n k wr) (hq : quoteF (s.data.toList.take (k + 1)) = quoteF (s.data.toList.take k) ++ quoteB c)
    {add : List UInt8} (hadd : quoteB c = add) (hi : Lib.IsBuilder 353 5 w.heap.size w.heap.size (Lib.byteCells ((39 :: quoteF (s.data.toList.take k)) ++ add)) w2) (hb : Below w.heap.size wr w2) (hf : FK wr w2) : QInv s w r cs n (k + 1) w2 :=
  ⟨by rw [hq, hadd, ← List.cons_append]; exact hi, h.2.1.trans hb, hf _ _ _ _ h.2.2⟩

set_option maxHeartbeats 6400000 in
set_option maxRecDepth 100000 in
theorem quote_any (s : ByteArray) (hs : s.size ≤ 20000000) (w : World) :
    Calls Tryz.prog 113 #[.string s] w fun e w' => e = .returned (.string ⟨(quoteL s.data.toList).toArray⟩) ∧ Below w.heap.size w w' := by
  have hz : s.data.toList.length = s.size := Array.length_toList
  have hcv : ∀ W, (convert 9 351 (.string s)).run Tryz.prog W = .ok (.slice (some ⟨W.heap.size, 0, none⟩) s.size (grownCap W s.size 0 5)) (Lib.bytesWorld W 5 s) := fun W => Lib.run_convert_string_bytes (P := Tryz.prog) W 9 351 5 s (u := .string) Tryz.underlying9 Tryz.underlying351 Tryz.underlying5
  have W0 := Lib.hid (writeByte_fk w.heap.size w.heap.size [] 39 (w.alloc (.cells #[.pointer none, .slice none 0 0] 353)) (Lib.fresh_isBuilder 353 5 w) (by simp) (by simp) 39 (by rfl))
  have HB0 := Lib.hid ((Below.refl w.heap.size w).alloc (Nat.le_refl _) (.cells #[.pointer none, .slice none 0 0] 353))
  go_enter Tryz.func113, Tryz.ntmps113
  go_wp2_with fail
  refine W0.out.mono ?_
  rintro e w1 ⟨rfl, hi1, hb1, -⟩
  have HI1 := Lib.hid hi1
  have hbw1 := HB0.out.trans hb1
  have HW1 := Lib.hid hbw1
  have hsz1 := hbw1.size
  clear hi1 hb1 hbw1
  have hr : Hid ((Lib.bytesWorld w1 5 s).heap[w1.heap.size]? = some (.cells (Lib.bytesCells w1 5 s) 5 ((Lib.bytesCells w1 5 s).size, (Lib.bytesCells w1 5 s).size + 1))) := Lib.hid (Lib.bytesWorld_at_new w1 5 s)
  have hcell : Hid (∀ j, j < s.size → (Lib.bytesCells w1 5 s)[j]? = some (.int .u8 (s.data.toList.getD j 0).toNat)) := Lib.hid (fun j hj => by simp [Lib.bytesCells, Array.getElem?_append, List.getD, hj])
  have hst : Hid (QInv s w w1.heap.size (Lib.bytesCells w1 5 s) (Lib.bytesCells w1 5 s).size 0 (Lib.bytesWorld w1 5 s)) := Lib.hid ⟨isb_below HI1.out (Lib.bytesWorld_below _ _ _), HW1.out.trans ((Lib.bytesWorld_below _ _ _).mono hsz1), hr.out⟩
  generalize Lib.bytesCells w1 5 s = cs at hr hcell hst
  have hcv1 := hcv w1
  generalize Lib.bytesWorld w1 5 s = W1 at hr hst hcv1
  generalize w1.heap.size = r at hcv1 hr hst hsz1
  clear hcv
  go_wp2_with fail
  go_loopw [10] (fun vi wr => ∃ k : Nat, vi = .int .i64 k ∧ k ≤ s.size ∧ QInv s w r cs cs.size k wr) (fun vi _ => s.size - (intOf vi).toNat)
  case atStart => exact ⟨0, rfl, by omega, hst.out⟩
  case round =>
    obtain ⟨k, rfl, hk, hq⟩ := hrel
    rename_i wr
    have HQ := Lib.hid hq
    clear hq
    by_cases hkn : k < s.size
    · have hc : wr.cell? ⟨r, k, none⟩ = some (.int .u8 s[k].toNat) := by
        rw [cell_of_row wr r k cs 5 _ HQ.out.2.2, hcell.out k hkn]
        simp [List.getD, hkn, hz]
        rfl
      have hq1 : Hid (quoteF (s.data.toList.take (k + 1)) = quoteF (s.data.toList.take k) ++ quoteB s[k]) := Lib.hid (by
        rw [List.take_succ_eq_append_getElem (by omega), LexPlain.quoteF_snoc]; rfl)
      have hlen : (quoteF (s.data.toList.take k)).length ≤ 4 * s.size := by
        have := LexPlain.quoteF_le (s.data.toList.take k)
        rw [List.length_take] at this
        omega
      generalize s[k] = c at hc hq1
      by_cases h39 : c.toNat = 39 ∨ c.toNat = 92
      · rcases h39 with h39 | h39
        · have d39 : ((c.toNat : Int) == 39) = true := by rw [beq_iff_eq]; omega
          have hadd : Hid (quoteB c = [92] ++ [c]) := Lib.hid (by unfold LexPlain.quoteB; rw [if_pos (by omega)]; rfl)
          clear h39
          have CW := Lib.hid (writeByte_fk w.heap.size w.heap.size _ 92 wr HQ.out.1 (by simp; omega) HQ.out.2.1.size 92 (by rfl))
          go_wp2_with fail
          refine CW.out.mono ?_
          rintro e w2 ⟨rfl, hi2, hb2, hf2⟩
          have CW2 := Lib.hid (writeByte_fk w.heap.size w.heap.size _ c w2 hi2 (by simp; omega) (Nat.le_trans HQ.out.2.1.size hb2.size))
          have HB2 := Lib.hid hb2
          have HF2 := Lib.hid hf2
          clear hi2 hb2 hf2
          go_wp2_with fail
          refine (CW2.out _ (by rfl)).mono ?_
          rintro e w3 ⟨rfl, hi3, hb3, hf3⟩
          have HN := Lib.hid (HQ.out.next hq1.out hadd.out (by rw [← List.append_assoc]; exact hi3) (HB2.out.trans hb3) (HF2.out.trans hf3))
          clear hi3 hb3 hf3
          go_wp2_with fail
          go_roundw
          case rel => exact ⟨k + 1, by go_num, by omega, HN.out⟩
          case measure => simp [intOf]; omega
        · have d39 : ((c.toNat : Int) == 39) = false := by rw [beq_eq_false_iff_ne]; omega
          have d92 : ((c.toNat : Int) == 92) = true := by rw [beq_iff_eq]; omega
          have hadd : Hid (quoteB c = [92] ++ [c]) := Lib.hid (by unfold LexPlain.quoteB; rw [if_pos (by omega)]; rfl)
          clear h39
          have CW := Lib.hid (writeByte_fk w.heap.size w.heap.size _ 92 wr HQ.out.1 (by simp; omega) HQ.out.2.1.size 92 (by rfl))
          go_wp2_with fail
          refine CW.out.mono ?_
          rintro e w2 ⟨rfl, hi2, hb2, hf2⟩
          have CW2 := Lib.hid (writeByte_fk w.heap.size w.heap.size _ c w2 hi2 (by simp; omega) (Nat.le_trans HQ.out.2.1.size hb2.size))
          have HB2 := Lib.hid hb2
          have HF2 := Lib.hid hf2
          clear hi2 hb2 hf2
          go_wp2_with fail
          refine (CW2.out _ (by rfl)).mono ?_
          rintro e w3 ⟨rfl, hi3, hb3, hf3⟩
          have HN := Lib.hid (HQ.out.next hq1.out hadd.out (by rw [← List.append_assoc]; exact hi3) (HB2.out.trans hb3) (HF2.out.trans hf3))
          clear hi3 hb3 hf3
          go_wp2_with fail
          go_roundw
          case rel => exact ⟨k + 1, by go_num, by omega, HN.out⟩
          case measure => simp [intOf]; omega
      by_cases hx : c.toNat < 32 ∨ 126 < c.toNat
      · rcases hx with hx | hx
        · have d39 : ((c.toNat : Int) == 39) = false := by rw [beq_eq_false_iff_ne]; omega
          have d92 : ((c.toNat : Int) == 92) = false := by rw [beq_eq_false_iff_ne]; omega
          have i1 : (c.toNat : Int) < 32 := by omega
          have hadd : Hid (quoteB c = [92, 120] ++ ([hexD (c.toNat / 16)] ++ [hexD (c.toNat % 16)])) := Lib.hid (by unfold LexPlain.quoteB; rw [if_neg h39, if_pos (by omega)]; rfl)
          have hc256 : c.toNat < 256 := c.toNat_lt
          clear h39 hx
          have CW := Lib.hid (writeString_fk w.heap.size w.heap.size _ ⟨#[92, 120]⟩ wr HQ.out.1 (by simp; omega) (by decide) HQ.out.2.1.size)
          go_wp2_with fail
          refine CW.out.mono ?_
          rintro e w2 ⟨rfl, hi2, hb2, hf2⟩
          have CW2 := Lib.hid (writeByte_fk w.heap.size w.heap.size _ (hexD (c.toNat / 16)) w2 hi2 (by simp; omega) (Nat.le_trans HQ.out.2.1.size hb2.size))
          have HB2 := Lib.hid hb2
          have HF2 := Lib.hid hf2
          clear hi2 hb2 hf2
          go_wp2_with fail
          refine (CW2.out _ (by exact hexAtInt _ (by omega) _)).mono ?_
          rintro e w3 ⟨rfl, hi3, hb3, hf3⟩
          have CW3 := Lib.hid (writeByte_fk w.heap.size w.heap.size _ (hexD (c.toNat % 16)) w3 hi3 (by simp; omega) (Nat.le_trans HQ.out.2.1.size (Nat.le_trans HB2.out.size hb3.size)))
          have HB3 := Lib.hid (HB2.out.trans hb3)
          have HF3 := Lib.hid (HF2.out.trans hf3)
          clear hi3 hb3 hf3
          go_wp2_with fail
          refine (CW3.out _ (by exact hexAtInt _ (by omega) _)).mono ?_
          rintro e w4 ⟨rfl, hi4, hb4, hf4⟩
          have HN := Lib.hid (HQ.out.next hq1.out hadd.out (by rw [← List.append_assoc, ← List.append_assoc]; exact hi4) (HB3.out.trans hb4) (HF3.out.trans hf4))
          clear hi4 hb4 hf4
          go_wp2_with fail
          go_roundw
          case rel => exact ⟨k + 1, by go_num, by omega, HN.out⟩
          case measure => simp [intOf]; omega
        · have d39 : ((c.toNat : Int) == 39) = false := by rw [beq_eq_false_iff_ne]; omega
          have d92 : ((c.toNat : Int) == 92) = false := by rw [beq_eq_false_iff_ne]; omega
          have i1 : ¬ (c.toNat : Int) < 32 := by omega
          have i2 : (126 : Int) < (c.toNat : Int) := by omega
          have hadd : Hid (quoteB c = [92, 120] ++ ([hexD (c.toNat / 16)] ++ [hexD (c.toNat % 16)])) := Lib.hid (by unfold LexPlain.quoteB; rw [if_neg h39, if_pos (by omega)]; rfl)
          have hc256 : c.toNat < 256 := c.toNat_lt
          clear h39 hx
          have CW := Lib.hid (writeString_fk w.heap.size w.heap.size _ ⟨#[92, 120]⟩ wr HQ.out.1 (by simp; omega) (by decide) HQ.out.2.1.size)
          go_wp2_with fail
          refine CW.out.mono ?_
          rintro e w2 ⟨rfl, hi2, hb2, hf2⟩
          have CW2 := Lib.hid (writeByte_fk w.heap.size w.heap.size _ (hexD (c.toNat / 16)) w2 hi2 (by simp; omega) (Nat.le_trans HQ.out.2.1.size hb2.size))
          have HB2 := Lib.hid hb2
          have HF2 := Lib.hid hf2
          clear hi2 hb2 hf2
          go_wp2_with fail
          refine (CW2.out _ (by exact hexAtInt _ (by omega) _)).mono ?_
          rintro e w3 ⟨rfl, hi3, hb3, hf3⟩
          have CW3 := Lib.hid (writeByte_fk w.heap.size w.heap.size _ (hexD (c.toNat % 16)) w3 hi3 (by simp; omega) (Nat.le_trans HQ.out.2.1.size (Nat.le_trans HB2.out.size hb3.size)))
          have HB3 := Lib.hid (HB2.out.trans hb3)
          have HF3 := Lib.hid (HF2.out.trans hf3)
          clear hi3 hb3 hf3
          go_wp2_with fail
          refine (CW3.out _ (by exact hexAtInt _ (by omega) _)).mono ?_
          rintro e w4 ⟨rfl, hi4, hb4, hf4⟩
          have HN := Lib.hid (HQ.out.next hq1.out hadd.out (by rw [← List.append_assoc, ← List.append_assoc]; exact hi4) (HB3.out.trans hb4) (HF3.out.trans hf4))
          clear hi4 hb4 hf4
          go_wp2_with fail
          go_roundw
          case rel => exact ⟨k + 1, by go_num, by omega, HN.out⟩
          case measure => simp [intOf]; omega
      · have d39 : ((c.toNat : Int) == 39) = false := by rw [beq_eq_false_iff_ne]; omega
        have d92 : ((c.toNat : Int) == 92) = false := by rw [beq_eq_false_iff_ne]; omega
        have i1 : ¬ (c.toNat : Int) < 32 := by omega
        have i2 : ¬ (126 : Int) < (c.toNat : Int) := by omega
        have hadd : Hid (quoteB c = [c]) := Lib.hid (by unfold LexPlain.quoteB; rw [if_neg h39, if_neg hx])
        clear h39 hx
        have CW := Lib.hid (writeByte_fk w.heap.size w.heap.size _ c wr HQ.out.1 (by simp; omega) HQ.out.2.1.size)
        go_wp2_with fail
        refine (CW.out _ (by rfl)).mono ?_
        rintro e w2 ⟨rfl, hi2, hb2, hf2⟩
        have HN := Lib.hid (HQ.out.next hq1.out hadd.out hi2 hb2 hf2)
        clear hi2 hb2 hf2
        go_wp2_with fail
        go_roundw
        case rel => exact ⟨k + 1, by go_num, by omega, HN.out⟩
        case measure => simp [intOf]; omega
    · have hkk : k = s.size := by omega
      have hlen : (quoteF (s.data.toList.take k)).length ≤ 4 * s.size := by
        have := LexPlain.quoteF_le (s.data.toList.take k)
        rw [List.length_take] at this
        omega
      have CW := Lib.hid (writeByte_fk w.heap.size w.heap.size _ 39 wr HQ.out.1 (by simp; omega) HQ.out.2.1.size 39 (by rfl))
      have hfin : Hid ((39 :: quoteF (s.data.toList.take k)) ++ [39] = quoteL s.data.toList) := Lib.hid (by
        rw [hkk, List.take_of_length_le (by omega)]; rfl)
      clear hkk
      go_wp2_with fail
      refine CW.out.mono ?_
      rintro e w2 ⟨rfl, hi2, hb2, -⟩
      have CS := Lib.hid (Tryz.Builder_String_any_k w.heap.size w.heap.size _ w2 (Lib.IsBuilderF.of hi2) (Nat.le_trans HQ.out.2.1.size hb2.size))
      have HB2 := Lib.hid hb2
      clear hi2 hb2
      go_wp2_with fail
      refine CS.out.mono ?_
      rintro e w3 ⟨rfl, -, hb3, -⟩
      go_wp2_with fail
      go_returns
      exact ⟨ret_str hfin.out, (HQ.out.2.1.trans HB2.out).trans hb3⟩
end Go.Proofs.YteinadddmcicoaaGreatDoor
