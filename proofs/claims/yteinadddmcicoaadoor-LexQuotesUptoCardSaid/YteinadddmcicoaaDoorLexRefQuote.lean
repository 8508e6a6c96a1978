/- Walks over the document's Quote. -/
import Derived.Test.YteinadddmcicoaaDoorLexQuote
import Derived.Deep.AppendLies
import Derived.Deep.RegionLaw
import Derived.Laws.IdiomStrings
namespace Go.Proofs.YteinadddmcicoaaDoor
open Go.RowKit Go.Shelf
open LexPlain (quoteB quoteF quoteL hexD)

/-- What has been put into the row so far. -/
def RQ (w : World) (v : Value) (acc : List UInt8) (wr : World) : Prop := wr.ownsRow w.heap.size 5 1 v acc.length (Lib.byteCells acc) ∧ Below w.heap.size w wr

theorem byteCells_app (a b : List UInt8) : Lib.byteCells (a ++ b) = Lib.byteCells a ++ Lib.byteCells b := List.map_append
theorem RQ.grown {w wr w0 w2 : World} {v v' : Value} {acc add full : List UInt8} {m : Nat} {news : List Value} (h : RQ w v acc wr) (h0 : Below w.heap.size wr w0) (hg : w0.grownBy w2 v.ownBlock) (hown : w2.ownsRow w.heap.size 5 1 v' (acc.length + m) (Lib.byteCells acc ++ news)) (hm : m = add.length) (hn : news = Lib.byteCells add) (hf : full = acc ++ add) : RQ w v' full w2 := by
  subst hm; subst hn; subst hf
  refine ⟨?_, (h.2.trans h0).grown hg (h.2.trans h0).size (fun k hk => (h.1.lt k hk).1)⟩
  rw [byteCells_app, List.length_append]
  exact hown
theorem RQ.new (w : World) (c : UInt8) : RQ w (.slice (some ⟨w.heap.size, 0, none⟩) 1 1) [c] (w.alloc (.cells #[.int .u8 c.toNat] 5)) :=
  ⟨⟨rfl, .inr ⟨w.heap.size, 1, _, rfl, Nat.le_refl _, heap_alloc_new w _, Nat.le_refl _, by decide, rfl, rfl⟩⟩, (Below.refl _ w).alloc (Nat.le_refl _) _⟩
theorem quoteF_take {s : ByteArray} {k : Nat} (hk : k < s.size) : 39 :: quoteF (s.data.toList.take (k + 1)) = (39 :: quoteF (s.data.toList.take k)) ++ quoteB s[k] := by
  have hz : s.data.toList.length = s.size := Array.length_toList
  rw [List.take_succ_eq_append_getElem (by omega), LexPlain.quoteF_snoc]; rfl

set_option maxHeartbeats 6400000 in
set_option maxRecDepth 100000 in
theorem refQuote_any (s : ByteArray) (hs : s.size ≤ 20000000) (w : World) :
    Calls Tryd.prog 14 #[.string s] w fun e w' => e = .returned (.string ⟨(quoteL s.data.toList).toArray⟩) ∧ Below w.heap.size w w' := by
  obtain ⟨i0, hi, hz0, hz1, hz2⟩ := info_parts infoByte
  have hz : s.data.toList.length = s.size := Array.length_toList
  have HQ0 := Lib.hid (RQ.new w 39)
  go_enter Tryd.func14, Tryd.ntmps14
  go_wp2_with fail
  go_loopw [4, 5] (fun vo vi wr => ∃ k : Nat, vi = .int .i64 k ∧ k ≤ s.size ∧ Hid (RQ w vo (39 :: quoteF (s.data.toList.take k)) wr)) (fun _ vi _ => s.size - (intOf vi).toNat)
  case atStart => exact ⟨0, rfl, by omega, HQ0⟩
  case round =>
    obtain ⟨k, rfl, hk, HQ⟩ := hrel
    rename_i wr
    have hlen : (quoteF (s.data.toList.take k)).length ≤ 4 * s.size := by
      have := LexPlain.quoteF_le (s.data.toList.take k)
      rw [List.length_take] at this
      omega
    have hbl : (Lib.byteCells (39 :: quoteF (s.data.toList.take k))).length = (39 :: quoteF (s.data.toList.take k)).length := Lib.byteCells_length _
    have hal : (39 :: quoteF (s.data.toList.take k)).length ≤ 4 * s.size + 1 := by simp only [List.length_cons]; omega
    have hsz := HQ.out.2.size
    by_cases hkn : k < s.size
    · have HT := Lib.hid (quoteF_take hkn)
      clear hlen
      generalize 39 :: quoteF (s.data.toList.take k) = acc at HQ hbl hal HT
      generalize hc : s[k] = c at HT
      have hc256 : c.toNat < 256 := c.toNat_lt
      by_cases h39 : c.toNat = 39 ∨ c.toNat = 92
      · have hadd : Hid (quoteB c = [92, c]) := Lib.hid (by unfold LexPlain.quoteB; rw [if_pos (by omega)])
        rcases h39 with h39 | h39
        · have d39 : ((c.toNat : Int) == 39) = true := by rw [beq_iff_eq]; omega
          clear h39
          go_wp2_with (at_builtin; refine wpList_append_own _ rfl _ _ 41 rfl w.heap.size 5 i0 (.int .u8 0) 1 1 Tryd.underlying41 hi hz0 hz1 hz2 rfl (by decide) _ _ _ rfl (HQ.out.1.alloc _) ⟨wr.heap.size, 0, none⟩ 2 2 [.int .u8 92, .int .u8 c.toNat] rfl rfl (World.news_of_block (cs := #[.int .u8 92, .int .u8 c.toNat]) (heap_alloc_new wr _)) ?c2 ?c3 ?c4 ?c5 ?_)
          case c2 => intro u hu; simp at hu; rcases hu with rfl | rfl <;> rfl
          case c3 => unfold maxLen; omega
          case c4 => omega
          case c5 => simp; omega
          intro v' w2 hown' hgrow _
          have HN := Lib.hid (HQ.out.grown ((Below.refl _ wr).alloc hsz _) hgrow hown' (add := [92, c]) rfl rfl rfl)
          clear hown' hgrow
          go_wp2_with fail
          go_roundw
          case rel => exact ⟨k + 1, by go_num, by omega, Lib.hid (by rw [HT.out, hadd.out]; exact HN.out)⟩
          case measure => simp [intOf]; omega
        · have d39 : ((c.toNat : Int) == 39) = false := by rw [beq_eq_false_iff_ne]; omega
          have d92 : ((c.toNat : Int) == 92) = true := by rw [beq_iff_eq]; omega
          clear h39
          go_wp2_with (at_builtin; refine wpList_append_own _ rfl _ _ 41 rfl w.heap.size 5 i0 (.int .u8 0) 1 1 Tryd.underlying41 hi hz0 hz1 hz2 rfl (by decide) _ _ _ rfl (HQ.out.1.alloc _) ⟨wr.heap.size, 0, none⟩ 2 2 [.int .u8 92, .int .u8 c.toNat] rfl rfl (World.news_of_block (cs := #[.int .u8 92, .int .u8 c.toNat]) (heap_alloc_new wr _)) ?c2 ?c3 ?c4 ?c5 ?_)
          case c2 => intro u hu; simp at hu; rcases hu with rfl | rfl <;> rfl
          case c3 => unfold maxLen; omega
          case c4 => omega
          case c5 => simp; omega
          intro v' w2 hown' hgrow _
          have HN := Lib.hid (HQ.out.grown ((Below.refl _ wr).alloc hsz _) hgrow hown' (add := [92, c]) rfl rfl rfl)
          clear hown' hgrow
          go_wp2_with fail
          go_roundw
          case rel => exact ⟨k + 1, by go_num, by omega, Lib.hid (by rw [HT.out, hadd.out]; exact HN.out)⟩
          case measure => simp [intOf]; omega
      · have d39 : ((c.toNat : Int) == 39) = false := by rw [beq_eq_false_iff_ne]; omega
        have d92 : ((c.toNat : Int) == 92) = false := by rw [beq_eq_false_iff_ne]; omega
        by_cases hx : c.toNat < 32 ∨ 126 < c.toNat
        · have hadd : Hid (quoteB c = [92, 120, hexD (c.toNat / 16), hexD (c.toNat % 16)]) := Lib.hid (by unfold LexPlain.quoteB; rw [if_neg h39, if_pos (by omega)])
          clear h39
          have k1 : IntKind.u8.wrap ((c.toNat : Int) / 16) = ((c.toNat / 16 : Nat) : Int) := by rw [IntWalk.u8_in _ (by omega)]; omega
          have k2 : (c.toNat : Int).tmod 16 = ((c.toNat % 16 : Nat) : Int) := by rw [Int.tmod_eq_emod_of_nonneg (by omega)]; omega
          have j1 : ((c.toNat / 16 : Nat) : Int) < 16 := by omega
          have j2 : ((c.toNat % 16 : Nat) : Int) < 16 := by omega
          have hx16 : c.toNat / 16 < 16 := by omega
          have hy16 : c.toNat % 16 < 16 := by omega
          generalize c.toNat / 16 = x at hadd k1 j1 hx16
          generalize c.toNat % 16 = y at hadd k2 j2 hy16
          rcases hx with hx | hx
          · have i1 : ¬ (32 : Int) ≤ (c.toNat : Int) := by omega
            clear hx
            go_wp2_with fail
            go_region_law ((refine step_append_lies _ (by rfl) _ _ _ (by rfl) w.heap.size 5 i0 _ 1 1 Tryd.underlying41 hi hz0 hz1 hz2 rfl (by omega) u4 acc.length (Lib.byteCells acc) (by rfl) ((HQ.out.1.alloc _).drew) ⟨wr.heap.size, 0, none⟩ 4 4 _ (by rfl) (by rfl) (World.news_of_block (heap_alloc_new wr _)) (by intro u hu; simp at hu; rcases hu with rfl | rfl | rfl | rfl <;> rfl) (by omega) (by unfold maxLen; omega) (by omega) (by simp; omega) (wr.heap.size + 1) (by simp) ?_; intro gg cap w2 hown' hgrow _ _))
            all_goals
              have HN := Lib.hid (HQ.out.grown ((Below.refl _ wr).alloc hsz _).drew hgrow hown' (add := [92, 120, hexD x, hexD y]) rfl (by rw [← hexAt ⟨x, hx16⟩, ← hexAt ⟨y, hy16⟩]; rfl) rfl)
              clear hown' hgrow
              go_wp2_with fail
              go_roundw
            all_goals first
              | exact ⟨k + 1, by go_num, by omega, Lib.hid (by rw [HT.out, hadd.out]; exact HN.out)⟩
              | (simp [intOf]; omega)
          · have i1 : (32 : Int) ≤ (c.toNat : Int) := by omega
            have i2 : ¬ (c.toNat : Int) < 127 := by omega
            clear hx
            go_wp2_with fail
            go_region_law ((refine step_append_lies _ (by rfl) _ _ _ (by rfl) w.heap.size 5 i0 _ 1 1 Tryd.underlying41 hi hz0 hz1 hz2 rfl (by omega) u4 acc.length (Lib.byteCells acc) (by rfl) ((HQ.out.1.alloc _).drew) ⟨wr.heap.size, 0, none⟩ 4 4 _ (by rfl) (by rfl) (World.news_of_block (heap_alloc_new wr _)) (by intro u hu; simp at hu; rcases hu with rfl | rfl | rfl | rfl <;> rfl) (by omega) (by unfold maxLen; omega) (by omega) (by simp; omega) (wr.heap.size + 1) (by simp) ?_; intro gg cap w2 hown' hgrow _ _))
            all_goals
              have HN := Lib.hid (HQ.out.grown ((Below.refl _ wr).alloc hsz _).drew hgrow hown' (add := [92, 120, hexD x, hexD y]) rfl (by rw [← hexAt ⟨x, hx16⟩, ← hexAt ⟨y, hy16⟩]; rfl) rfl)
              clear hown' hgrow
              go_wp2_with fail
              go_roundw
            all_goals first
              | exact ⟨k + 1, by go_num, by omega, Lib.hid (by rw [HT.out, hadd.out]; exact HN.out)⟩
              | (simp [intOf]; omega)
        · have i1 : (32 : Int) ≤ (c.toNat : Int) := by omega
          have i2 : (c.toNat : Int) < 127 := by omega
          have hadd : Hid (quoteB c = [c]) := Lib.hid (by unfold LexPlain.quoteB; rw [if_neg h39, if_neg hx])
          clear h39 hx
          go_wp2_with (at_builtin; refine wpList_append_own _ rfl _ _ 41 rfl w.heap.size 5 i0 (.int .u8 0) 1 1 Tryd.underlying41 hi hz0 hz1 hz2 rfl (by decide) _ _ _ rfl (HQ.out.1.alloc _) ⟨wr.heap.size, 0, none⟩ 1 1 [.int .u8 c.toNat] rfl rfl (World.news_of_block (cs := #[.int .u8 c.toNat]) (heap_alloc_new wr _)) ?c2 ?c3 ?c4 ?c5 ?_)
          case c2 => intro u hu; simp at hu; subst hu; rfl
          case c3 => unfold maxLen; omega
          case c4 => omega
          case c5 => simp; omega
          intro v' w2 hown' hgrow _
          have HN := Lib.hid (HQ.out.grown ((Below.refl _ wr).alloc hsz _) hgrow hown' (add := [c]) rfl rfl rfl)
          clear hown' hgrow
          go_wp2_with fail
          go_roundw
          case rel => exact ⟨k + 1, by go_num, by omega, Lib.hid (by rw [HT.out, hadd.out]; exact HN.out)⟩
          case measure => simp [intOf]; omega
    · have hkk : k = s.size := by omega
      have hfin : Hid ((39 :: quoteF (s.data.toList.take k)) ++ [39] = quoteL s.data.toList) := Lib.hid (by
        rw [hkk, List.take_of_length_le (by omega)]; rfl)
      clear hkk hlen
      generalize 39 :: quoteF (s.data.toList.take k) = acc at HQ hbl hal hfin
      go_wp2_with (at_builtin; refine wpList_append_own _ rfl _ _ 41 rfl w.heap.size 5 i0 (.int .u8 0) 1 1 Tryd.underlying41 hi hz0 hz1 hz2 rfl (by decide) _ _ _ rfl (HQ.out.1.alloc _) ⟨wr.heap.size, 0, none⟩ 1 1 [.int .u8 39] rfl rfl (World.news_of_block (cs := #[.int .u8 39]) (heap_alloc_new wr _)) ?c2 ?c3 ?c4 ?c5 ?_)
      case c2 => intro u hu; simp at hu; subst hu; rfl
      case c3 => unfold maxLen; omega
      case c4 => omega
      case c5 => simp; omega
      intro v' w2 hown' hgrow _
      have HN : Hid (RQ w v' (quoteL s.data.toList) w2) := Lib.hid (HQ.out.grown ((Below.refl _ wr).alloc hsz _) hgrow hown' (add := [39]) rfl rfl hfin.out.symm)
      clear hown' hgrow
      obtain ⟨g, cap, rfl, hg, hlt⟩ := HN.out.1.form (by simp [quoteL])
      have hcv := run_convert_bytes_back (P := Tryd.prog) w2 41 9 5 ⟨g, 0, none⟩ cap (quoteL s.data.toList) Tryd.underlying41 Tryd.underlying5 Tryd.underlying9 (fun j hj => HN.out.1.cells (g := g) rfl j _ (by simp [Lib.byteCells, hj]))
      go_wp2_with fail
      go_returns
      exact ⟨rfl, HN.out.2⟩
end Go.Proofs.YteinadddmcicoaaDoor
