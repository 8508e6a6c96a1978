/- Walks over the document's text. -/
import Derived.Test.YteinadddmcicoaaGreatDoorLexRefHex
import Derived.Test.YteinadddmcicoaaGreatDoorLexBuilder
import Derived.Laws.IdiomStrings
import Derived.Laws.BytesArg
import Derived.Deep.AppendLies
namespace Go.Proofs.YteinadddmcicoaaGreatDoor
open Go.RowKit Go.Shelf
open LexPlain (textL charF)

/-- What has been put into the row so far. -/
def RQ (w : World) (v : Value) (acc : List UInt8) (wr : World) : Prop := wr.ownsRow w.heap.size 5 1 v acc.length (Lib.byteCells acc) ∧ Below w.heap.size w wr
theorem byteCells_app (a b : List UInt8) : Lib.byteCells (a ++ b) = Lib.byteCells a ++ Lib.byteCells b := List.map_append
theorem RQ.grown {w wr w0 w2 : World} {v v' : Value} {acc add full : List UInt8} {m : Nat} {news : List Value} (h : RQ w v acc wr) (h0 : Below w.heap.size wr w0) (hg : w0.grownBy w2 v.ownBlock) (hown : w2.ownsRow w.heap.size 5 1 v' (acc.length + m) (Lib.byteCells acc ++ news)) (hm : m = add.length) (hn : news = Lib.byteCells add) (hf : full = acc ++ add) : RQ w v' full w2 := by
  subst hm; subst hn; subst hf
  refine ⟨?_, (h.2.trans h0).grown hg (h.2.trans h0).size (fun k hk => (h.1.lt k hk).1)⟩
  rw [byteCells_app, List.length_append]
  exact hown
theorem RQ.below {w wr w2 : World} {v : Value} {acc : List UInt8} (h : RQ w v acc wr) (hb : Below wr.heap.size wr w2) : RQ w v acc w2 := by
  refine ⟨?_, h.2.trans (hb.mono h.2.size)⟩
  obtain ⟨h1, h2⟩ := h.1
  refine ⟨h1, ?_⟩
  rcases h2 with h2 | ⟨g, cap, cur, hv, hg, hh, r⟩
  · exact .inl h2
  · have hlt : g < wr.heap.size := (Array.getElem?_eq_some_iff.1 hh).1
    exact .inr ⟨g, cap, cur, hv, hg, (hb.block g hlt).trans hh, r⟩
theorem RQ.text {w wr : World} {v : Value} {acc : List UInt8} (h : RQ w v acc wr) : (convert 351 9 v).run Tryz.prog wr = .ok (.string ⟨acc.toArray⟩) wr := by
  rcases h.1.2 with ⟨rfl, h0⟩ | ⟨g, cap, cur, hv, hg, hh, _⟩
  · have hx : acc = [] := List.eq_nil_of_length_eq_zero h0
    subst hx
    exact run_convert_bytes_nil (P := Tryz.prog) wr 351 5 Tryz.underlying351 Tryz.underlying5 0 0 9 Tryz.underlying9
  · subst hv
    exact run_convert_bytes_back (P := Tryz.prog) wr 351 9 5 ⟨g, 0, none⟩ cap acc Tryz.underlying351 Tryz.underlying5 Tryz.underlying9 (fun j hj => h.1.cells (g := g) rfl j _ (by simp [Lib.byteCells, hj]))

/-- What text answers. -/
def TxtEnd (o : Option (List UInt8 × Nat)) (e : Ending) : Prop := e = match o with
  | some (bs, m) => .returned (.tuple #[.string ⟨bs.toArray⟩, .int .i64 (1 + m : Nat)])
  | none => .returned (.tuple #[.string ⟨#[]⟩, .int .i64 0])
theorem txtEnd_no {o : Option (List UInt8 × Nat)} (h : o = none) : TxtEnd o (.returned (.tuple #[.string ⟨#[]⟩, .int .i64 0])) := by subst h; rfl
theorem txtEnd_yes {o : Option (List UInt8 × Nat)} {bs : List UInt8} {m : Nat} {x : Int} (h : o = some (bs, m)) (hx : x = (1 + m : Nat)) : TxtEnd o (.returned (.tuple #[.string ⟨bs.toArray⟩, .int .i64 x])) := by subst h; rw [hx]; rfl

set_option maxHeartbeats 6400000 in
set_option maxRecDepth 100000 in
theorem refText_any (s : ByteArray) (hs1 : 1 ≤ s.size) (hs : s.size ≤ 1000000) (w : World) :
    Calls Tryz.prog 131 #[.string s] w fun e w' => TxtEnd (textL (s.data.toList.drop 1)) e ∧ Below w.heap.size w w' := by
  obtain ⟨i0, hi, hz0, hz1, hz2⟩ := info_parts infoByte
  obtain ⟨L, hL⟩ : ∃ L, L = s.data.toList.drop 1 := ⟨_, rfl⟩
  rw [← hL]
  have H0 : Hid (RQ w (.slice none 0 0) [] w ∧ textL L = comb [] 0 (textL (s.data.toList.drop 1))) := Lib.hid ⟨⟨World.ownsRow_nil w _ _ _, Below.refl _ _⟩, by rw [← hL]; cases textL L with | none => rfl | some x => obtain ⟨a, b⟩ := x; simp [comb]⟩
  clear hL
  go_enter Tryz.func131, Tryz.ntmps131
  go_wp2_with fail
  go_loopw [4, 5] (fun vo vi wr => ∃ (i : Nat) (acc : List UInt8), vi = .int .i64 i ∧ 1 ≤ i ∧ i ≤ s.size ∧ acc.length ≤ i ∧ Hid (RQ w vo acc wr ∧ textL L = comb acc (i - 1) (textL (s.data.toList.drop i)))) (fun _ vi _ => s.size - (intOf vi).toNat)
  case atStart => exact ⟨1, [], rfl, by omega, by omega, by simp, H0⟩
  case round =>
    obtain ⟨i, acc, rfl, hi1, his, hal, hr⟩ := hrel
    have hbl : (Lib.byteCells acc).length = acc.length := Lib.byteCells_length _
    have hsz := hr.out.1.2.size
    by_cases hin : i < s.size
    · have HDR := Lib.hid (drop_at_ s i hin)
      have hne : Hid (s.data.toList.drop i ≠ []) := Lib.hid (by rw [HDR.out]; simp)
      by_cases h39 : s[i].toNat = 39
      · have HE := Lib.hid (comb_end (by rw [← HDR.out]; exact hr.out.2) h39)
        have d1 : ((s[i].toNat : Int) == 39) = true := by rw [beq_iff_eq]; omega
        have hcv := hr.out.1.text
        clear h39
        go_wp2_with fail
        go_returns
        exact ⟨txtEnd_yes HE.out (by go_num), hr.out.1.2⟩
      have d1 : ((s[i].toNat : Int) == 39) = false := by rw [beq_eq_false_iff_ne]; omega
      have n39 : Hid (¬ ((s.data.toList.drop i).head?.map (·.toNat)) = some 39) := Lib.hid (by rw [HDR.out]; simpa using h39)
      by_cases h10 : s[i].toNat = 10
      · have HE := Lib.hid (comb_bad hr.out.2 hne.out n39.out (by rw [HDR.out]; exact charF_lf _ _ h10))
        have d2 : ((s[i].toNat : Int) == 10) = true := by rw [beq_iff_eq]; omega
        clear h39 h10
        go_wp2_with fail
        go_returns
        exact ⟨txtEnd_no HE.out, hr.out.1.2⟩
      have d2 : ((s[i].toNat : Int) == 10) = false := by rw [beq_eq_false_iff_ne]; omega
      by_cases h92 : s[i].toNat = 92
      · have d3 : ((s[i].toNat : Int) == 92) = true := by rw [beq_iff_eq]; omega
        have hxs : (s.extract i s.size).size = s.size - i := by simp
        have hx0 : (s.extract i s.size)[0]'(by omega) = s[i] := by
          have e2 := list_cons (s.extract i s.size) (by omega)
          rw [drop_extract, HDR.out] at e2
          injection e2 with e3 _
          exact e3.symm
        have CE := Lib.hid (refEscape_any (s.extract i s.size) (by omega) (by rw [hx0]; exact h92) wr)
        rw [drop_extract] at CE
        obtain ⟨o, ho⟩ : ∃ o, o = charF (s.data.toList.drop i) := ⟨_, rfl⟩
        rw [← ho] at CE
        cases o with
        | none =>
          have HE := Lib.hid (comb_bad hr.out.2 hne.out n39.out ho.symm)
          clear h39 h10 h92 ho hxs hx0
          go_wp2_with fail
          refine CE.out.mono ?_
          rintro e w1 ⟨he, hb1⟩
          obtain rfl : e = .returned (.tuple #[.int .u8 0, .int .i64 0]) := he
          have HB := Lib.hid (hr.out.1.2.trans (hb1.mono hsz))
          clear hb1
          go_wp2_with fail
          go_returns
          exact ⟨txtEnd_no HE.out, HB.out⟩
        | some x =>
          obtain ⟨b, n⟩ := x
          have hp := LexPlain.charF_pos ho.symm
          have hdl : (s.data.toList.drop i).length = s.size - i := by rw [List.length_drop, Array.length_toList]; rfl
          have hn1 : 1 ≤ n := hp.1
          have hn2 : i + n ≤ s.size := by omega
          have HE := Lib.hid (comb_step hr.out.2 hne.out n39.out ho.symm)
          have hn0 : ((n : Int) == 0) = false := by rw [beq_eq_false_iff_ne]; omega
          clear h39 h10 h92 ho hxs hx0 hp hdl
          go_wp2_with fail
          refine CE.out.mono ?_
          rintro e w1 ⟨he, hb1⟩
          obtain rfl : e = .returned (.tuple #[.int .u8 b.toNat, .int .i64 n]) := he
          have HR1 := Lib.hid (hr.out.1.below hb1)
          have hsz1 := HR1.out.2.size
          clear hb1
          go_wp2_with (at_builtin; refine wpList_append_own _ rfl _ _ 351 rfl w.heap.size 5 i0 (.int .u8 0) 1 1 Tryz.underlying351 hi hz0 hz1 hz2 rfl (by decide) _ _ _ rfl (HR1.out.1.alloc _) ⟨w1.heap.size, 0, none⟩ 1 1 [.int .u8 b.toNat] rfl rfl (World.news_of_block (cs := #[.int .u8 b.toNat]) (heap_alloc_new w1 _)) ?c2 ?c3 ?c4 ?c5 ?_)
          case c2 => intro u hu; simp at hu; subst hu; rfl
          case c3 => unfold maxLen; omega
          case c4 => omega
          case c5 => simp; omega
          intro v' w2 hown' hgrow _
          have HN := Lib.hid (HR1.out.grown ((Below.refl _ w1).alloc hsz1 _) hgrow hown' (add := [b]) rfl rfl rfl)
          clear hown' hgrow
          go_wp2_with fail
          go_roundw
          case rel => exact ⟨i + n, acc ++ [b], by go_num, by omega, by omega, by simp; omega, Lib.hid ⟨HN.out, by rw [HE.out, List.drop_drop, show i + n - 1 = i - 1 + n by omega]⟩⟩
          case measure => simp [intOf]; omega
      · have d3 : ((s[i].toNat : Int) == 92) = false := by rw [beq_eq_false_iff_ne]; omega
        have HE := Lib.hid (comb_step hr.out.2 hne.out n39.out (by rw [HDR.out]; exact charF_plain _ _ h39 h10 h92))
        clear h39 h10 h92
        go_wp2_with (at_builtin; refine wpList_append_own _ rfl _ _ 351 rfl w.heap.size 5 i0 (.int .u8 0) 1 1 Tryz.underlying351 hi hz0 hz1 hz2 rfl (by decide) _ _ _ rfl (hr.out.1.1.alloc _) ⟨wr.heap.size, 0, none⟩ 1 1 [.int .u8 s[i].toNat] rfl rfl (World.news_of_block (cs := #[.int .u8 s[i].toNat]) (heap_alloc_new wr _)) ?c2 ?c3 ?c4 ?c5 ?_)
        case c2 => intro u hu; simp at hu; subst hu; rfl
        case c3 => unfold maxLen; omega
        case c4 => omega
        case c5 => simp; omega
        intro v' w2 hown' hgrow _
        have HN := Lib.hid (hr.out.1.grown ((Below.refl _ wr).alloc hsz _) hgrow hown' (add := [s[i]]) rfl rfl rfl)
        clear hown' hgrow
        go_wp2_with fail
        go_roundw
        case rel => exact ⟨i + 1, acc ++ [s[i]], by go_num, by omega, by omega, by simp; omega, Lib.hid ⟨HN.out, by rw [HE.out, List.drop_drop, show i + 1 - 1 = i - 1 + 1 by omega]⟩⟩
        case measure => simp [intOf]; omega
    · have HE := Lib.hid (comb_nil (acc := acc) (m := i - 1) (by rw [hr.out.2, List.drop_eq_nil_of_le (by simp; omega)]))
      go_wp2_with fail
      go_returns
      exact ⟨txtEnd_no HE.out, hr.out.1.2⟩
end Go.Proofs.YteinadddmcicoaaGreatDoor
