/- From the row's list of variables to what the walks ask of a world; a world that meets the list; the row's last step where a call leaves 'Below'. -/
import Derived.Test.YteinadddmcicoaaGreatDoorLexAlive
import Derived.Test.YteinadddmcicoaaGreatDoorCards
import Derived.Test.YteinadddmcicoaaGreatDoorTie
import Derived.ProofKit
import Derived.OpenShut
import Derived.ShutString
import Derived.Deep.DeepHandedRow
import Derived.Deep.DeepWitnessRowRef
import Derived.Deep.DeepLaidRun
import Derived.Lib.LaidTab
import Derived.Lib.LaidU8
import Derived.Lib.LaidCaseMet
import Derived.Lib.LaidIn
import Derived.Great.CaseRows
import Derived.PinnedBridge
import Derived.Shelf.Vars
import Derived.Stop.LaidErr
namespace Go.Proofs.YteinadddmcicoaaGreatDoor
open Go.ChangeShapes Go.WideShapes Go.ChangeAt Go.RowKit Go.Shelf

/-- What each law leaves. -/
def True_ (w : World) (e : Ending) (w' : World) : Prop := e = .returned (.bool true) ∧ Below w.heap.size w w'

/-- Every row of this seat lists these. -/
def small : List (String × DataW Unit) := [("math/bits.deBruijn32tab", Rows.laid_math_bits_deBruijn32tab), ("math/bits.deBruijn64tab", Rows.laid_math_bits_deBruijn64tab), ("internal/strconv.uint64pow10", Rows.laid_internal_strconv_uint64pow10), ("unicode/utf8.acceptRanges", Rows.laid_unicode_utf8_acceptRanges), ("strconv.ErrRange", Rows.laid_strconv_ErrRange), ("strconv.ErrSyntax", Rows.laid_strconv_ErrSyntax)]
def listed : List (String × DataW Unit) := small ++ [("unicode.CaseRanges", Rows.laid_unicode_CaseRanges), ("unicode/utf8.first", Rows.laid_unicode_utf8_first)]

theorem own : ownKnob Tryz.prog.godebug = none := by kernel_rfl
theorem ty0 : (Tryz.prog.globals[1]?).map (·.type) = some 355 := by kernel_rfl
theorem ty1 : (Tryz.prog.globals[2]?).map (·.type) = some 355 := by kernel_rfl
theorem ty2 : (Tryz.prog.globals[3]?).map (·.type) = some 395 := by kernel_rfl
theorem cellsTab : Tryz.prog.cellsOf 395 = 20 := by kernel_rfl
theorem cellsU64 : Tryz.prog.cellsOf 83 = 1 := by kernel_rfl
theorem cellsErr : Tryz.prog.cellsOf 410 = 1 := by kernel_rfl
theorem cellsStr : Tryz.prog.cellsOf 9 = 1 := by kernel_rfl
theorem tabSame : Rows.laid_internal_strconv_uint64pow10 = (Lib.tabData .u64 Lib.pow10Tab : DataW Unit) := by kernel_rfl
theorem accSame : Rows.laid_unicode_utf8_acceptRanges = (Lib.acceptData : DataW Unit) := by kernel_rfl
theorem star : "*" ++ "errors.errorString" = "*errors.errorString" := by decide
theorem rowErr (u : TypeId) (h : Tryz.prog.typeName? 3 u = some "*errors.errorString") : u = 408 :=
  typeName_ptr_named (nm := "errors.errorString") (by rw [star]; kernel_rfl) (by kernel_rfl) (by decide) u (by rw [star]; exact h)
theorem maxlen_any (w : World) (h : w.ShapedOpen Tryz.prog) : ∃ m, w.cell? ⟨0, 0, none⟩ = some (.int .i64 m) :=
  Go.Proofs.cell_of_shapedOpen_int (zero := #[.int .i64 0]) (t := 3) h (of_decide_eq_true (by kernel_rfl)) (by kernel_rfl) rfl (by kernel_rfl) (by kernel_rfl) Tryz.underlying3

/-- WHAT THE ROW's LIST GIVES. -/
theorem has_of_laid {W : World} (h : laidMetH Tryz.prog listed W) (hsh : W.ShapedOpen Tryz.prog) : Has W := by
  have h0 : laidMet Tryz.prog listed W := h
  have h1 := h0.tail.tail
  have ht : laidMet Tryz.prog (("internal/strconv.uint64pow10", (Lib.tabData .u64 Lib.pow10Tab : DataW Unit)) :: [("unicode/utf8.acceptRanges", Rows.laid_unicode_utf8_acceptRanges), ("strconv.ErrRange", Rows.laid_strconv_ErrRange), ("strconv.ErrSyntax", Rows.laid_strconv_ErrSyntax), ("unicode.CaseRanges", Rows.laid_unicode_CaseRanges), ("unicode/utf8.first", Rows.laid_unicode_utf8_first)]) W := by
    rw [← tabSame]; exact h1
  obtain ⟨a1, s1, e1, -, -, -⟩ := laid_sentinel h1.tail.tail gRng ty1 Tryz.underlying355 rowErr Tryz.underlying408 Tryz.underlying410 rfl rfl Tryz.underlying9 cellsErr cellsStr
  obtain ⟨a2, s2, e2, -, -, -⟩ := laid_sentinel h1.tail.tail.tail gSyn ty0 Tryz.underlying355 rowErr Tryz.underlying408 Tryz.underlying410 rfl rfl Tryz.underlying9 cellsErr cellsStr
  have r1 := Lib.laidMet.reads h0 (n := "unicode.CaseRanges") (d := Rows.laid_unicode_CaseRanges) (.tail _ (.tail _ (.tail _ (.tail _ (.tail _ (.tail _ (.head _)))))))
  have r2 := Lib.laidMet.reads h0 (n := "unicode/utf8.first") (d := Rows.laid_unicode_utf8_first) (.tail _ (.tail _ (.tail _ (.tail _ (.tail _ (.tail _ (.tail _ (.head _))))))))
  have r3 := Lib.laidMet.reads h0 (n := "unicode/utf8.acceptRanges") (d := Rows.laid_unicode_utf8_acceptRanges) (.tail _ (.tail _ (.tail _ (.head _))))
  rw [show Rows.laid_unicode_CaseRanges = Lib.caseData from Go.Pinned.caseRanges_eq] at r1
  rw [show Rows.laid_unicode_utf8_first = Lib.firstData from Go.Pinned.utf8First_eq] at r2
  rw [accSame] at r3
  have hcase : Lib.CaseVar 4 Lib.caseA W := caseVar_of_reads (ρ := Tryz.lays159_ren) { Tryz.lays159 with } Tryz.lays159.t206 ⟨by kernel_rfl, by kernel_rfl, by kernel_rfl, by kernel_rfl, by kernel_rfl, by kernel_rfl⟩ r1
  have hu8 : Lib.Utf8Tabs 5 6 W := utf8Tabs_of_reads (ρ := Tryz.lays159_ren) { Tryz.lays159 with } ⟨by kernel_rfl, by kernel_rfl, by kernel_rfl, by kernel_rfl, by kernel_rfl, by kernel_rfl, by kernel_rfl⟩ r2 r3
  have hm : laidMet Tryz.prog [("math/bits.deBruijn64tab", Rows.laid_math_bits_deBruijn64tab), ("internal/strconv.uint64pow10", Rows.laid_internal_strconv_uint64pow10), ("unicode/utf8.acceptRanges", Rows.laid_unicode_utf8_acceptRanges), ("strconv.ErrRange", Rows.laid_strconv_ErrRange), ("strconv.ErrSyntax", Rows.laid_strconv_ErrSyntax), ("unicode.CaseRanges", Rows.laid_unicode_CaseRanges), ("unicode/utf8.first", Rows.laid_unicode_utf8_first)] W := h0.tail
  obtain ⟨ps, ⟨g, t, cs, f, p, q, hg, ht', hv, -⟩, -⟩ := hm
  have hg4 : Tryz.prog.globalNamed "math/bits.deBruijn64tab" = some 8 := by kernel_rfl
  refine ⟨maxlen_any W hsh, Lib.tabIs_of_head gTab ty2 Tryz.underlying395 Tryz.underlying83 cellsU64 cellsTab ht, ⟨_, _, e2⟩, ⟨_, _, e1⟩, hcase, hu8, ?_⟩
  unfold World.var? at hv
  rw [hg4] at hv
  simp only [Option.bind_some] at hv
  rcases Nat.lt_or_ge 8 W.heap.size with hl | hl
  · omega
  · rw [Array.getElem?_eq_none hl] at hv; simp at hv

/-! ### A world that meets the list -/
noncomputable def low : Nat := (World.holding Tryz.prog default ⟨#[], #[], []⟩).heap.size
noncomputable def cellsOfTab (d : DataW Unit) : Array Value :=
  match d with
  | .agg l => (l.map fun x => match x with | .lit (.int k z) => Value.int k z | _ => undef).toArray
  | _ => #[]
noncomputable def laidWorld (os : Os) : World :=
  let w0 := World.holding Tryz.prog os ⟨#[.cells #[.string ⟨#[105, 110, 118, 97, 108, 105, 100, 32, 115, 121, 110, 116, 97, 120]⟩] 410, .cells #[.string ⟨#[118, 97, 108, 117, 101, 32, 111, 117, 116, 32, 111, 102, 32, 114, 97, 110, 103, 101]⟩] 410, .cells (Lib.caseT.flatMap Lib.cells5).toArray (Tryz.lays159_ren.t 208)], #[], []⟩
  let put (h : Array Obj) (g : Nat) (cs : Array Value) : Array Obj := h.modify g fun
      | .cells _ t frozen => .cells cs t frozen
      | o => o
  { w0 with heap := put (put (put (put (put (put (put (put w0.heap 1 #[.iface 408 (.pointer (some ⟨low, 0, none⟩))]) 2 #[.iface 408 (.pointer (some ⟨low + 1, 0, none⟩))])
      3 (cellsOfTab Rows.laid_internal_strconv_uint64pow10)) 7 (cellsOfTab Rows.laid_math_bits_deBruijn32tab)) 8 (cellsOfTab Rows.laid_math_bits_deBruijn64tab))
      5 (Lib.firstTab.map fun z => Value.int .u8 z).toArray) 6 ((List.range 16).flatMap fun i => [Value.int .u8 (Lib.accLo i), Value.int .u8 (Lib.accHi i)]).toArray) 4 #[.slice (some ⟨low + 2, 0, none⟩) 336 336] }
theorem cty : Great.CTypes Tryz.prog (Tryz.lays159_ren.t 162) (Tryz.lays159_ren.t 208) (Tryz.lays159_ren.t 206) (Tryz.lays159_ren.t 51) (Tryz.lays159_ren.t 21) := ⟨by kernel_rfl, by kernel_rfl, by kernel_rfl, by kernel_rfl, by kernel_rfl, by kernel_rfl, by kernel_rfl, by kernel_rfl, by kernel_rfl⟩
theorem laid_met (os : Os) (args : Array Value) : laidMet Tryz.prog listed ((laidWorld os).forCall (fun _ _ => 0) ⟨#[], args, []⟩).memory := by
  have p1 : LaidIn Tryz.prog ((laidWorld os).forCall (fun _ _ => 0) ⟨#[], args, []⟩).memory small [1, 2, 3, 6, 7, 8, low, low + 1] :=
    LaidIn.of_run _ 8 (by kernel_rfl) (by kernel_rfl) (by kernel_rfl) (by kernel_rfl)
  have p2 : LaidIn Tryz.prog ((laidWorld os).forCall (fun _ _ => 0) ⟨#[], args, []⟩).memory [("unicode.CaseRanges", .slice (Lib.caseT.map Lib.rowData) [])] [4, low + 2] :=
    Great.laidIn_case cty (tg := Tryz.lays159_ren.t 162) (tb := Tryz.lays159_ren.t 208) Lib.caseT (by kernel_rfl) (by kernel_rfl) (Nat.le_of_ble_eq_true (by kernel_rfl)) Lib.rowsWf (by kernel_rfl) (by kernel_rfl) (Nat.ne_of_beq_eq_false (by kernel_rfl))
  have p3 : LaidIn Tryz.prog ((laidWorld os).forCall (fun _ _ => 0) ⟨#[], args, []⟩).memory [("unicode/utf8.first", Lib.firstData)] [5] :=
    LaidIn.of_run _ 8 (by kernel_rfl) (by kernel_rfl) (by kernel_rfl) (by kernel_rfl)
  have h := (p1.append (p2.append p3 (by kernel_rfl)) (by kernel_rfl)).met
  unfold listed
  rw [show Rows.laid_unicode_CaseRanges = Lib.caseData from Go.Pinned.caseRanges_eq, show Rows.laid_unicode_utf8_first = Lib.firstData from Go.Pinned.utf8First_eq]
  exact h

/-! ### The row's last step where the call leaves 'Below' -/
section
variable {H : Type} {enc : TypeId × Value → H} {P : Program}
theorem post_of_below {f : Func} {s : ChangeSpec} {apart fresh handsOn again : Bool} {W W' : World} {args : Array Value} {v : Value} {ds gs : List (DataW H)} {before pa pv : List MemPlace}
    (hW : DataW.Whole enc P f.params.toList s.vars apart W args.toList ds gs before)
    (hres : ∀ (b : Nat) (sp : Nat → Bool) (hd : Bool), DataW.TrodAll enc P W' b sp hd f.resultTypes.toList (v.resultList f.resultTypes.size) (s.fn H (ds ++ gs)).results [])
    (hargs : ∀ sp : Nat → Bool, (∀ p ∈ before, sp p.block = true) → DataW.TrodAll enc P W' 0 sp true f.params.toList args.toList (s.fn H (ds ++ gs)).args pa)
    (hvars : ∀ sp : Nat → Bool, (∀ p ∈ before, sp p.block = true) → DataW.TrodVars enc P W' sp s.vars (s.fn H (ds ++ gs)).vars pv)
    (hps : before = pa ++ pv) (hb : Below W.heap.size W W')
    (hok : ∀ (j : Nat) (t : TypeId) (r : Value), f.resultTypes[j]? = some t → (v.resultList f.resultTypes.size)[j]? = some r → Value.okWide P W' .any 0 t r) :
    s.post enc P f apart fresh handsOn again W args v W' := by
  have hlt : ∀ p ∈ before, p.block < W.heap.size := fun p hp => hW.lt p hp
  have hold : ∀ p ∈ before, (fun b => decide (b < W.heap.size)) p.block = true := fun p hp => by simpa using hlt p hp
  refine ⟨ds, gs, before, [], pa, pv, hW, hres _ _ _, hargs _ hold, hvars _ hold, World.keptBut_mono (fun p hp => ⟨hp, ?_⟩) (hb.frame (· ∈ before)), fun _ => ?_⟩
  · rw [hps, List.mem_append] at hp
    exact Or.inr hp
  · obtain ⟨_, _, _, _, _, hz, hn⟩ := hW
    refine ⟨hok, _, _, ([] ++ pa) ++ pv, ⟨[] ++ pa, pv, trodAll_append (hargs _ (fun _ _ => rfl)) (hres _ _ _), hvars _ (fun _ _ => rfl), rfl, ?_, ?_⟩, ?_⟩
    · intro b off hp
      have hin : MemPlace.cell b off ∈ before := by rw [hps]; simpa using hp
      rw [hb.frozen (hlt _ hin)]
      exact hz b off hin
    · intro ha
      have := hn ha
      rw [hps] at this
      simpa using this
    · intro p hp _
      rw [hps]
      simpa using hp
end
end Go.Proofs.YteinadddmcicoaaGreatDoor
