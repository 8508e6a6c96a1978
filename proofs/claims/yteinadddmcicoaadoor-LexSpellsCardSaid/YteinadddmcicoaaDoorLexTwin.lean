/- Walks over lists of tokens: TwinTokens. -/
import Derived.Test.YteinadddmcicoaaDoorLexLists
import Derived.Laws.MakeOwn
import Derived.Laws.CopyRow
namespace Go.Proofs.YteinadddmcicoaaDoor
open Go.RowKit Go.Shelf
open LexPlain (Tok)

theorem copy4 {P : Program} (w : World) (dT sT ty elem : TypeId) (g dLen dCap : Nat) (a : Addr) (sLen sCap : Nat) (cur : Array Value) (t : TypeId) (cs : List Value)
    (hu : P.underlying dT = some (.slice elem)) (hs : (P.info? elem).map (·.size) = some 4)
    (hg : w.heap[g]? = some (.cells cur t (0, 0))) (hn : cs.length = Nat.min sLen dLen * 4)
    (hsrc : ∀ j v, cs[j]? = some v → w.cell? (a.add j) = some v) (hfit : cs.length ≤ cur.size) (h1 : ∀ v ∈ cs, v.oneCell' = true) :
    (Builtin.copy_ #[dT, sT] ty #[.slice (some ⟨g, 0, none⟩) dLen dCap, .slice (some a) sLen sCap]).run P w =
      .ok (goInt (Nat.min sLen dLen)) (w.setRow g (cs ++ cur.toList.drop cs.length).toArray) := by
  have hl := run_loadCells_list (P := P) w a cs hsrc
  have hst := run_storeCells_at P g 0 t cs 0 cur w hg (by simpa using hfit) h1
  cases hq : P.info? elem with
  | none => simp [hq] at hs
  | some i =>
    have hi : i.size = 4 := by simpa [hq] using hs
    simp [Builtin.copy_, run_underlying hu, Builtin.lenOf, Builtin.firstCells, sizeOf, typeInfo, hq, hi, ← hn, hl, hst]

theorem wpList_copy_run {P : Program} {w w' : World} {ops : Array Oper} {rest : List Oper} {o : Oper} {a : Act} {Q : Exit → Act → World → Prop} (hgd : o.guard = none) (d s : Operand) (dT sT : TypeId)
    (ho : o.op = .call { callee := .builtin .copy, args := #[d, s], argTypes := #[dT, sT] }) (vd vs m : Value) (hd : a.eval d = vd) (hs : a.eval s = vs)
    (hr : (Builtin.copy_ #[dT, sT] o.type #[vd, vs]).run P w = .ok m w') (h : wpList P ops Q rest (a.put o.dst m) w') : wpList P ops Q (o :: rest) a w := by
  refine wpList_plain hgd fun K hK => ?_
  unfold Oper.wp execOp
  simp only [ho, resolve, invoke, builtin, Sem.run_bind, Sem.run_pure, Result.andThen_ok, List.map_toArray, List.map_cons, List.map_nil, hs, hd, hr]
  exact hK _ _ h

/-- Block g is a row of tokens whose first cells are xs, with room for m cells in all. -/
def RowOf (w : World) (g : Nat) (xs : List Value) (m : Nat) : Prop := ∃ cur : Array Value, w.heap[g]? = some (.cells cur 31 (0, 0)) ∧ cur.size = m ∧ cur.toList.take xs.length = xs
theorem RowOf.set {w : World} {g m : Nat} {xs : List Value} (h : RowOf w g xs m) (j : Nat) (hj : xs.length ≤ j) (v : Value) : RowOf (w.setCell ⟨g, j, none⟩ v) g xs m := by
  obtain ⟨cur, h1, h2, h3⟩ := h
  refine ⟨cur.setIfInBounds j v, by simp [World.setCell, Array.getElem?_modify, h1], by simpa using h2, ?_⟩
  rw [Array.toList_setIfInBounds, List.take_set_of_le hj]
  exact h3
theorem RowOf.below {w w' : World} {g m : Nat} {xs : List Value} (h : RowOf w g xs m) (hb : Below w.heap.size w w') : RowOf w' g xs m := by
  obtain ⟨cur, h1, h2, h3⟩ := h
  have hlt : g < w.heap.size := (Array.getElem?_eq_some_iff.1 h1).1
  exact ⟨cur, (hb.block g hlt).trans h1, h2, h3⟩
theorem RowOf.cell {w : World} {g m : Nat} {xs : List Value} (h : RowOf w g xs m) (j : Nat) (hj : j < m) : ∃ u, w.cell? ⟨g, j, none⟩ = some u := by
  obtain ⟨cur, h1, h2, h3⟩ := h
  exact ⟨cur[j], by rw [cell_of_row w g j cur _ _ h1]; simp⟩
theorem RowOf.frozen {w : World} {g m : Nat} {xs : List Value} (h : RowOf w g xs m) (j : Nat) : w.frozen? ⟨g, j, none⟩ = false := by
  obtain ⟨cur, h1, h2, h3⟩ := h
  simp [World.frozen?, h1]
theorem RowOf.owns {w : World} {g B n cap : Nat} {xs : List Value} (h : RowOf w g xs (cap * 4)) (hB : B ≤ g) (hx : xs.length = n * 4) (hn : n ≤ cap) (hc : cap ≤ maxLen) : w.ownsRow B 31 4 (.slice (some ⟨g, 0, none⟩) n cap) n xs := by
  obtain ⟨cur, h1, h2, h3⟩ := h
  exact ⟨hx, .inr ⟨g, cap, cur, rfl, hB, h1, hn, hc, h2, by rw [← hx]; exact h3⟩⟩

theorem one_cells (ts : List Tok) : ∀ v ∈ ts.flatMap tokCells, v.oneCell' = true := by
  intro v hv
  obtain ⟨t, _, ht⟩ := List.mem_flatMap.1 hv
  simp [tokCells] at ht
  rcases ht with rfl | rfl | rfl | rfl <;> rfl
theorem len4 (ts : List Tok) : (ts.flatMap tokCells).length = ts.length * 4 := by
  induction ts with
  | nil => rfl
  | cons t ts ih => simp [List.flatMap_cons, ih, tokCells]; omega

theorem copy_twin {B n cap : Nat} {a : Option Addr} (ts : List Tok) (hn : n = ts.length) (w : World) (h1 : w.ownsRow B 31 4 (.slice a n cap) ts.length (ts.flatMap tokCells)) (C0 : Array Value) (hC : C0.size = (n + 2) * 4) (ty : TypeId) :
    ∃ W2, (Builtin.copy_ #[25, 25] ty #[.slice (some ⟨w.heap.size, 0, none⟩) n (n + 2), .slice a n cap]).run Tryd.prog (w.alloc (.cells C0 31)) = .ok (goInt n) W2 ∧ RowOf W2 w.heap.size (ts.flatMap tokCells) ((n + 2) * 4) ∧ Below w.heap.size w W2 ∧ W2.heap.size = w.heap.size + 1 := by
  have hsz : (Tryd.prog.info? 31).map (·.size) = some 4 := by kernel_rfl
  have hl4 := len4 ts
  rcases h1.2 with ⟨hv, h0⟩ | ⟨g', cap', cur, hv, _, hh, _⟩
  · injection hv with e1 e2 e3
    subst e1; subst e3
    have e0 : n = 0 := e2
    have hx : ts = [] := List.eq_nil_of_length_eq_zero (by omega)
    subst hx
    subst e0
    refine ⟨_, run_copy_nil (P := Tryd.prog) _ 25 25 ty 31 _ _ _ Tryd.underlying25 (by rw [hsz]; rfl), ⟨C0, heap_alloc_new w _, hC, by simp⟩, (Below.refl _ w).alloc (Nat.le_refl _) _, by simp⟩
  · injection hv with e1 e2 e3
    subst e1
    have hc := World.ownsRow.cells h1 (g := g') rfl
    have hlt : g' < w.heap.size := (Array.getElem?_eq_some_iff.1 hh).1
    have hmin : Nat.min n n = n := Nat.min_self n
    have hr := copy4 (P := Tryd.prog) (w.alloc (.cells C0 31)) 25 25 ty 31 w.heap.size n (n + 2) ⟨g', 0, none⟩ n cap C0 31 (ts.flatMap tokCells) Tryd.underlying25 hsz (heap_alloc_new w _) (by rw [hmin]; omega)
      (fun j u hj => by
        have h2 := hc j u hj
        rw [World.cell?_alloc_lt]
        · exact h2
        · unfold Addr.add; split <;> exact hlt) (by omega) (one_cells ts)
    rw [hmin] at hr
    refine ⟨_, hr, ⟨_, setRow_heap _ _ _ _ _ _ (heap_alloc_new w _), ?_, ?_⟩, ?_, ?_⟩
    · simp only [List.size_toArray, List.length_append, List.length_drop, Array.length_toList]; omega
    · simp
    · have hb := (Below.refl w.heap.size w).alloc (Nat.le_refl _) (.cells C0 31)
      exact ⟨rfl, rfl, rfl, by simp, fun k hk => (setRow_other _ _ k _ (by omega)).trans (hb.block k hk)⟩
    · simp

set_option maxHeartbeats 3200000 in
set_option maxRecDepth 100000 in
theorem twin_any {B : Nat} {v : Value} (ts : List Tok) (hlen : ts.length ≤ 1000000) (w : World) (h1 : w.ownsRow B 31 4 v ts.length (ts.flatMap tokCells)) :
    Calls Tryd.prog 18 #[v] w fun e w' => (∃ g, e = .returned (.slice (some ⟨g, 0, none⟩) ts.length (ts.length + 2)) ∧ w.heap.size ≤ g ∧ RowOf w' g (ts.flatMap tokCells) ((ts.length + 2) * 4)) ∧ Below w.heap.size w w' := by
  obtain ⟨i0, hi0, hz0, hz1, hz2⟩ := info_parts infoTok
  obtain ⟨n, hn⟩ : ∃ n, n = ts.length := ⟨_, rfl⟩
  have hmk := run_make (P := Tryd.prog) w 25 31 i0 _ Tryd.underlying25 hi0 hz0 .i64 .i64 (n : Int) ((n : Int) + 2) (by omega) (by omega) (by rw [hz2]; omega) (by omega)
  have e1 : ((n : Int) + 2).toNat = n + 2 := by omega
  rw [Int.toNat_natCast, e1, hz1] at hmk
  generalize hC0 : madeCells (Value.agg #[.int .u8 0, .string ⟨#[]⟩, .int .i64 0, .int .i64 0]).cells ((n + 2) * 4) = C0 at hmk
  have hCs : C0.size = (n + 2) * 4 := by rw [← hC0]; exact size_madeCells _ _
  obtain ⟨a, cap, rfl⟩ := own_form h1
  have HMK := hmk
  have h1' : w.ownsRow B 31 4 (.slice a n cap) ts.length (ts.flatMap tokCells) := by rw [hn]; exact h1
  have HCP := Lib.hid (fun ty => copy_twin ts hn w h1' C0 hCs ty)
  have hl4 := Lib.hid (len4 ts)
  have hnl : n ≤ 1000000 := by omega
  rw [← hn]
  have HN := Lib.hid hn
  clear hn h1 h1' hC0 hCs hmk hlen
  obtain ⟨W2, hcp, hrow, hbw, hsz2⟩ := HCP.out 3
  have HROW := Lib.hid hrow
  have HBW := Lib.hid hbw
  have hgl : w.heap.size < W2.heap.size := by omega
  clear hrow hbw HCP hsz2
  go_enter Tryd.func18, Tryd.ntmps18
  go_wp2_with fail
  go_loopw [5] (fun vi wr => ∃ k : Nat, vi = .int .i64 k ∧ n ≤ k ∧ k ≤ n + 2 ∧ w.heap.size < wr.heap.size ∧ Hid (RowOf wr w.heap.size (ts.flatMap tokCells) ((n + 2) * 4) ∧ Below w.heap.size w wr)) (fun vi _ => n + 2 - (intOf vi).toNat)
  case atStart => exact ⟨n, rfl, by omega, by omega, hgl, Lib.hid ⟨HROW.out, HBW.out⟩⟩
  case round =>
    obtain ⟨k, rfl, hk1, hk2, hgw, hr⟩ := hrel
    rename_i wr
    by_cases hkn : k < n + 2
    · have CM := Lib.hid (mark_any k (by omega) wr)
      have i1 : (k : Int) < (n : Int) + 2 := by omega
      go_wp2_with fail
      refine CM.out.mono ?_
      rintro e w1 ⟨rfl, hb1⟩
      have HR1 := Lib.hid (hr.out.1.below hb1)
      have HB1 := Lib.hid (hr.out.2.trans (hb1.mono hr.out.2.size))
      have hgw1 : w.heap.size < w1.heap.size := Nat.lt_of_lt_of_le hgw hb1.size
      obtain ⟨u0, hu0⟩ := HR1.out.cell (k * 4) (by omega)
      obtain ⟨u1, hu1⟩ := HR1.out.cell (k * 4 + 1) (by omega)
      obtain ⟨u2, hu2⟩ := HR1.out.cell (k * 4 + 2) (by omega)
      obtain ⟨u3, hu3⟩ := HR1.out.cell (k * 4 + 3) (by omega)
      have f0 := HR1.out.frozen (k * 4)
      have f1 := HR1.out.frozen (k * 4 + 1)
      have f2 := HR1.out.frozen (k * 4 + 2)
      have f3 := HR1.out.frozen (k * 4 + 3)
      clear hb1
      have hj : Hid ((ts.flatMap tokCells).length ≤ k * 4) := Lib.hid (by rw [hl4.out, ← HN.out]; omega)
      go_wp2_with fail
      go_roundw
      case rel => exact ⟨k + 1, by go_num, by omega, by omega, by simpa using hgw1, Lib.hid ⟨(((HR1.out.set _ hj.out _).set _ (Nat.le_trans hj.out (by omega)) _).set _ (Nat.le_trans hj.out (by omega)) _).set _ (Nat.le_trans hj.out (by omega)) _,
        (((HB1.out.setCell (p := ⟨w.heap.size, k * 4, none⟩) (Nat.le_refl _) _).setCell (p := ⟨w.heap.size, k * 4 + 1, none⟩) (Nat.le_refl _) _).setCell (p := ⟨w.heap.size, k * 4 + 2, none⟩) (Nat.le_refl _) _).setCell (p := ⟨w.heap.size, k * 4 + 3, none⟩) (Nat.le_refl _) _⟩⟩
      case measure => simp [intOf]; omega
    · have hkk : k = n + 2 := by omega
      go_wp2_with fail
      go_returns
      exact ⟨⟨_, rfl, Nat.le_refl _, hr.out.1⟩, hr.out.2⟩
end Go.Proofs.YteinadddmcicoaaDoor
