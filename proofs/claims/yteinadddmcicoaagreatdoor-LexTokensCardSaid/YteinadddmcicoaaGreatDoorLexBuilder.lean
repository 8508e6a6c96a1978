/- strings.Builder's WriteByte and WriteString, with a frame that reaches the rows that a conversion to bytes has made. -/
import Derived.Test.YteinadddmcicoaaGreatDoorLexTextP
import Derived.Lib.ConvBytes
namespace Go.Proofs.YteinadddmcicoaaGreatDoor
open Go.RowKit Go.Shelf

/-- Every row that bears a conversion's mark stands as it stood. -/
def FK (w w' : World) : Prop := ∀ (r : Nat) (cs : Array Value) (e : TypeId) (n : Nat), w.heap[r]? = some (.cells cs e (n, n + 1)) → w'.heap[r]? = some (.cells cs e (n, n + 1))
theorem FK.refl (w : World) : FK w w := fun _ _ _ _ h => h
theorem FK.trans {a b c : World} (h : FK a b) (k : FK b c) : FK a c := fun r cs e n x => k r cs e n (h r cs e n x)
theorem FK.alloc {a w : World} (h : FK a w) (o : Obj) : FK a (w.alloc o) := fun r cs e n x => by
  have h1 := h r cs e n x
  have hlt : r < w.heap.size := (Array.getElem?_eq_some_iff.1 h1).1
  exact (Lib.alloc_old w o r hlt).trans h1
theorem FK.drew {a w : World} (h : FK a w) : FK a w.drew := h
theorem FK.setCell {a w : World} (h : FK a w) {b : Nat} {cs : Array Value} {T : TypeId} (hb : w.heap[b]? = some (.cells cs T (0, 0))) (i : Nat) (v : Value) : FK a (w.setCell ⟨b, i, none⟩ v) := fun r cs' e n x => by
  have h1 := h r cs' e n x
  by_cases hr : r = b
  · subst hr
    rw [h1] at hb
    injection hb with hb
    injection hb with _ _ hb
    cases hb
  · rw [Below.heap_setCell _ _ _ _ hr]
    exact h1
theorem FK.grown {a w w' : World} (h : FK a w) {row : Option Nat} (hg : w.grownBy w' row) (hrow : ∀ g, row = some g → ∃ cs e, w.heap[g]? = some (.cells cs e (0, 0))) : FK a w' := fun r cs' e n x => by
  have h1 := h r cs' e n x
  have hlt : r < w.heap.size := (Array.getElem?_eq_some_iff.1 h1).1
  rw [hg.block r hlt ?_]
  · exact h1
  · intro he
    obtain ⟨cs, e2, hb⟩ := hrow r he.symm
    rw [h1] at hb
    injection hb with hb
    injection hb with _ _ hb
    cases hb
theorem own_rows {w : World} {B : Nat} {e : TypeId} {v : Value} {n : Nat} {xs : List Value} (h : w.ownsRow B e 1 v n xs) : ∀ g, v.ownBlock = some g → ∃ cs e, w.heap[g]? = some (.cells cs e (0, 0)) := by
  intro g hg
  rcases h.2 with ⟨rfl, _⟩ | ⟨g', cap, cur, rfl, _, hh, _⟩
  · simp [Value.ownBlock] at hg
  · have : g' = g := by simpa [Value.ownBlock] using hg
    subst this
    exact ⟨_, _, hh⟩

theorem copyCheck_fk (B b : Nat) (bs : List Value) (w : World) (h : Lib.IsBuilder 353 5 B b bs w) :
    Calls Tryz.prog 211 #[.pointer (some ⟨b, 0, none⟩)] w fun e w' => e = .returned (.tuple #[]) ∧ Lib.BuilderAt 353 5 B b (.pointer (some ⟨b, 0, none⟩)) bs w' ∧ Below B w w' ∧ FK w w' := by
  rcases h with h | h
  · refine (Any.Builder_copyCheck_fresh { Tryz.lays159 with } (Tryz.Builder_Extra_159).toX72 b w h.cell0 h.shape h.frozen0).mono ?_
    rintro e w' ⟨rfl, rfl⟩
    have hb := h.2
    obtain ⟨v, hv, _⟩ := hb
    exact ⟨rfl, h.used _, (Below.refl B w).setCell (p := ⟨b, 0, none⟩) h.1 _, (FK.refl w).setCell hv 0 _⟩
  · refine (Any.Builder_copyCheck_used { Tryz.lays159 with } (Tryz.Builder_Extra_159).toX72 b w h.cell0).mono ?_
    rintro e w' ⟨rfl, rfl⟩
    exact ⟨rfl, h, Below.refl B _, FK.refl _⟩

theorem infoByte : (Tryz.prog.info? 5).map (fun i => (i.zero, i.size, i.bytes)) = some (some (.int .u8 0), 1, 1) := by kernel_rfl

set_option maxHeartbeats 2000000 in
set_option maxRecDepth 100000 in
theorem writeByte_fk (B b : Nat) (acc : List UInt8) (c : UInt8) (w : World) (h : Lib.IsBuilder 353 5 B b (Lib.byteCells acc) w) (hlen : acc.length ≤ 100000000) (hBw : B ≤ w.heap.size) (cv : Int) (hc : cv = c.toNat) :
    Calls Tryz.prog 199 #[.pointer (some ⟨b, 0, none⟩), .int .u8 cv] w fun e w' => e = .returned .nilIface ∧ Lib.IsBuilder 353 5 B b (Lib.byteCells (acc ++ [c])) w' ∧ Below B w w' ∧ FK w w' := by
  subst hc
  obtain ⟨i0, hi, hz0, hz1, hz2⟩ := info_parts infoByte
  have hbl : (Lib.byteCells acc).length = acc.length := Lib.byteCells_length _
  have CC := Lib.hid (copyCheck_fk B b (Lib.byteCells acc) w h)
  clear h
  go_enter Tryz.func199, Tryz.ntmps199
  go_wp2_with fail
  refine CC.out.mono ?_
  rintro e w1 ⟨rfl, h1, hb1, hf1⟩
  obtain ⟨hB, v, hbk, hown, hne⟩ := h1
  have c0 : w1.cell? ⟨b, 0, none⟩ = some (.pointer (some ⟨b, 0, none⟩)) := by rw [Lib.cell_of_heap hbk]; rfl
  have c1 : w1.cell? ⟨b, 1, none⟩ = some v := by rw [Lib.cell_of_heap hbk]; rfl
  go_wp2_with (at_builtin; refine wpList_append_own _ rfl _ _ 351 rfl B 5 i0 (.int .u8 0) 1 1 Tryz.underlying351 hi hz0 hz1 hz2 rfl (by decide) _ _ _ rfl (hown.alloc _) ⟨w1.heap.size, 0, none⟩ 1 1 [.int .u8 c.toNat] rfl rfl ?c1 ?c2 ?c3 ?c4 ?c5 ?_)
  case c1 =>
    intro j u hj
    match j, hj with
    | 0, hj => simp at hj; subst hj; simp [Addr.add]
  case c2 => intro u hu; simp at hu; subst hu; rfl
  case c3 => unfold maxLen; omega
  case c4 => omega
  case c5 => have := hb1.size; simp; omega
  intro v' w2 hown' hgrow _
  have hlt : b < w1.heap.size := by
    rcases Nat.lt_or_ge b w1.heap.size with h' | h'
    · exact h'
    · simp [Array.getElem?_eq_none h'] at hbk
  have hb2 : w2.heap[b]? = some (.cells #[.pointer (some ⟨b, 0, none⟩), v] 353 (0, 0)) := by
    rw [hgrow.block b (by simp; omega) (fun e => hne e.symm), Lib.alloc_old w1 _ b hlt]
    exact hbk
  have d0 : w2.cell? ⟨b, 0, none⟩ = some (.pointer (some ⟨b, 0, none⟩)) := by rw [Lib.cell_of_heap hb2]; rfl
  have d1 : w2.cell? ⟨b, 1, none⟩ = some v := by rw [Lib.cell_of_heap hb2]; rfl
  have f1 : w2.frozen? ⟨b, 1, none⟩ = false := Lib.frozen_of_heap hb2 1
  obtain ⟨ao, n', cap, rfl⟩ : ∃ ao n' cap, v' = .slice ao n' cap := by
    rcases hown'.2 with ⟨hv, _⟩ | ⟨g, cap, cur, hv, _⟩
    · exact ⟨_, _, _, hv⟩
    · exact ⟨_, _, _, hv⟩
  have HF := Lib.hid ((hf1.alloc _).grown hgrow (own_rows (hown.alloc _)))
  have HB := Lib.hid ((hb1.alloc (by have := hb1.size; omega) _).grown hgrow (by have := hb1.size; simp; omega) (fun k hk => (hown.lt k hk).1))
  go_wp2_with fail
  go_returns
  refine ⟨rfl, .inr ?_, HB.out.setCell (p := ⟨b, 1, none⟩) hB _, HF.out.setCell hb2 1 _⟩
  rw [← byteCells_snoc]
  exact Lib.BuilderAt.put (T := 353) (e := 5) hB hb2 (bs' := Lib.byteCells acc ++ [.int .u8 c.toNat]) (by simpa [hbl] using hown') (by decide)

set_option maxHeartbeats 2000000 in
set_option maxRecDepth 100000 in
theorem writeString_fk (B b : Nat) (acc : List UInt8) (s : ByteArray) (w : World) (h : Lib.IsBuilder 353 5 B b (Lib.byteCells acc) w) (hlen : acc.length ≤ 100000000) (hs : s.size ≤ 100000000) (hBw : B ≤ w.heap.size) :
    Calls Tryz.prog 200 #[.pointer (some ⟨b, 0, none⟩), .string s] w fun e w' => e = .returned (.tuple #[.int .i64 s.size, .nilIface]) ∧ Lib.IsBuilder 353 5 B b (Lib.byteCells (acc ++ s.data.toList)) w' ∧ Below B w w' ∧ FK w w' := by
  obtain ⟨i0, hi, hz0, hz1, hz2⟩ := info_parts infoByte
  have hbl : (Lib.byteCells acc).length = acc.length := Lib.byteCells_length _
  have CC := Lib.hid (copyCheck_fk B b (Lib.byteCells acc) w h)
  clear h
  go_enter Tryz.func200, Tryz.ntmps200
  go_wp2_with fail
  refine CC.out.mono ?_
  rintro e w1 ⟨rfl, h1, hb1, hf1⟩
  obtain ⟨hB, v, hbk, hown, hne⟩ := h1
  have c0 : w1.cell? ⟨b, 0, none⟩ = some (.pointer (some ⟨b, 0, none⟩)) := by rw [Lib.cell_of_heap hbk]; rfl
  have c1 : w1.cell? ⟨b, 1, none⟩ = some v := by rw [Lib.cell_of_heap hbk]; rfl
  go_wp2_with (at_builtin; refine Lib.wpList_append_own_string _ rfl _ _ 351 9 rfl B 5 i0 Tryz.underlying351 Tryz.underlying9 hi hz0 hz1 hz2 _ _ _ rfl hown s rfl ?c3 ?c4 ?c5 ?_)
  case c3 => unfold maxLen; omega
  case c4 => omega
  case c5 => have := hb1.size; omega
  intro v' w2 hown' hgrow _
  have hlt : b < w1.heap.size := by
    rcases Nat.lt_or_ge b w1.heap.size with h' | h'
    · exact h'
    · simp [Array.getElem?_eq_none h'] at hbk
  have hb2 : w2.heap[b]? = some (.cells #[.pointer (some ⟨b, 0, none⟩), v] 353 (0, 0)) := by
    rw [hgrow.block b hlt (fun e => hne e.symm)]
    exact hbk
  have d0 : w2.cell? ⟨b, 0, none⟩ = some (.pointer (some ⟨b, 0, none⟩)) := by rw [Lib.cell_of_heap hb2]; rfl
  have d1 : w2.cell? ⟨b, 1, none⟩ = some v := by rw [Lib.cell_of_heap hb2]; rfl
  have f1 : w2.frozen? ⟨b, 1, none⟩ = false := Lib.frozen_of_heap hb2 1
  obtain ⟨ao, n', cap, rfl⟩ : ∃ ao n' cap, v' = .slice ao n' cap := by
    rcases hown'.2 with ⟨hv, _⟩ | ⟨g, cap, cur, hv, _⟩
    · exact ⟨_, _, _, hv⟩
    · exact ⟨_, _, _, hv⟩
  have HF := Lib.hid (hf1.grown hgrow (own_rows hown))
  have HB := Lib.hid (hb1.grown hgrow (by have := hb1.size; omega) (fun k hk => (hown.lt k hk).1))
  go_wp2_with fail
  go_returns
  refine ⟨rfl, .inr ?_, HB.out.setCell (p := ⟨b, 1, none⟩) hB _, HF.out.setCell hb2 1 _⟩
  have e1 : Lib.byteCells (acc ++ s.data.toList) = Lib.byteCells acc ++ Lib.strCells s := by simp [Lib.byteCells, Lib.strCells]
  rw [e1]
  exact Lib.BuilderAt.put (T := 353) (e := 5) hB hb2 (bs' := Lib.byteCells acc ++ Lib.strCells s) (by simpa [Lib.strCells_length, hbl] using hown') (by decide)
end Go.Proofs.YteinadddmcicoaaGreatDoor
