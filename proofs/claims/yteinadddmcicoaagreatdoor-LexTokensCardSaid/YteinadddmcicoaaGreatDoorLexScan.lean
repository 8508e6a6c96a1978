/- Walks over layer 2's scanner: put. -/
import Derived.Test.YteinadddmcicoaaGreatDoorLexHex2
import Derived.Test.YteinadddmcicoaaGreatDoorLexStep
import Derived.Test.YteinadddmcicoaaGreatDoorLexNames2
import Derived.Maps.AppendAt
import Derived.Deep.AppendLies
import Derived.RegionTactic
import Derived.OwnWalk
import Derived.Laws.Rows
import Derived.Deep.RegionHeld3
import Derived.Deep.RegionLaw
import Derived.StillTactics
import Derived.Laws.Pointers
namespace Go.Proofs.YteinadddmcicoaaGreatDoor
open Go.RowKit Go.Shelf

/-- Block g is just the cells cs of element type t, none frozen. -/
def Blk (w : World) (g : Nat) (t : TypeId) (cs : Array Value) : Prop := w.heap[g]? = some (.cells cs t (0, 0))
section
variable {w w' : World} {g : Nat} {t : TypeId} {cs : Array Value}
theorem Blk.lt (h : Blk w g t cs) : g < w.heap.size := by
  rcases Nat.lt_or_ge g w.heap.size with hlt | hge
  · exact hlt
  · unfold Blk at h; rw [Array.getElem?_eq_none hge] at h; cases h
theorem Blk.cell (h : Blk w g t cs) (i : Nat) : w.cell? ⟨g, i, none⟩ = cs[i]? := cell_of_row w g i cs t (0, 0) h
theorem Blk.frozen (h : Blk w g t cs) (i : Nat) : w.frozen? ⟨g, i, none⟩ = false := by
  unfold Blk at h
  simp [World.frozen?, h]
theorem Blk.new (w : World) (t : TypeId) (cs : Array Value) : Blk (w.alloc (.cells cs t)) w.heap.size t cs := heap_alloc_new w _
theorem Blk.drew (h : Blk w g t cs) : Blk w.drew g t cs := h
theorem Blk.drewN (h : Blk w g t cs) (n : Nat) : Blk (w.drewN n) g t cs := h
theorem Blk.alloc (h : Blk w g t cs) (o : Obj) : Blk (w.alloc o) g t cs := (Below.heap_alloc w o g h.lt).trans h
theorem Blk.set_ (h : Blk w g t cs) (i : Nat) (u : Value) : Blk (w.setCell ⟨g, i, none⟩ u) g t (cs.setIfInBounds i u) := by
  unfold Blk at h ⊢
  simp [World.setCell, Array.getElem?_modify, h]
theorem Blk.far (h : Blk w g t cs) {p : Addr} (hp : g ≠ p.block) (u : Value) : Blk (w.setCell p u) g t cs := (Below.heap_setCell w p u g hp).trans h
theorem Blk.below {B : Nat} (h : Blk w g t cs) (hb : Below B w w') (hg : g < B) : Blk w' g t cs := (hb.block g hg).trans h
theorem Blk.grown {row : Option Nat} (h : Blk w g t cs) (hb : w.grownBy w' row) (hg : some g ≠ row) : Blk w' g t cs := (hb.block g h.lt hg).trans h
theorem Blk.ne_ {g' : Nat} {t' : TypeId} {cs' : Array Value} (h : Blk w g t cs) (h' : Blk w g' t' cs') (hne : t ≠ t') : g ≠ g' := by
  rintro rfl
  unfold Blk at h h'
  rw [h] at h'
  injection h' with h'
  injection h' with _ ht
  exact hne ht
theorem own_blk_ne {base : Nat} {e : TypeId} {size n : Nat} {v : Value} {xs : List Value} (h : w.ownsRow base e size v n xs) (hg : Blk w g t cs) (hne : e ≠ t) : v.ownBlock ≠ some g := by
  rcases h.2 with ⟨rfl, _⟩ | ⟨g', cap, cur, rfl, _, hh, _⟩
  · simp [Value.ownBlock]
  · intro he
    have : g' = g := by simpa [Value.ownBlock] using he
    subst this
    exact Blk.ne_ (t := e) hh hg hne rfl
end

theorem own_set_ne {w : World} {base : Nat} {e : TypeId} {size : Nat} {v : Value} {n : Nat} {xs : List Value} (h : w.ownsRow base e size v n xs) {a : Addr} (ha : v.ownBlock ≠ some a.block) (u : Value) : (w.setCell a u).ownsRow base e size v n xs := by
  obtain ⟨h1, h2⟩ := h
  refine ⟨h1, ?_⟩
  rcases h2 with h2 | ⟨g, cap, cur, hv, hg, hh, r⟩
  · exact Or.inl h2
  · refine Or.inr ⟨g, cap, cur, hv, hg, ?_, r⟩
    rw [Below.heap_setCell _ _ _ _ (by rintro rfl; exact ha (by rw [hv]; rfl))]
    exact hh

open LexPlain (Tok)
def tokCells (t : Tok) : List Value := [.int .u8 t.kind, .string ⟨t.s.toArray⟩, .int .i64 t.n, .int .i64 t.line]
def tokVal (t : Tok) : Value := .agg #[.int .u8 t.kind, .string ⟨t.s.toArray⟩, .int .i64 t.n, .int .i64 t.line]

def Scan (B b : Nat) (s : ByteArray) (line : Nat) (ts : List Tok) (bad : Bool) (w : World) : Prop :=
  B ≤ b ∧ ∃ v, Blk w b 68 #[.string s, .int .i64 line, v, .bool bad] ∧ w.ownsRow B 71 4 v ts.length (ts.flatMap tokCells)

theorem infoTok : (Tryz.prog.info? 71).map (fun i => (i.zero, i.size, i.bytes)) = some (some (.agg #[.int .u8 0, .string ⟨#[]⟩, .int .i64 0, .int .i64 0]), 4, 40) := by kernel_rfl

theorem put_end {B b : Nat} {s s' : ByteArray} {line : Nat} {ts : List Tok} {bad : Bool} {w w1 : World} {v : Value} {o1 o2 : Obj} {gg cap : Nat} {t : Tok} (hBb : B ≤ b) (hB : B ≤ w.heap.size)
    (hblk : Blk w b 68 #[.string s, .int .i64 line, v, .bool bad]) (hown : w.ownsRow B 71 4 v ts.length (ts.flatMap tokCells))
    (hown1 : w1.ownsRow B 71 4 (.slice (some ⟨gg, 0, none⟩) (ts.length + 1) cap) (ts.length + 1) (ts.flatMap tokCells ++ tokCells t)) (hgrow : ((w.alloc o1).alloc o2).drew.grownBy w1 v.ownBlock) :
    Scan B b s' line (ts ++ [t]) bad ((w1.setCell ⟨b, 2, none⟩ (.slice (some ⟨gg, 0, none⟩) (ts.length + 1) cap)).setCell ⟨b, 0, none⟩ (.string s')) ∧
    Below B w ((w1.setCell ⟨b, 2, none⟩ (.slice (some ⟨gg, 0, none⟩) (ts.length + 1) cap)).setCell ⟨b, 0, none⟩ (.string s')) := by
  have hvb : v.ownBlock ≠ some b := own_blk_ne hown hblk (by decide)
  have hb1 : Blk w1 b 68 #[.string s, .int .i64 line, v, .bool bad] := Blk.grown ((hblk.alloc o1).alloc o2).drew hgrow (Ne.symm hvb)
  have hg1 := own_blk_ne hown1 hb1 (by decide)
  refine ⟨⟨hBb, .slice (some ⟨gg, 0, none⟩) (ts.length + 1) cap, (hb1.set_ 2 _).set_ 0 _, ?_⟩, ?_⟩
  · have h := own_set_ne (own_set_ne hown1 (a := ⟨b, 2, none⟩) hg1 (.slice (some ⟨gg, 0, none⟩) (ts.length + 1) cap)) (a := ⟨b, 0, none⟩) hg1 (.string s')
    simpa using h
  · have h0 : Below B w ((w.alloc o1).alloc o2).drew := (((Below.refl B w).alloc hB _).alloc (by simp; omega) _).drew
    have h1 : Below B w w1 := h0.grown hgrow (by simp; omega) (fun k hk => (hown.lt k hk).1)
    exact (h1.setCell (p := ⟨b, 2, none⟩) hBb _).setCell (p := ⟨b, 0, none⟩) hBb _

theorem heap2 (w : World) (o1 o2 : Obj) : ((w.alloc o1).alloc o2).drew.heap[w.heap.size + 1]? = some o2 := by
  have h := heap_alloc_new (w.alloc o1) o2
  rw [World.size_alloc] at h
  exact h

set_option maxHeartbeats 1600000 in
theorem put_any (B b : Nat) (s : ByteArray) (line : Nat) (ts : List Tok) (bad : Bool) (w : World) (h : Scan B b s line ts bad w) (hB : B ≤ w.heap.size) (hl : line ≤ 1000000)
    (kv : Int) (k : Nat) (hk : kv = k) (S : ByteArray) (N L : Int) (nv : Int) (n : Nat) (hnv : nv = n) (hn : n ≤ s.size) (hs : s.size ≤ 1000000) (hts : ts.length ≤ 1000000) :
    Calls Tryz.prog 121 #[.pointer (some ⟨b, 0, none⟩), .agg #[.int .u8 kv, .string S, .int .i64 N, .int .i64 L], .int .i64 nv] w fun e w' => e = .returned (.tuple #[]) ∧ Scan B b (s.extract n s.size) line (ts ++ [⟨k, S.data.toList, N, line⟩]) bad w' ∧ Below B w w' := by
  subst hk; subst hnv
  obtain ⟨hBb, v, hblk, hown⟩ := h
  have c0 : w.cell? ⟨b, 0, none⟩ = some (.string s) := hblk.cell 0
  have c1 : w.cell? ⟨b, 1, none⟩ = some (.int .i64 line) := hblk.cell 1
  have c2 : w.cell? ⟨b, 2, none⟩ = some v := hblk.cell 2
  have c3 : w.cell? ⟨b, 3, none⟩ = some (.bool bad) := hblk.cell 3
  have f0 := hblk.frozen 0
  have f2 := hblk.frozen 2
  have hlt := hblk.lt
  have hvb : v.ownBlock ≠ some b := own_blk_ne hown hblk (by decide)
  have hvn : v.ownBlock ≠ some w.heap.size := fun e => by
    rcases hown.2 with ⟨rfl, _⟩ | ⟨g', cap, cur, rfl, _, hh, _⟩
    · simp [Value.ownBlock] at e
    · have : g' = w.heap.size := by simpa [Value.ownBlock] using e
      subst this
      rw [Array.getElem?_eq_none (Nat.le_refl _)] at hh; cases hh
  obtain ⟨i0, hi0, hz0, hz1, hz2⟩ := info_parts infoTok
  have ff1 : ∀ o, (w.alloc o).frozen? ⟨b, 2, none⟩ = false := fun o => by rw [World.frozen?_alloc_past _ _ _ hlt]; exact f2
  have ff2 : ∀ o o', ((w.alloc o).alloc o').frozen? ⟨b, 2, none⟩ = false := fun o o' => by rw [World.frozen?_alloc_past _ _ _ (by simp; omega)]; exact ff1 o
  have HOWN := Lib.hid hown
  have HBLK := Lib.hid hblk
  clear hown hblk
  go_enter Tryz.func121, Tryz.ntmps121
  go_wp2_with fail
  go_region_law
    ((refine step_append_lies _ (by rfl) _ _ _ (by rfl) B 71 i0 _ 4 40 Tryz.underlying22 hi0 hz0 hz1 hz2 rfl (by omega) v ts.length (ts.flatMap tokCells) (by rfl) ((((HOWN.out).alloc _).alloc _).drew)
        ⟨w.heap.size + 1, 0, none⟩ 1 1 [.int .u8 k, .string S, .int .i64 N, .int .i64 line] (by rfl) (by rfl) (World.news_of_block (cs := #[.int .u8 k, .string S, .int .i64 N, .int .i64 line]) (t := 71) (fr := (0, 0)) (heap2 w _ _)) (by simp [Value.oneCell'])
        (by omega) (by unfold maxLen; omega) (by omega) (by simp; omega) (w.heap.size + 1 + 1) (by simp) ?_; intro gg cap w1 hown1 hgrow hat hlt1
      have k1 : w1.cell? ⟨b, 2, none⟩ = some v := by rw [hgrow.cell_far _ (by simp; omega) (Ne.symm hvb)]; go_simp
      have k2 : w1.frozen? ⟨b, 2, none⟩ = false := by rw [hgrow.frozen_far _ (by simp; omega) (Ne.symm hvb)]; go_simp
      have k3 : w1.cell? ⟨b, 0, none⟩ = some (.string s) := by rw [hgrow.cell_far _ (by simp; omega) (Ne.symm hvb)]; go_simp
      have k4 : w1.frozen? ⟨b, 0, none⟩ = false := by rw [hgrow.frozen_far _ (by simp; omega) (Ne.symm hvb)]; go_simp))
  all_goals
    go_wp2
    go_end0
    have hE := put_end (s' := s.extract n s.size) (t := ⟨k, S.data.toList, N, line⟩) hBb hB HBLK.out HOWN.out hown1 hgrow
    exact ⟨rfl, hE.1, hE.2⟩
end Go.Proofs.YteinadddmcicoaaGreatDoor
