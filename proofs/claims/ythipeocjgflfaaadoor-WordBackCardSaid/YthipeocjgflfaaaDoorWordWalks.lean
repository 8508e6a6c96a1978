/- Walks over layer 1 (word): what word.Do, word.Text, word.Parse, the reference's Do, Text, Parse, and the statements' head 'lives' answer, in every world that holds the library's table and its two sentinels. -/
import Derived.Test.YthipeocjgflfaaaDoorRows
import Derived.Test.YthipeocjgflfaaaDoorWordPlain
import Derived.Test.YthipeocjgflfaaaDoorShelf
import Derived.WalkKit
import Derived.WalkSpells
import Derived.WalkLawsBesides
import Derived.Handy
namespace Go.Proofs.YthipeocjgflfaaaDoor
open Go.RowKit Go.Shelf

/-- THE WORLD HOLDS THE LIBRARY's TABLE AND SENTINELS. -/
structure Has (w : World) : Prop where
  tab : Lib.TabIs Tryd.prog w "internal/strconv.uint64pow10" .u64 Lib.pow10Tab
  syn : ∃ tp p, w.var? Tryd.prog "strconv.ErrSyntax" = some #[.iface tp p]
  rng : ∃ tp p, w.var? Tryd.prog "strconv.ErrRange" = some #[.iface tp p]
  size : 5 ≤ w.heap.size

theorem gTab : Tryd.prog.globalNamed "internal/strconv.uint64pow10" = some 2 := by kernel_rfl
theorem gSyn : Tryd.prog.globalNamed "strconv.ErrSyntax" = some 0 := by kernel_rfl
theorem gRng : Tryd.prog.globalNamed "strconv.ErrRange" = some 1 := by kernel_rfl

theorem Has.below {B : Nat} {w w' : World} (h : Has w) (hb : Below B w w') (hB : 5 ≤ B) : Has w' := by
  obtain ⟨t1, p1, e1⟩ := h.syn
  obtain ⟨t2, p2, e2⟩ := h.rng
  refine ⟨?_, ⟨t1, p1, var?_below hb gSyn (by omega) e1⟩, ⟨t2, p2, var?_below hb gRng (by omega) e2⟩, Nat.le_trans h.size hb.size⟩
  have := h.tab
  unfold Lib.TabIs at *
  exact var?_below hb gTab (by omega) this

theorem Has.drew {w : World} (h : Has w) : Has w.drew := h.below ((Below.refl w.heap.size w).drew) h.size
theorem Has.next {w w' : World} (h : Has w) (hb : Below w.heap.size w w') : Has w' := h.below hb h.size

set_option maxHeartbeats 400000 in
theorem formatInt (n : Int) (h0 : -9223372036854775808 ≤ n) (h1 : n ≤ 9223372036854775807) (w : World) (h : Has w) :
    Calls Tryd.prog 23 #[.int .i64 n, .int .i64 10] w fun e w' => e = .returned (.string ⟨(Lib.itoa n).toArray⟩) ∧ Below w.heap.size w w' :=
  (Tryd.strconv_FormatInt_10 n h0 h1 w h.tab).mono fun e w' ⟨he, k, os, hw⟩ => ⟨he, by
    subst hw
    refine ⟨rfl, rfl, rfl, by simp [Sort.grow, World.drewN], fun i hi => ?_⟩
    rw [Sort.heap_grow_old _ _ (by simpa using hi)]; rfl⟩

set_option maxHeartbeats 400000 in
theorem text_any (n : Int) (h0 : -9223372036854775808 ≤ n) (h1 : n ≤ 9223372036854775807) (w : World) (h : Has w) :
    Calls Tryd.prog 14 #[.int .i64 n] w fun e w' => e = .returned (.string ⟨(Lib.itoa n).toArray⟩) ∧ Below w.heap.size w w' := by
  go_enter Tryd.func14, Tryd.ntmps14
  go_wp2_with (go_at_call 23; refine (formatInt n h0 h1 _ h).mono ?_; rintro e w' ⟨rfl, hb⟩)
  go_ret
  exact ⟨rfl, hb⟩

theorem bne_of (l : List UInt8) (s : ByteArray) (h : l = s.data.toList) : (!l == s.toList) = false := by
  rw [ByteArray.toList_eq, h]; simp
theorem bne_of' (l : List UInt8) (s : ByteArray) (h : ¬ l = s.data.toList) : (!l == s.toList) = true := by
  rw [ByteArray.toList_eq]; simp [h]

/-- strconv.ParseInt at a text that spells no int64: some number, and an error that is not nil. -/
theorem parseInt_bad (s : ByteArray) (hs : s.size ≤ 281474976710656) (hv : ∀ v, Lib.parseIntB 64 s.data.toList ≠ .ok v) (w : World) (h : Has w) :
    Calls Tryd.prog 22 #[.string s, .int .i64 10, .int .i64 64] w fun e w' => ∃ x tp N, e = .returned (.tuple #[.int .i64 x, .iface tp (.pointer (some ⟨N, 0, none⟩))]) ∧ Below w.heap.size w w' := by
  obtain ⟨t1, p1, e1⟩ := h.syn
  obtain ⟨t2, p2, e2⟩ := h.rng
  rcases hx : Lib.parseIntB 64 s.data.toList with v | _ | _
  · exact absurd hx (hv v)
  · exact (Any.strconv_ParseInt_10_at64_syntax_var Tryd.laysC174 s hs hx t1 p1 w e1).mono fun e w' ⟨N, he, _, _, hb⟩ => ⟨_, _, N, he, hb⟩
  · exact (Any.strconv_ParseInt_10_at64_range_var Tryd.laysC174 s hs hx t2 p2 w e2).mono fun e w' ⟨N, he, _, _, hb⟩ => ⟨_, _, N, he, hb⟩

set_option maxHeartbeats 800000 in
theorem parse_some (s : ByteArray) (hs : s.size ≤ 281474976710656) (v : Int) (hv : WordPlain.parseW s.data.toList = some v) (w : World) (h : Has w) :
    Calls Tryd.prog 12 #[.string s] w fun e w' => e = .returned (.tuple #[.int .i64 v, .int .i64 0]) ∧ Below w.heap.size w w' := by
  obtain ⟨hi, h0, h1⟩ := WordPlain.parseW_some hv
  have hok : Lib.parseIntB 64 s.data.toList = .ok v := by
    rw [Lib.parseIntB_64, ← hi]; exact WordPlain.atoiAll_itoa v h0 h1
  have hne := bne_of _ _ hi
  clear hi hv
  go_enter Tryd.func12, Tryd.ntmps12
  go_wp2_with (go_at_call 22; refine (Tryd.strconv_ParseInt_10_at64_ok s (by omega) v hok _).mono ?_; rintro e w1 ⟨rfl, hw⟩)
  have hb1 : Below w.heap.size w w1 := by
    rcases hw with rfl | ⟨t, rfl⟩
    · exact Below.refl _ _
    · exact Lib.bytesWorld_below _ _ _
  clear hw
  go_wp2_with (go_at_call 14; refine (text_any v h0 h1 _ (h.next hb1)).mono ?_; rintro e w2 ⟨rfl, hb2⟩)
  go_ret2
  exact ⟨rfl, hb1.trans (hb2.mono hb1.size)⟩

set_option maxHeartbeats 800000 in
theorem parse_none (s : ByteArray) (hs : s.size ≤ 281474976710656) (hv : WordPlain.parseW s.data.toList = none) (w : World) (h : Has w) :
    Calls Tryd.prog 12 #[.string s] w fun e w' => e = .returned (.tuple #[.int .i64 0, .int .i64 12]) ∧ Below w.heap.size w w' := by
  unfold WordPlain.parseW at hv
  cases ha : Lib.atoiAll s.data.toList with
  | ok v =>
    rw [ha] at hv
    obtain ⟨h0, h1⟩ := Lib.atoiAll_bounds ha
    have hne : (!Lib.itoa v == s.toList) = true := by
      apply bne_of'; intro e; simp [e] at hv
    have hok : Lib.parseIntB 64 s.data.toList = .ok v := by rw [Lib.parseIntB_64]; exact ha
    clear hv ha
    go_enter Tryd.func12, Tryd.ntmps12
    go_wp2_with (go_at_call 22; refine (Tryd.strconv_ParseInt_10_at64_ok s (by omega) v hok _).mono ?_; rintro e w1 ⟨rfl, hw⟩)
    have hb1 : Below w.heap.size w w1 := by
      rcases hw with rfl | ⟨t, rfl⟩
      · exact Below.refl _ _
      · exact Lib.bytesWorld_below _ _ _
    clear hw
    go_wp2_with (go_at_call 14; refine (text_any v h0 h1 _ (h.next hb1)).mono ?_; rintro e w2 ⟨rfl, hb2⟩)
    go_ret2
    exact ⟨rfl, hb1.trans (hb2.mono hb1.size)⟩
  | _ =>
    have hok : ∀ v, Lib.parseIntB 64 s.data.toList ≠ .ok v := by rw [Lib.parseIntB_64, ha]; intro v e; cases e
    clear hv ha
    go_enter Tryd.func12, Tryd.ntmps12
    go_wp2_with (go_at_call 22; refine (parseInt_bad s hs hok _ h).mono ?_; rintro e w1 ⟨x, tp, N, rfl, hb1⟩)
    go_ret2
    exact ⟨rfl, hb1⟩
end Go.Proofs.YthipeocjgflfaaaDoor
