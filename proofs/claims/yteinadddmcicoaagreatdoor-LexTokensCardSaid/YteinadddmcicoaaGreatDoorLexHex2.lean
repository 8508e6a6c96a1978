/- Walks over strconv.ParseUint at base 16 and 8 bits, the public one. -/
import Derived.Test.YteinadddmcicoaaGreatDoorLexHex
namespace Go.Proofs.YteinadddmcicoaaGreatDoor
open Go.RowKit Go.Shelf

set_option maxHeartbeats 1600000 in
set_option maxRecDepth 100000 in
theorem parse16_ok (t : ByteArray) (hne : t.size ≠ 0) (hmax : t.size ≤ 1000000) (n : Nat) (hn : p16 0 t.data.toList = some n) (w : World) :
    Calls Tryz.prog 205 #[.string t, .int .i64 16, .int .i64 8] w fun e w' => e = .returned (.tuple #[.int .u64 n, .nilIface]) ∧ Below w.heap.size w w' := by
  have C := inParse16 t hne hmax
  rw [hn] at C
  have C1 := Lib.hid C
  clear C hn
  go_enter Tryz.func205, Tryz.ntmps205
  go_wp2_with (go_at_call 213; refine (C1.out _).mono ?_; rintro e w1 ⟨rfl, hw⟩)
  go_ret2
  exact ⟨rfl, Lib.bytesWorld_below _ _ _⟩

set_option maxHeartbeats 1600000 in
set_option maxRecDepth 100000 in
theorem parse16_bad (t : ByteArray) (hne : t.size ≠ 0) (hmax : t.size ≤ 1000000) (hn : p16 0 t.data.toList = none) (w : World) (h : Has w) :
    Calls Tryz.prog 205 #[.string t, .int .i64 16, .int .i64 8] w fun e w' => ∃ (x : Int) (tp : TypeId) (N : Nat), 0 ≤ x ∧ x ≤ 255 ∧ e = .returned (.tuple #[.int .u64 x, .iface tp (.pointer (some ⟨N, 0, none⟩))]) ∧ Below w.heap.size w w' := by
  have C := inParse16 t hne hmax
  rw [hn] at C
  have C1 := Lib.hid C
  clear C hn
  go_enter Tryz.func205, Tryz.ntmps205
  go_wp2_with fail
  refine (C1.out _).mono ?_
  rintro e w1 ⟨⟨x, k, hk, h0, h1, rfl⟩, hw⟩
  have hb1 : Below w.heap.size w w1 := by rw [hw]; exact Lib.bytesWorld_below _ _ _
  clear hw
  obtain ⟨t1, p1, e1⟩ := (h.next hb1).syn
  obtain ⟨t2, p2, e2⟩ := (h.next hb1).rng
  have v1 := World.var?_cell gSyn e1 0
  have v2 := World.var?_cell gRng e2 0
  have V1 : Hid (w1.cell? ⟨1, 0, none⟩ = some (.iface t1 p1)) := Lib.hid (by simpa using v1)
  have V2 : Hid (w1.cell? ⟨2, 0, none⟩ = some (.iface t2 p2)) := Lib.hid (by simpa using v2)
  clear e1 e2 v1 v2
  rcases hk with rfl | rfl
  · go_wp2_with (go_at_call 214; refine (Tryz.strconv_toError_range _ _ _ _ _ _ (by omega) V2.out (.inr ⟨_, _, rfl⟩)).mono ?_; rintro e w2 ⟨N, rfl, hN, -, hb2⟩)
    go_ret2
    exact ⟨x, _, N, h0, h1, rfl, hb1.thens hb2⟩
  · go_wp2_with (go_at_call 214; refine (Tryz.strconv_toError_syntax _ _ _ _ _ _ (by omega) V1.out (.inr ⟨_, _, rfl⟩)).mono ?_; rintro e w2 ⟨N, rfl, hN, -, hb2⟩)
    go_ret2
    exact ⟨x, _, N, h0, h1, rfl, hb1.thens hb2⟩
end Go.Proofs.YteinadddmcicoaaGreatDoor
