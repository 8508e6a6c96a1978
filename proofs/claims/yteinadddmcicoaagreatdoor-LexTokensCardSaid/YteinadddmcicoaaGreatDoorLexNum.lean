/- Walks over strconv.FormatUint at base 10. -/
import Derived.Test.YteinadddmcicoaaGreatDoorLexBase
import Derived.Lib.ItoaMem
import Derived.Lib.ItoaWalk
import Derived.Shelf.Strconv.Itoa3
namespace Go.Proofs.YteinadddmcicoaaGreatDoor
open Go.RowKit Go.Shelf Go.Sort

theorem holds_zero0 (w : World) (T : TypeId) (nd : Nat) (hs : nd ≤ 24) : Holds (fun (b : UInt8) => Value.int .u8 (b.toNat : Int)) (w.alloc (.cells Lib.zeros24 T)) w.heap.size 0 (Array.replicate nd (0 : UInt8)) := fun j hj => by
  have hj' : j < nd := by simpa using hj
  refine ⟨?_, World.frozen?_alloc_new _ _ _ _⟩
  rw [World.cell?_alloc_new, Lib.zeros24_at _ (by omega), getElem!_pos _ j hj]
  simp
theorem fin_pos0 (w : World) (o : Obj) (dk : Array UInt8) (k : Nat) : Below w.heap.size w ((putRow (fun (b : UInt8) => Value.int .u8 (b.toNat : Int)) (w.alloc o) w.heap.size 0 dk).drewN k) := by
  rw [alloc_eq_grow]
  obtain ⟨os', _, e⟩ := putRow_grow_new (fun (b : UInt8) => Value.int .u8 (b.toNat : Int)) w #[o] w.heap.size 0 dk (Nat.le_refl _)
  rw [e]
  refine ⟨rfl, rfl, rfl, by simp [Sort.grow, World.drewN], fun i hi => ?_⟩
  exact Sort.heap_grow_old _ _ hi

set_option maxHeartbeats 6400000 in
set_option maxRecDepth 100000 in
theorem inFormatUint (u : Nat) (hu64 : u < 18446744073709551616) (w : World) (htab : Lib.TabIs Tryz.prog w "internal/strconv.uint64pow10" .u64 Lib.pow10Tab) :
    Calls Tryz.prog 215 #[.int .u64 u, .int .i64 10] w fun e w' => e = .returned (.string ⟨(Lib.decDigits u).toArray⟩) ∧ Below w.heap.size w w' := by
  by_cases hs : u < 100
  · go_enter Tryz.func215, Tryz.ntmps215
    go_wp2_with (go_at_call 229; refine (Tryz.internal_strconv_small u hs _).mono ?_; rintro e w' ⟨rfl, rfl⟩)
    go_ret
    exact ⟨rfl, Below.refl _ _⟩
  · have hu1 : 1 ≤ u := by omega
    have hnd20 : Lib.nDigits u ≤ 20 := by have := Lib.numDigits_eq u hu1 hu64; split at this <;> omega
    have hb3 : Lib.nDigits u ≤ 24 := by omega
    have hal : Tryz.prog.arrayLen 379 = 24 := by kernel_rfl
    have hsl1 : ∀ W, (Instr.sliceAt 379 (.pointer (some ⟨w.heap.size, 0, none⟩)) none (some (.int .i64 (Lib.nDigits u : Int))) none).run Tryz.prog W = .ok (.slice (some ⟨w.heap.size, 0, none⟩) (Lib.nDigits u) 24) W := fun W => by
      rw [run_sliceAt_array_h W 379 ⟨w.heap.size, 0, none⟩ (by rw [hal]; kernel_rfl) .i64 (Lib.nDigits u : Int) (by omega) (by rw [hal]; omega)]
      go_simp
    have hH0 := holds_zero0 w 379 (Lib.nDigits u) (by omega)
    have hfmt := Tryz.internal_strconv_formatBase10 w.heap.size 0 24 u (Array.replicate (Lib.nDigits u) 0) (w.alloc (.cells Lib.zeros24 379)) hH0 (by rw [Array.size_replicate]; exact Lib.lt_pow_nDigits u) hu64 (by rw [Array.size_replicate]; omega)
    rw [Array.size_replicate] at hfmt
    have HH0 := Lib.hid hH0
    clear hH0 hal
    go_enter Tryz.func215, Tryz.ntmps215
    go_wp2_with (go_at_call 230; refine (Tryz.internal_strconv_numDigits u hu1 hu64 _ (Lib.tabIs_alloc htab _)).mono ?_; rintro e w' ⟨rfl, rfl⟩)
    refine hfmt.mono ?_
    rintro e w' ⟨rfl, k, v', dk, rfl, hF⟩
    have hcv : (convert 351 9 (.slice (some ⟨w.heap.size, 0, none⟩) (Lib.nDigits u) 24)).run Tryz.prog ((putRow (fun (b : UInt8) => Value.int .u8 (b.toNat : Int)) (w.alloc (.cells Lib.zeros24 379)) w.heap.size 0 dk).drewN k) = .ok (.string ⟨(Lib.decDigits u).toArray⟩) ((putRow (fun (b : UInt8) => Value.int .u8 (b.toNat : Int)) (w.alloc (.cells Lib.zeros24 379)) w.heap.size 0 dk).drewN k) := by
      have h := run_convert_bytes_back (P := Tryz.prog) ((putRow (fun (b : UInt8) => Value.int .u8 (b.toNat : Int)) (w.alloc (.cells Lib.zeros24 379)) w.heap.size 0 dk).drewN k) 351 9 5 ⟨w.heap.size, 0, none⟩ 24 (Lib.decDigits u) Tryz.underlying351 Tryz.underlying5 Tryz.underlying9 (fun j hj => by
        rw [Lib.row_is_numeral hF j hj, Lib.add_plain, World.cell?_drewN]
        exact cell?_putRow (fun (b : UInt8) => Value.int .u8 (b.toNat : Int)) _ w.heap.size 0 _ dk HH0.out (by rw [hF.size, Array.size_replicate]) j (by rw [hF.size]; rw [Lib.decDigits_length] at hj; exact hj))
      rw [Lib.decDigits_length] at h
      exact h
    go_wp2
    go_ret
    exact ⟨rfl, fin_pos0 _ _ _ _⟩

set_option maxHeartbeats 400000 in
theorem formatUint (u : Nat) (hu64 : u < 18446744073709551616) (w : World) (h : Has w) :
    Calls Tryz.prog 206 #[.int .u64 u, .int .i64 10] w fun e w' => e = .returned (.string ⟨(Lib.decDigits u).toArray⟩) ∧ Below w.heap.size w w' := by
  go_enter Tryz.func206, Tryz.ntmps206
  go_wp2_with (go_at_call 215; refine (inFormatUint u hu64 _ h.tab).mono ?_; rintro e w' ⟨rfl, hb⟩)
  go_ret
  exact ⟨rfl, hb⟩

/-- strconv.ParseUint at a text that spells no uint64: some number, and an error that is not nil. -/
theorem parseUint_bad (s : ByteArray) (hs : s.size ≤ 281474976710656) (hv : ∀ v, Lib.parseUintB 64 s.data.toList ≠ .ok v) (w : World) (h : Has w) :
    Calls Tryz.prog 205 #[.string s, .int .i64 10, .int .i64 64] w fun e w' => ∃ (x : Nat) (tp : TypeId) (N : Nat), x < 18446744073709551616 ∧ e = .returned (.tuple #[.int .u64 x, .iface tp (.pointer (some ⟨N, 0, none⟩))]) ∧ Below w.heap.size w w' := by
  obtain ⟨t1, p1, e1⟩ := h.syn
  obtain ⟨t2, p2, e2⟩ := h.rng
  rcases hx : Lib.parseUintB 64 s.data.toList with v | _ | _
  · exact absurd hx (hv v)
  · exact (Any.strconv_ParseUint_10_at64_syntax_var Tryz.laysPu14 s hs hx t1 p1 w e1).mono fun e w' ⟨N, he, _, _, hb⟩ => ⟨0, _, N, by omega, he, hb⟩
  · exact (Any.strconv_ParseUint_10_at64_range_var Tryz.laysPu14 s hs hx t2 p2 w e2).mono fun e w' ⟨N, he, _, _, hb⟩ => ⟨18446744073709551615, _, N, by omega, he, hb⟩
theorem parseUint_ok (s : ByteArray) (hs : s.size ≤ 281474976710656) (u : Nat) (hu : Lib.parseUintB 64 s.data.toList = .ok u) (w : World) :
    Calls Tryz.prog 205 #[.string s, .int .i64 10, .int .i64 64] w fun e w' => e = .returned (.tuple #[.int .u64 u, .nilIface]) ∧ Below w.heap.size w w' :=
  (Tryz.strconv_ParseUint_10_at64_ok s (by omega) u hu w).mono fun e w' ⟨he, hw⟩ => ⟨he, by
    rcases hw with rfl | hw
    · exact Below.refl _ _
    · rw [hw]; exact Lib.bytesWorld_below _ _ _⟩
end Go.Proofs.YteinadddmcicoaaGreatDoor
