/- Walks over strconv.ParseUint at base 16 and 8 bits. -/
import Derived.Test.YteinadddmcicoaaGreatDoorLexNum
import Derived.Lib.ConvBytes
import Derived.Lib.Walk
import Derived.Laws.Strings3
import Derived.Laws.Closers25
import Derived.Laws.Closers25b
import Derived.BigCall
import Derived.BigGuard
namespace Go.Proofs.YteinadddmcicoaaGreatDoor
open Go.RowKit Go.Shelf

/-- A hex digit's worth, capitals too. -/
def hexA (c : UInt8) : Option Nat := if 48 ≤ c.toNat ∧ c.toNat ≤ 57 then some (c.toNat - 48) else if 97 ≤ c.toNat ∧ c.toNat ≤ 102 then some (c.toNat - 87) else if 65 ≤ c.toNat ∧ c.toNat ≤ 70 then some (c.toNat - 55) else none
def p16 (acc : Nat) : List UInt8 → Option Nat
  | [] => some acc
  | c :: r => match hexA c with
    | none => none
    | some d => if 255 < acc * 16 + d then none else p16 (acc * 16 + d) r
def End16 (o : Option Nat) (w : World) (t : ByteArray) (e : Ending) (w' : World) : Prop :=
  (match o with | some n => e = .returned (.tuple #[.int .u64 n, .nilIface]) | none => ∃ x k : Int, (k = 1 ∨ k = 2) ∧ 0 ≤ x ∧ x ≤ 255 ∧ e = .returned (.tuple #[.int .u64 x, .iface 374 (.int .i64 k)])) ∧ w' = Lib.bytesWorld w 5 t
theorem end16_some {o : Option Nat} {n : Nat} {w : World} {t : ByteArray} (h : o = some n) : End16 o w t (.returned (.tuple #[.int .u64 n, .nilIface])) (Lib.bytesWorld w 5 t) := by subst h; exact ⟨rfl, rfl⟩
theorem end16_none {o : Option Nat} {x k : Int} {w : World} {t : ByteArray} (h : o = none) (hk : k = 1 ∨ k = 2) (h0 : 0 ≤ x) (h1 : x ≤ 255) : End16 o w t (.returned (.tuple #[.int .u64 x, .iface 374 (.int .i64 k)])) (Lib.bytesWorld w 5 t) := by subst h; exact ⟨⟨x, k, hk, h0, h1, rfl⟩, rfl⟩

theorem low_tab : ∀ x : Fin 256, bits .or .u8 ((x.val : Nat) : Int) 32 = ((x.val ||| 32 : Nat) : Int) := by decide +kernel
theorem low_a : ∀ x : Fin 256, 97 ≤ x.val → x.val ≤ 102 → (x.val ||| 32) = x.val := by decide +kernel
theorem low_A : ∀ x : Fin 256, 65 ≤ x.val → x.val ≤ 70 → (x.val ||| 32) = x.val + 32 := by decide +kernel
theorem low_o : ∀ x : Fin 256, ¬ (97 ≤ x.val ∧ x.val ≤ 102) → ¬ (65 ≤ x.val ∧ x.val ≤ 70) → (x.val ||| 32) < 97 ∨ 102 < (x.val ||| 32) := by decide +kernel
theorem low_le : ∀ x : Fin 256, (x.val ||| 32) ≤ 255 := by decide +kernel

theorem lower_any (c : UInt8) (w : World) : Calls Tryz.prog 223 #[.int .u8 c.toNat] w fun e w' => e = .returned (.int .u8 ((c.toNat ||| 32 : Nat) : Int)) ∧ w = w' :=
  (Tryz.internal_strconv_lower c.toNat w).mono fun e w' ⟨he, hw⟩ => ⟨by rw [he, low_tab ⟨c.toNat, c.toNat_lt⟩], hw.symm⟩

set_option maxHeartbeats 32000000 in
set_option maxRecDepth 100000 in
theorem inParse16 (t : ByteArray) (hne : t.size ≠ 0) (hmax : t.size ≤ 1000000) (w : World) :
    Calls Tryz.prog 213 #[.string t, .int .i64 16, .int .i64 8] w (End16 (p16 0 t.data.toList) w t) := by
  have hemp : t.toList.isEmpty = false := by
    rw [← decide_eq_emptyBytes]
    exact decide_eq_false (fun h => hne (by rw [h]; rfl))
  have hcv := Lib.run_convert_string_bytes (P := Tryz.prog) w 9 351 5 t (u := .string) Tryz.underlying9 Tryz.underlying351 Tryz.underlying5
  have hB : ∀ j, j < t.size → (Lib.bytesWorld w 5 t).cell? ⟨w.heap.size, j, none⟩ = some (.int .u8 (t.data.toList.getD j 0).toNat) := fun j hj => Lib.bytesWorld_cell w 5 t j hj
  have end1 := fun (n : Nat) (h : p16 0 t.data.toList = some n) => end16_some (w := w) (t := t) h
  have end2 := fun (x k : Int) (h : p16 0 t.data.toList = none) => end16_none (x := x) (k := k) (w := w) (t := t) h
  generalize hpo : p16 0 t.data.toList = po at end1 end2
  have hmv : IntKind.u64.wrap (IntKind.u64.wrap 256 - 1) = 255 := by
    rw [IntKind.wrap_u64, IntKind.wrap_u64]
    decide
  obtain ⟨bs, hL⟩ : ∃ bs, bs = t.data.toList := ⟨_, rfl⟩
  have hLn : bs.length = t.size := by rw [hL, Lib.size_eq]
  rw [← hL] at hB hpo
  clear hL
  generalize hW1 : Lib.bytesWorld w 5 t = W1 at hcv hB end1 end2
  have HW1 := Lib.hid hW1
  have E1 := Lib.hid end1
  have E2 := Lib.hid end2
  have HPO := Lib.hid hpo
  clear end1 end2 hpo hW1
  go_enter Tryz.func213, Tryz.ntmps213
  go_wp2
  go_loop [12, 13, 101] (fun vu vn vi => ∃ (k acc : Nat) (a : Int), vu = .bool false ∧ vn = .int .u64 a ∧ vi = .int .i64 k ∧ k ≤ t.size ∧ Hid (a = (acc : Int) ∧ acc ≤ 255 ∧ po = p16 acc (bs.drop k)))
    (fun _ _ vi => t.size - (intOf vi).toNat)
  case atStart => exact ⟨0, 0, 0, rfl, rfl, rfl, by omega, Lib.hid ⟨rfl, by omega, HPO.out.symm⟩⟩
  case round =>
    obtain ⟨k, acc, a, rfl, rfl, rfl, hk, hh⟩ := hrel
    obtain ⟨ha, hacc, hdec⟩ := hh.out
    clear hh
    have a0 : 0 ≤ a := by omega
    have a1 : a ≤ 255 := by omega
    by_cases hkn : k < t.size
    · have hc := hB k hkn
      have hdrop : bs.drop k = bs[k]'(by omega) :: bs.drop (k + 1) := List.drop_eq_getElem_cons (by omega)
      have hget : bs.getD k 0 = bs[k]'(by omega) := by simp [List.getD, List.getElem?_eq_getElem (show k < bs.length by omega)]
      rw [hdrop] at hdec
      rw [hget] at hc
      generalize bs[k]'(by omega) = c at hc hdec
      have hc256 : c.toNat < 256 := c.toNat_lt
      clear hB hdrop hget
      have hst : po = match hexA c with | none => none | some d => if 255 < acc * 16 + d then none else p16 (acc * 16 + d) (bs.drop (k + 1)) := hdec
      clear hdec
      by_cases hdig : 48 ≤ c.toNat ∧ c.toNat ≤ 57
      · have hx : hexA c = some (c.toNat - 48) := by unfold hexA; rw [if_pos hdig]
        rw [hx] at hst
        obtain ⟨hd0, hd1⟩ := hdig
        by_cases hov : 255 < acc * 16 + (c.toNat - 48)
        · have hN : po = none := by rw [hst]; exact if_pos hov
          have HN := Lib.hid hN
          have iov : 255 < a * 16 + ((c.toNat : Int) - 48) := by omega
          clear hst hx hN hov ha hacc
          go_wp2
          go_ret2
          exact E2.out _ _ HN.out (by omega) (by omega) (by omega)
        · have hN : po = p16 (acc * 16 + (c.toNat - 48)) (bs.drop (k + 1)) := by rw [hst]; exact if_neg hov
          have HN : Hid (a * 16 + ((c.toNat : Int) - 48) = ((acc * 16 + (c.toNat - 48) : Nat) : Int) ∧ acc * 16 + (c.toNat - 48) ≤ 255 ∧ po = p16 (acc * 16 + (c.toNat - 48)) (bs.drop (k + 1))) := Lib.hid ⟨by omega, by omega, hN⟩
          have iov : a * 16 + ((c.toNat : Int) - 48) ≤ 255 := by omega
          clear hst hx hN hov ha hacc
          go_wp2
          refine ⟨⟨k + 1, acc * 16 + (c.toNat - 48), a * 16 + ((c.toNat : Int) - 48), rfl, (by first | rfl | (congr 1; omega)), (by first | rfl | (congr 1; omega)), by omega, HN⟩, by simp [intOf]; omega⟩
      · have CL := Lib.hid (lower_any c)
        by_cases hl : 97 ≤ c.toNat ∧ c.toNat ≤ 102
        · have hx : hexA c = some (c.toNat - 87) := by unfold hexA; rw [if_neg hdig, if_pos hl]
          rw [hx] at hst
          obtain ⟨hd0, hd1⟩ := hl
          rw [low_a ⟨c.toNat, c.toNat_lt⟩ hd0 hd1] at CL
          clear hdig
          by_cases hov : 255 < acc * 16 + (c.toNat - 87)
          · have hN : po = none := by rw [hst]; exact if_pos hov
            have HN := Lib.hid hN
            have iov : 255 < a * 16 + ((c.toNat : Int) - 97 + 10) := by omega
            clear hst hx hN hov ha hacc
            go_wp2_with (go_at_call 223; refine (CL.out _).mono ?_; rintro e w' ⟨rfl, rfl⟩)
            go_ret2
            exact E2.out _ _ HN.out (by omega) (by omega) (by omega)
          · have hN : po = p16 (acc * 16 + (c.toNat - 87)) (bs.drop (k + 1)) := by rw [hst]; exact if_neg hov
            have HN : Hid (a * 16 + ((c.toNat : Int) - 97 + 10) = ((acc * 16 + (c.toNat - 87) : Nat) : Int) ∧ acc * 16 + (c.toNat - 87) ≤ 255 ∧ po = p16 (acc * 16 + (c.toNat - 87)) (bs.drop (k + 1))) := Lib.hid ⟨by omega, by omega, hN⟩
            have iov : a * 16 + ((c.toNat : Int) - 97 + 10) ≤ 255 := by omega
            clear hst hx hN hov ha hacc
            go_wp2_with (go_at_call 223; refine (CL.out _).mono ?_; rintro e w' ⟨rfl, rfl⟩)
            refine ⟨⟨k + 1, acc * 16 + (c.toNat - 87), a * 16 + ((c.toNat : Int) - 97 + 10), rfl, (by first | rfl | (congr 1; omega)), (by first | rfl | (congr 1; omega)), by omega, HN⟩, by simp [intOf]; omega⟩
        · by_cases hA : 65 ≤ c.toNat ∧ c.toNat ≤ 70
          · have hx : hexA c = some (c.toNat - 55) := by unfold hexA; rw [if_neg hdig, if_neg hl, if_pos hA]
            rw [hx] at hst
            obtain ⟨hd0, hd1⟩ := hA
            rw [low_A ⟨c.toNat, c.toNat_lt⟩ hd0 hd1] at CL
            clear hdig hl
            by_cases hov : 255 < acc * 16 + (c.toNat - 55)
            · have hN : po = none := by rw [hst]; exact if_pos hov
              have HN := Lib.hid hN
              have iov : 255 < a * 16 + ((c.toNat : Int) + 32 - 97 + 10) := by omega
              clear hst hx hN hov ha hacc
              go_wp2_with (go_at_call 223; refine (CL.out _).mono ?_; rintro e w' ⟨rfl, rfl⟩)
              go_ret2
              exact E2.out _ _ HN.out (by omega) (by omega) (by omega)
            · have hN : po = p16 (acc * 16 + (c.toNat - 55)) (bs.drop (k + 1)) := by rw [hst]; exact if_neg hov
              have HN : Hid (a * 16 + ((c.toNat : Int) + 32 - 97 + 10) = ((acc * 16 + (c.toNat - 55) : Nat) : Int) ∧ acc * 16 + (c.toNat - 55) ≤ 255 ∧ po = p16 (acc * 16 + (c.toNat - 55)) (bs.drop (k + 1))) := Lib.hid ⟨by omega, by omega, hN⟩
              have iov : a * 16 + ((c.toNat : Int) + 32 - 97 + 10) ≤ 255 := by omega
              clear hst hx hN hov ha hacc
              go_wp2_with (go_at_call 223; refine (CL.out _).mono ?_; rintro e w' ⟨rfl, rfl⟩)
              refine ⟨⟨k + 1, acc * 16 + (c.toNat - 55), a * 16 + ((c.toNat : Int) + 32 - 97 + 10), rfl, (by first | rfl | (congr 1; omega)), (by first | rfl | (congr 1; omega)), by omega, HN⟩, by simp [intOf]; omega⟩
          · have hx : hexA c = none := by unfold hexA; rw [if_neg hdig, if_neg hl, if_neg hA]
            rw [hx] at hst
            have HN := Lib.hid hst
            have lo := low_o ⟨c.toNat, c.toNat_lt⟩ hl hA
            have le := low_le ⟨c.toNat, c.toNat_lt⟩
            simp only at lo le
            generalize c.toNat ||| 32 = m at CL lo le
            clear hst hx hl hA ha hacc
            by_cases h95 : c.toNat = 95
            · have CL : Hid (∀ w, Calls Tryz.prog 223 #[.int .u8 95] w fun e w' => e = .returned (.int .u8 127) ∧ w = w') := Lib.hid (lower_any 95)
              go_wp2_with (go_at_call 223; refine (CL.out _).mono ?_; rintro e w' ⟨rfl, rfl⟩)
              all_goals (go_ret2; exact E2.out _ _ HN.out (by omega) (by omega) (by omega))
            have e95 : ((c.toNat : Int) == 95) = false := by rw [beq_eq_false_iff_ne]; omega
            clear h95
            rcases lo with lo | lo
            · go_wp2_with (go_at_call 223; refine (CL.out _).mono ?_; rintro e w' ⟨rfl, rfl⟩)
              all_goals (go_ret2; exact E2.out _ _ HN.out (by omega) (by omega) (by omega))
            · by_cases hm : m ≤ 122
              · go_wp2_with (go_at_call 223; refine (CL.out _).mono ?_; rintro e w' ⟨rfl, rfl⟩)
                all_goals (go_ret2; exact E2.out _ _ HN.out (by omega) (by omega) (by omega))
              · go_wp2_with (go_at_call 223; refine (CL.out _).mono ?_; rintro e w' ⟨rfl, rfl⟩)
                all_goals (go_ret2; exact E2.out _ _ HN.out (by omega) (by omega) (by omega))
    · have hN : po = some acc := by rw [hdec, List.drop_eq_nil_of_le (by omega)]; rfl
      have HN := Lib.hid hN
      subst ha
      clear hN hdec hacc a0 a1
      go_wp2
      go_ret2
      exact E1.out _ HN.out
end Go.Proofs.YteinadddmcicoaaGreatDoor
