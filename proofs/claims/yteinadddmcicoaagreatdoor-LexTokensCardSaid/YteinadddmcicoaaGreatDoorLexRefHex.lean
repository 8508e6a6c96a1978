/- Walks over the document's hex, escape, sign. -/
import Derived.Test.YteinadddmcicoaaGreatDoorLexRefDigits
import Derived.Test.YteinadddmcicoaaGreatDoorLexTextP
import Derived.Test.YteinadddmcicoaaGreatDoorLexText
import Derived.BigQuiet
import Derived.Deep.QuietTactic
namespace Go.Proofs.YteinadddmcicoaaGreatDoor
open Go.RowKit Go.Shelf

def hexI (c : UInt8) : Int := match LexPlain.hexV c with
  | some v => (v : Int)
  | none => -1
theorem ret_i {a b : Int} (h : a = b) : Ending.returned (.int .i64 a) = .returned (.int .i64 b) := by rw [h]
set_option maxHeartbeats 800000 in
theorem refHex_any (c : UInt8) (w : World) : Calls Tryz.prog 219 #[.int .u8 c.toNat] w fun e w' => e = .returned (.int .i64 (hexI c)) ∧ w = w' := by
  have hc256 : c.toNat < 256 := c.toNat_lt
  by_cases h1 : 48 ≤ c.toNat ∧ c.toNat ≤ 57
  · have i1 : (48 : Int) ≤ (c.toNat : Int) := by omega
    have i2 : (c.toNat : Int) ≤ 57 := by omega
    have HV : Hid (hexI c = (c.toNat : Int) - 48) := Lib.hid (by unfold hexI LexPlain.hexV; rw [if_pos h1]; simp only; omega)
    clear h1
    go_enter Tryz.func219, Tryz.ntmps219
    go_wp2_with fail
    go_returns
    exact ⟨ret_i (by rw [HV.out]), rfl⟩
  · by_cases h2 : 97 ≤ c.toNat ∧ c.toNat ≤ 102
    · have i1 : (97 : Int) ≤ (c.toNat : Int) := by omega
      have i2 : (c.toNat : Int) ≤ 102 := by omega
      have HV : Hid (hexI c = (c.toNat : Int) - 87) := Lib.hid (by unfold hexI LexPlain.hexV; rw [if_neg h1, if_pos h2]; simp only; omega)
      clear h1 h2
      go_enter Tryz.func219, Tryz.ntmps219
      go_wp2_with fail
      go_returns
      exact ⟨ret_i (by rw [HV.out]; omega), rfl⟩
    · have HV : Hid (hexI c = -1) := Lib.hid (by unfold hexI LexPlain.hexV; rw [if_neg h1, if_neg h2])
      by_cases h3 : (48 : Int) ≤ (c.toNat : Int)
      · have h4 : ¬ (c.toNat : Int) ≤ 57 := by omega
        by_cases h5 : (97 : Int) ≤ (c.toNat : Int)
        · have h6 : ¬ (c.toNat : Int) ≤ 102 := by omega
          clear h1 h2
          go_enter Tryz.func219, Tryz.ntmps219
          go_wp2_with fail
          go_returns
          exact ⟨ret_i (by rw [HV.out]), rfl⟩
        · clear h1 h2
          go_enter Tryz.func219, Tryz.ntmps219
          go_wp2_with fail
          go_returns
          exact ⟨ret_i (by rw [HV.out]), rfl⟩
      · have h5 : ¬ (97 : Int) ≤ (c.toNat : Int) := by omega
        clear h1 h2
        go_enter Tryz.func219, Tryz.ntmps219
        go_wp2_with fail
        go_returns
        exact ⟨ret_i (by rw [HV.out]), rfl⟩

theorem hexI_some {c : UInt8} {a : Nat} (h : LexPlain.hexV c = some a) : hexI c = a := by unfold hexI; rw [h]
theorem hexI_none {c : UInt8} (h : LexPlain.hexV c = none) : hexI c = -1 := by unfold hexI; rw [h]
theorem hexV_lt {c : UInt8} {a : Nat} (h : LexPlain.hexV c = some a) : a < 16 := by
  unfold LexPlain.hexV at h
  split at h
  · cases h; omega
  · split at h
    · cases h; omega
    · cases h

theorem belowDrawsN (w : World) (n : Nat) : Below w.heap.size w (w.drewN n) := ⟨rfl, rfl, rfl, Nat.le_refl _, fun _ _ => rfl⟩
/-- What escape answers: a byte and how many bytes it has; noughts: none. -/
def EscEnd (o : Option (UInt8 × Nat)) (e : Ending) : Prop := e = match o with
  | some (b, n) => .returned (.tuple #[.int .u8 b.toNat, .int .i64 n])
  | none => .returned (.tuple #[.int .u8 0, .int .i64 0])
theorem escEnd_no {o : Option (UInt8 × Nat)} (h : o = none) : EscEnd o (.returned (.tuple #[.int .u8 0, .int .i64 0])) := by subst h; rfl
theorem escEnd_yes {o : Option (UInt8 × Nat)} {b : UInt8} {n : Nat} {x y : Int} (h : o = some (b, n)) (hx : x = b.toNat) (hy : y = n) : EscEnd o (.returned (.tuple #[.int .u8 x, .int .i64 y])) := by subst h; rw [hx, hy]; rfl

set_option maxHeartbeats 3200000 in
theorem refEscape_any (s : ByteArray) (hs : 0 < s.size) (h0 : s[0].toNat = 92) (w : World) :
    Calls Tryz.prog 209 #[.string s] w fun e w' => EscEnd (LexPlain.charF s.data.toList) e ∧ Below w.heap.size w w' := by
  obtain ⟨o, ho⟩ : ∃ o, o = LexPlain.charF s.data.toList := ⟨_, rfl⟩
  rw [← ho]
  by_cases h2 : s.size < 2
  · have HO : Hid (o = none) := Lib.hid (by
      rw [ho, list_cons s hs, List.drop_eq_nil_of_le (by rw [Array.length_toList]; show s.size ≤ 1; omega)]
      exact charF_alone _ h0)
    have i1 : (s.size : Int) < 2 := by omega
    clear ho h2 h0
    go_enter Tryz.func209, Tryz.ntmps209
    go_wp2_with fail
    go_returns
    exact ⟨escEnd_no HO.out, Below.refl _ _⟩
  have hs1 : 1 < s.size := by omega
  have i1 : ¬ (s.size : Int) < 2 := by omega
  rw [list_cons2 s hs1] at ho
  by_cases ha : s[1].toNat = 92
  · have HO : Hid (o = some (s[1], 2)) := Lib.hid (by rw [ho]; exact charF_same _ _ _ h0 (Or.inr ha))
    have d1 : ((s[1].toNat : Int) == 92) = true := by rw [beq_iff_eq]; omega
    clear ho h2 h0 ha
    go_enter Tryz.func209, Tryz.ntmps209
    go_wp2_with fail
    go_returns
    exact ⟨escEnd_yes HO.out rfl rfl, Below.refl _ _⟩
  have d1 : ((s[1].toNat : Int) == 92) = false := by rw [beq_eq_false_iff_ne]; omega
  by_cases hb : s[1].toNat = 39
  · have HO : Hid (o = some (s[1], 2)) := Lib.hid (by rw [ho]; exact charF_same _ _ _ h0 (Or.inl hb))
    have d2 : ((s[1].toNat : Int) == 39) = true := by rw [beq_iff_eq]; omega
    clear ho h2 h0 ha hb
    go_enter Tryz.func209, Tryz.ntmps209
    go_wp2_with fail
    go_returns
    exact ⟨escEnd_yes HO.out rfl rfl, Below.refl _ _⟩
  have d2 : ((s[1].toNat : Int) == 39) = false := by rw [beq_eq_false_iff_ne]; omega
  by_cases hc : s[1].toNat = 110
  · have HO : Hid (o = some (10, 2)) := Lib.hid (by rw [ho]; exact charF_n _ _ _ h0 hc)
    have d3 : ((s[1].toNat : Int) == 110) = true := by rw [beq_iff_eq]; omega
    clear ho h2 h0 ha hb hc
    go_enter Tryz.func209, Tryz.ntmps209
    go_wp2_with fail
    go_returns
    exact ⟨escEnd_yes HO.out rfl rfl, Below.refl _ _⟩
  have d3 : ((s[1].toNat : Int) == 110) = false := by rw [beq_eq_false_iff_ne]; omega
  by_cases hd : s[1].toNat = 120
  · have d4 : ((s[1].toNat : Int) == 120) = true := by rw [beq_iff_eq]; omega
    by_cases h4 : s.size < 4
    · have HO : Hid (o = none) := Lib.hid (by
        rw [ho]; exact charF_short _ _ _ h0 hd (by rw [List.length_drop, Array.length_toList]; show s.size - 2 < 2; omega))
      have i2 : ¬ (4 : Int) ≤ (s.size : Int) := by omega
      clear ho h2 h0 ha hb hc hd h4
      go_enter Tryz.func209, Tryz.ntmps209
      go_wp2_with fail
      go_returns
      exact ⟨escEnd_no HO.out, Below.refl _ _⟩
    · have hs3 : 3 < s.size := by omega
      have i2 : (4 : Int) ≤ (s.size : Int) := by omega
      have HO' : o = match LexPlain.hexV s[2], LexPlain.hexV s[3] with
          | some a, some b => some (UInt8.ofNat (a * 16 + b), 4)
          | _, _ => none := by
        rw [ho, ← list_cons2 s hs1, list_cons4 s hs3]
        exact charF_hex _ _ _ _ _ h0 hd
      have C2 := Lib.hid (fun w' => refHex_any s[2] w')
      have C3 := Lib.hid (fun w' => refHex_any s[3] w')
      clear ho h2 h0 ha hb hc hd
      cases hx : LexPlain.hexV s[2] with
      | none =>
        rw [hexI_none hx] at C2
        have HO : Hid (o = none) := Lib.hid (by rw [HO', hx])
        clear HO' hx
        go_enter Tryz.func209, Tryz.ntmps209
        go_wp2_with fail
        refine (C2.out _).mono ?_
        rintro e w1 ⟨rfl, rfl⟩
        go_wp2_with fail
        go_returns
        exact ⟨escEnd_no HO.out, Below.refl _ _⟩
      | some a =>
        have ha16 := hexV_lt hx
        rw [hexI_some hx] at C2
        cases hy : LexPlain.hexV s[3] with
        | none =>
          rw [hexI_none hy] at C3
          have HO : Hid (o = none) := Lib.hid (by rw [HO', hx, hy])
          clear HO' hx hy
          go_enter Tryz.func209, Tryz.ntmps209
          go_wp2_with fail
          refine (C2.out _).mono ?_
          rintro e w1 ⟨rfl, rfl⟩
          go_wp2_with fail
          refine (C3.out _).mono ?_
          rintro e w1 ⟨rfl, rfl⟩
          go_wp2_with fail
          go_returns
          exact ⟨escEnd_no HO.out, Below.refl _ _⟩
        | some b =>
          have hb16 := hexV_lt hy
          rw [hexI_some hy] at C3
          have HO : Hid (o = some (UInt8.ofNat (a * 16 + b), 4)) := Lib.hid (by rw [HO', hx, hy])
          have HT : Hid ((UInt8.ofNat (a * 16 + b)).toNat = a * 16 + b) := Lib.hid (by rw [UInt8.toNat_ofNat']; omega)
          clear HO' hx hy
          have C2' := Lib.hid (fun w' => (C2.out w').mono fun _ _ h => (⟨h.1, h.2.symm⟩ : _ ∧ _))
          have C3' := Lib.hid (fun w' => (C3.out w').mono fun _ _ h => (⟨h.1, h.2.symm⟩ : _ ∧ _))
          go_enter Tryz.func209, Tryz.ntmps209
          go_wp2_with fail
          refine (C2.out _).mono ?_
          rintro e w1 ⟨rfl, rfl⟩
          go_wp2_with fail
          refine (C3.out _).mono ?_
          rintro e w1 ⟨rfl, rfl⟩
          go_wp2_with fail
          have k1 : IntKind.i64.wrap ((a : Int) * 16) = (a : Int) * 16 := IntWalk.i64_in _ (by omega)
          have k2 : IntKind.i64.wrap ((a : Int) * 16 + (b : Int)) = (a : Int) * 16 + (b : Int) := IntWalk.i64_in _ (by omega)
          have k3 : IntKind.u8.wrap ((a : Int) * 16 + (b : Int)) = (a : Int) * 16 + (b : Int) := IntWalk.u8_in _ (by omega)
          go_big_quiet (first | (go_at_call 219; with_reducible exact Calls.quiet_of_same (C2'.out _)) | (go_at_call 219; with_reducible exact Calls.quiet_of_same (C3'.out _)))
          clear k1 k2
          go_wp2_with fail
          go_returns
          exact ⟨escEnd_yes HO.out (by rw [HT.out]; first | rfl | omega | (rw [k3]; omega)) rfl, belowDrawsN _ _⟩
  · have d4 : ((s[1].toNat : Int) == 120) = false := by rw [beq_eq_false_iff_ne]; omega
    have HO : Hid (o = none) := Lib.hid (by rw [ho]; exact charF_other _ _ _ h0 hb ha hc hd)
    clear ho h2 h0 ha hb hc hd
    go_enter Tryz.func209, Tryz.ntmps209
    go_wp2_with fail
    go_returns
    exact ⟨escEnd_no HO.out, Below.refl _ _⟩
end Go.Proofs.YteinadddmcicoaaGreatDoor
