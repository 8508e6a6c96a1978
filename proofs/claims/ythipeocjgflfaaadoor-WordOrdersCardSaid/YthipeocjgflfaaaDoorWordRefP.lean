/- Walks over the reference's Parse. -/
import Derived.Test.YthipeocjgflfaaaDoorWordRef
import Derived.Lib.IndexBytes
namespace Go.Proofs.YthipeocjgflfaaaDoor
open Go.RowKit Go.Shelf

/-- What Parse answers: a number and nought, or nought and 12. -/
def ParseEnd (o : Option Int) (w : World) (e : Ending) (w' : World) : Prop :=
  e = .returned (match o with | some v => .tuple #[.int .i64 v, .int .i64 0] | none => .tuple #[.int .i64 0, .int .i64 12]) ∧ Below w.heap.size w w'

theorem parseEnd_some {o : Option Int} {v : Int} {w w' : World} (h : o = some v) (hb : Below w.heap.size w w') : ParseEnd o w (.returned (.tuple #[.int .i64 v, .int .i64 0])) w' := by subst h; exact ⟨rfl, hb⟩
theorem parseEnd_none {o : Option Int} {w w' : World} (h : o = none) (hb : Below w.heap.size w w') : ParseEnd o w (.returned (.tuple #[.int .i64 0, .int .i64 12])) w' := by subst h; exact ⟨rfl, hb⟩

theorem refEnd_false (u : Nat) : WordPlain.refEnd false u = wrap64 u := by unfold WordPlain.refEnd; rw [if_neg (by decide)]
theorem refEnd_true (u : Nat) : WordPlain.refEnd true u = wrap64 (-(wrap64 u)) := by unfold WordPlain.refEnd; rw [if_pos rfl]

theorem refU_at (d : ByteArray) (u i : Nat) (h : i < d.size) : WordPlain.refU u (d.data.toList.drop i) =
    if d[i].toNat < 48 ∨ 57 < d[i].toNat ∨ 1152921504606846976 < u then none else WordPlain.refU (10 * u + (d[i].toNat - 48)) (d.data.toList.drop (i + 1)) := by
  rw [List.drop_eq_getElem_cons (by simpa using h)]
  rfl
theorem parseR_none {l : List UInt8} (h : WordPlain.refU 0 (if l.head? = some 45 then l.tail else l) = none) : WordPlain.parseR l = none := by
  unfold WordPlain.parseR; rw [h]; split <;> rfl
theorem parseR_of {l : List UInt8} {u : Nat} (h : WordPlain.refU 0 (if l.head? = some 45 then l.tail else l) = some u) (h0 : 0 < l.length) (h1 : l.length ≤ 20) :
    WordPlain.parseR l = if Lib.itoa (WordPlain.refEnd (l.head? == some 45) u) = l then some (WordPlain.refEnd (l.head? == some 45) u) else none := by
  unfold WordPlain.parseR; rw [h, if_neg (by omega)]

theorem head_plain (s : ByteArray) (h0 : 0 < s.size) (hc : (s[0].toNat == 45) = false) : ¬ s.data.toList.head? = some 45 := by
  rw [List.head?_eq_getElem?, List.getElem?_eq_getElem (by simpa using h0)]
  intro e
  have e := Option.some.inj e
  have : s[0].toNat = 45 := by
    have : s[0] = 45 := e
    rw [this]; rfl
  simp [this] at hc

set_option maxHeartbeats 800000 in
theorem refParse_plain (s : ByteArray) (h0 : 0 < s.size) (h1 : s.size ≤ 20) (hc : (s[0].toNat == 45) = false) (w : World) :
    Calls Tryd.prog 13 #[.string s] w (ParseEnd (WordPlain.parseR s.data.toList) w) := by
  have z1 : ((s.size : Int) == 0) = false := by simp; intro h; simp [h] at h0
  have z2 : decide (20 < (s.size : Int)) = false := by simp; omega
  have hcI : ((s[0].toNat : Int) == 45) = false := by have := hc; simp at *; omega
  have HH := Lib.hid (head_plain s h0 hc)
  clear hc
  go_enter Tryd.func13, Tryd.ntmps13
  go_wp2
  go_loop [6, 7] (fun u i => ∃ a k : Nat, a < 18446744073709551616 ∧ k ≤ s.size ∧ u = .int .u64 a ∧ i = .int .i64 k ∧ WordPlain.refU 0 s.data.toList = WordPlain.refU a (s.data.toList.drop k)) (fun _ i => s.size - (intOf i).toNat)
  case atStart => exact ⟨0, 0, by omega, by omega, rfl, rfl, rfl⟩
  case round =>
    obtain ⟨a, k, ha, hk, rfl, rfl, hr⟩ := hrel
    have HR := Lib.hid hr
    clear hr
    by_cases hlt : k < s.size
    · have HA := Lib.hid (refU_at s a k hlt)
      by_cases hbad : s[k].toNat < 48 ∨ 57 < s[k].toNat ∨ 1152921504606846976 < a
      · have hn : WordPlain.parseR s.data.toList = none := parseR_none (by rw [if_neg HH.out, HR.out, HA.out, if_pos hbad])
        have HN := Lib.hid hn
        clear hn
        go_wp2
        all_goals (go_ret2; exact parseEnd_none HN.out (Below.refl _ _))
      · have hs : WordPlain.refU 0 s.data.toList = WordPlain.refU (10 * a + (s[k].toNat - 48)) (s.data.toList.drop (k + 1)) := by rw [HR.out, HA.out, if_neg hbad]
        have HS := Lib.hid hs
        clear hs
        have b1 : 48 ≤ s[k].toNat := by omega
        have b2 : s[k].toNat ≤ 57 := by omega
        have b3 : a ≤ 1152921504606846976 := by omega
        clear hbad
        go_wp2
        go_round
        case rel => exact ⟨10 * a + (s[k].toNat - 48), k + 1, by omega, by omega, by go_num, by go_num, HS.out⟩
        case measure => simp [intOf]; omega
    · have hv : WordPlain.refU 0 s.data.toList = some a := by rw [HR.out, List.drop_eq_nil_of_le (by simp; omega)]; rfl
      have hp := parseR_of (l := s.data.toList) (u := a) (by rw [if_neg HH.out]; exact hv) (by simpa using h0) (by simpa using h1)
      rw [show (s.data.toList.head? == some 45) = false by simpa using HH.out, refEnd_false] at hp
      have bd := WordPlain.wrap64_lo (a : Int)
      obtain ⟨bd1, bd2⟩ := bd
      have HP := Lib.hid hp
      clear hp hv
      by_cases he : Lib.itoa (wrap64 (a : Int)) = s.data.toList
      · have hne := bne_of _ _ he
        have HE := Lib.hid he
        clear he
        go_wp2_with (go_at_call 15; refine (refText_any _ bd1 bd2 _).mono ?_; rintro e w1 ⟨rfl, hb1⟩)
        go_ret2
        exact parseEnd_some (HP.out.trans (if_pos HE.out)) hb1
      · have hne := bne_of' _ _ he
        have HE := Lib.hid he
        clear he
        go_wp2_with (go_at_call 15; refine (refText_any _ bd1 bd2 _).mono ?_; rintro e w1 ⟨rfl, hb1⟩)
        go_ret2
        exact parseEnd_none (HP.out.trans (if_neg HE.out)) hb1

theorem tail_drop (l : List UInt8) : l.tail = l.drop 1 := by simp
theorem head_minus (s : ByteArray) (h0 : 0 < s.size) (hc : s[0].toNat = 45) : s.data.toList.head? = some 45 := by
  rw [List.head?_eq_getElem?, List.getElem?_eq_getElem (by simpa using h0)]
  congr 1
  exact UInt8.toNat_inj.1 hc

set_option maxHeartbeats 800000 in
theorem refParse_minus (s : ByteArray) (h0 : 0 < s.size) (h1 : s.size ≤ 20) (hc : s[0].toNat = 45) (w : World) :
    Calls Tryd.prog 13 #[.string s] w (ParseEnd (WordPlain.parseR s.data.toList) w) := by
  have z1 : ((s.size : Int) == 0) = false := by simp; intro h; simp [h] at h0
  have z2 : decide (20 < (s.size : Int)) = false := by simp; omega
  have hcI : ((s[0].toNat : Int) == 45) = true := by rw [hc]; rfl
  have HH := Lib.hid (head_minus s h0 hc)
  clear hc
  go_enter Tryd.func13, Tryd.ntmps13
  go_wp2
  generalize hd : s.extract 1 s.size = d
  have hds : d.size + 1 = s.size := by rw [← hd, ByteArray.size_extract]; omega
  have hdl : d.data.toList = s.data.toList.drop 1 := by rw [← hd]; exact Lib.extract_to_end s 1
  have HDL := Lib.hid hdl
  have hdb : d.size ≤ 20 := by omega
  have HDS := Lib.hid hds
  clear hd hds hdl
  go_loop [6, 7] (fun u i => ∃ a k : Nat, a < 18446744073709551616 ∧ k ≤ d.size ∧ u = .int .u64 a ∧ i = .int .i64 k ∧ WordPlain.refU 0 d.data.toList = WordPlain.refU a (d.data.toList.drop k)) (fun _ i => d.size - (intOf i).toNat)
  case atStart => exact ⟨0, 0, by omega, by omega, rfl, rfl, rfl⟩
  case round =>
    obtain ⟨a, k, ha, hk, rfl, rfl, hr⟩ := hrel
    have HR := Lib.hid hr
    clear hr
    by_cases hlt : k < d.size
    · have HA := Lib.hid (refU_at d a k hlt)
      by_cases hbad : d[k].toNat < 48 ∨ 57 < d[k].toNat ∨ 1152921504606846976 < a
      · have hn : WordPlain.parseR s.data.toList = none := parseR_none (by rw [if_pos HH.out, tail_drop, ← HDL.out, HR.out, HA.out, if_pos hbad])
        have HN := Lib.hid hn
        clear hn
        go_wp2
        all_goals (go_ret2; exact parseEnd_none HN.out (Below.refl _ _))
      · have hs : WordPlain.refU 0 d.data.toList = WordPlain.refU (10 * a + (d[k].toNat - 48)) (d.data.toList.drop (k + 1)) := by rw [HR.out, HA.out, if_neg hbad]
        have HS := Lib.hid hs
        clear hs
        have b1 : 48 ≤ d[k].toNat := by omega
        have b2 : d[k].toNat ≤ 57 := by omega
        have b3 : a ≤ 1152921504606846976 := by omega
        clear hbad
        go_wp2
        go_round
        case rel => exact ⟨10 * a + (d[k].toNat - 48), k + 1, by omega, by omega, by go_num, by go_num, HS.out⟩
        case measure => simp [intOf]; omega
    · have hv : WordPlain.refU 0 d.data.toList = some a := by rw [HR.out, List.drop_eq_nil_of_le (by simp; omega)]; rfl
      have hp := parseR_of (l := s.data.toList) (u := a) (by rw [if_pos HH.out, tail_drop, ← HDL.out]; exact hv) (by simpa using h0) (by simpa using h1)
      rw [show (s.data.toList.head? == some 45) = true by simpa using HH.out, refEnd_true] at hp
      have bd := WordPlain.wrap64_lo (-(wrap64 (a : Int)))
      obtain ⟨bd1, bd2⟩ := bd
      have HP := Lib.hid hp
      clear hp hv
      by_cases he : Lib.itoa (wrap64 (-(wrap64 (a : Int)))) = s.data.toList
      · have hne := bne_of _ _ he
        have HE := Lib.hid he
        clear he
        go_wp2_with (go_at_call 15; refine (refText_any _ bd1 bd2 _).mono ?_; rintro e w1 ⟨rfl, hb1⟩)
        go_ret2
        exact parseEnd_some (HP.out.trans (if_pos HE.out)) hb1
      · have hne := bne_of' _ _ he
        have HE := Lib.hid he
        clear he
        go_wp2_with (go_at_call 15; refine (refText_any _ bd1 bd2 _).mono ?_; rintro e w1 ⟨rfl, hb1⟩)
        go_ret2
        exact parseEnd_none (HP.out.trans (if_neg HE.out)) hb1

set_option maxHeartbeats 800000 in
theorem refParse_len (s : ByteArray) (h : s.size = 0 ∨ 20 < s.size) (w : World) :
    Calls Tryd.prog 13 #[.string s] w (ParseEnd (WordPlain.parseR s.data.toList) w) := by
  have hp : WordPlain.parseR s.data.toList = none := by
    unfold WordPlain.parseR; rw [if_pos]; simpa using h
  have HP := Lib.hid hp
  clear hp
  by_cases h0 : s.size = 0
  · have z1 : ((s.size : Int) == 0) = true := by simp [h0]
    go_enter Tryd.func13, Tryd.ntmps13
    go_wp2
    all_goals (go_ret2; exact parseEnd_none HP.out (Below.refl _ _))
  · have z1 : ((s.size : Int) == 0) = false := by rw [beq_eq_false_iff_ne]; omega
    have z2 : decide (20 < (s.size : Int)) = true := by simp; omega
    go_enter Tryd.func13, Tryd.ntmps13
    go_wp2
    all_goals (go_ret2; exact parseEnd_none HP.out (Below.refl _ _))

theorem refParse_any (s : ByteArray) (w : World) :
    Calls Tryd.prog 13 #[.string s] w (ParseEnd (WordPlain.parseW s.data.toList) w) := by
  rw [← WordPlain.parseR_eq]
  by_cases h0 : s.size = 0
  · exact refParse_len s (.inl h0) w
  by_cases h1 : 20 < s.size
  · exact refParse_len s (.inr h1) w
  by_cases hc : s[0].toNat = 45
  · exact refParse_minus s (by omega) (by omega) hc w
  · exact refParse_plain s (by omega) (by omega) (by simpa using hc) w

theorem parse_any (s : ByteArray) (hs : s.size ≤ 281474976710656) (w : World) (h : Has w) :
    Calls Tryd.prog 12 #[.string s] w (ParseEnd (WordPlain.parseW s.data.toList) w) := by
  cases hv : WordPlain.parseW s.data.toList with
  | some v => exact (parse_some s hs v hv w h).mono fun e w' ⟨he, hb⟩ => ⟨he, hb⟩
  | none => exact (parse_none s hs hv w h).mono fun e w' ⟨he, hb⟩ => ⟨he, hb⟩
end Go.Proofs.YthipeocjgflfaaaDoor
