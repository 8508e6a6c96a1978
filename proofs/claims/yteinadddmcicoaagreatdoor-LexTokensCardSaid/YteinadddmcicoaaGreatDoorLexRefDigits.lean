/- Walks over the document's digits. -/
import Derived.Test.YteinadddmcicoaaGreatDoorLexRefRun
namespace Go.Proofs.YteinadddmcicoaaGreatDoor
open Go.RowKit Go.Shelf

theorem ret_num {a b : Nat} {q r : Bool} (h : a = b) (h2 : q = r) : Ending.returned (.tuple #[.int .u64 a, .bool q]) = .returned (.tuple #[.int .u64 b, .bool r]) := by rw [h, h2]
/-- What digits answer: a number, or a nought and false. -/
def DigEnd (o : Option Nat) (e : Ending) : Prop := e = match o with
  | some v => .returned (.tuple #[.int .u64 v, .bool true])
  | none => .returned (.tuple #[.int .u64 0, .bool false])
theorem digEnd_no {o : Option Nat} (h : o = none) : DigEnd o (.returned (.tuple #[.int .u64 0, .bool false])) := by subst h; rfl
theorem digEnd_yes {o : Option Nat} {v : Nat} (h : o = some v) : DigEnd o (.returned (.tuple #[.int .u64 v, .bool true])) := by subst h; rfl

theorem refD_cons (acc : Nat) (c : UInt8) (r : List UInt8) : LexPlain.refD acc (c :: r) = if (9223372036854775808 - (c.toNat - 48)) / 10 < acc then none else LexPlain.refD (acc * 10 + (c.toNat - 48)) r := rfl
theorem drop_at_ (t : ByteArray) (i : Nat) (h : i < t.size) : t.data.toList.drop i = t[i] :: t.data.toList.drop (i + 1) := List.drop_eq_getElem_cons (by simpa using h)

set_option maxHeartbeats 3200000 in
theorem refDigits_any (s : ByteArray) (hs : 0 < s.size) (hd : s.data.toList.all LexPlain.digitB = true) (w : World) :
    Calls Tryz.prog 130 #[.string s] w fun e w' => DigEnd (LexPlain.refDig s.data.toList) e ∧ w = w' := by
  have hz : s.data.toList.length = s.size := Array.length_toList
  have hdig : Hid (∀ (k : Nat) (h : k < s.size), 48 ≤ s[k].toNat ∧ s[k].toNat ≤ 57) := Lib.hid (fun k h => by
    have := List.all_eq_true.1 hd s[k] (by rw [← show s.data.toList[k]'(by simpa using h) = s[k] from rfl]; exact List.getElem_mem _)
    simpa [LexPlain.digitB] using this)
  have hh : (s.data.toList.head?.map (·.toNat)) = some s[0].toNat := by
    have := drop_at_ s 0 hs
    rw [List.drop_zero] at this
    rw [this]; rfl
  obtain ⟨o, ho⟩ : ∃ o, o = LexPlain.refDig s.data.toList := ⟨_, rfl⟩
  have ho' := ho
  unfold LexPlain.refDig at ho'
  rw [hz, hh] at ho'
  rw [← ho]
  by_cases h20 : 20 < s.size
  · have HO : Hid (o = none) := Lib.hid (by rw [ho', if_pos (Or.inl h20)])
    have i1 : (20 : Int) < (s.size : Int) := by omega
    clear ho ho' hz hh hd hdig h20
    go_enter Tryz.func130, Tryz.ntmps130
    go_wp2_with fail
    go_returns
    exact ⟨digEnd_no HO.out, rfl⟩
  by_cases h1 : 1 < s.size ∧ s[0].toNat = 48
  · have HO : Hid (o = none) := Lib.hid (by rw [ho', if_pos (Or.inr ⟨h1.1, by rw [h1.2]⟩)])
    have i1 : ¬ (20 : Int) < (s.size : Int) := by omega
    have i2 : (1 : Int) < (s.size : Int) := by omega
    have i3 : ((s[0].toNat : Int) == 48) = true := by rw [beq_iff_eq]; omega
    clear ho ho' hz hh hd hdig h20 h1
    go_enter Tryz.func130, Tryz.ntmps130
    go_wp2_with fail
    go_returns
    exact ⟨digEnd_no HO.out, rfl⟩
  have HO : Hid (o = LexPlain.refD 0 s.data.toList) := Lib.hid (by
    rw [ho', if_neg]
    rintro (h | ⟨h, h'⟩)
    · exact h20 h
    · exact h1 ⟨h, by injection h'⟩)
  have i1 : ¬ (20 : Int) < (s.size : Int) := by omega
  have HK : Hid (s.size ≤ 20) := Lib.hid (by omega)
  clear ho ho' hz hh hd
  by_cases hs1 : 1 < s.size
  · have i2 : (1 : Int) < (s.size : Int) := by omega
    have i3 : ((s[0].toNat : Int) == 48) = false := by rw [beq_eq_false_iff_ne]; omega
    clear h20 h1
    go_enter Tryz.func130, Tryz.ntmps130
    go_wp2_with fail
    go_loopw [4, 5] (fun vn vi wr => ∃ k acc : Nat, vn = .int .u64 acc ∧ vi = .int .i64 k ∧ k ≤ s.size ∧ acc ≤ 9223372036854775808 ∧ Hid (o = LexPlain.refD acc (s.data.toList.drop k)) ∧ w = wr) (fun _ vi _ => s.size - (intOf vi).toNat)
    case atStart => exact ⟨0, 0, rfl, rfl, by omega, by omega, by rw [List.drop_zero]; exact HO, rfl⟩
    case round =>
      obtain ⟨k, acc, rfl, rfl, hk, hacc, hr, rfl⟩ := hrel
      have hks := HK.out
      by_cases hkn : k < s.size
      · obtain ⟨d1, d2⟩ := hdig.out k hkn
        have HD := Lib.hid (drop_at_ s k hkn)
        have HC := Lib.hid (fun r => refD_cons acc s[k] r)
        by_cases hgt : (9223372036854775808 - (s[k].toNat - 48)) / 10 < acc
        · have hI : (9223372036854775808 - ((s[k].toNat : Int) - 48)) / 10 < (acc : Int) := by omega
          have HR := Lib.hid (show o = none by rw [hr.out, HD.out, HC.out, if_pos hgt])
          clear hgt
          go_wp2_with fail
          go_returns
          exact ⟨digEnd_no HR.out, rfl⟩
        · have hI : ¬ (9223372036854775808 - ((s[k].toNat : Int) - 48)) / 10 < (acc : Int) := by omega
          have hA : acc * 10 + (s[k].toNat - 48) ≤ 9223372036854775808 := by omega
          have HR := Lib.hid (show o = LexPlain.refD (acc * 10 + (s[k].toNat - 48)) (s.data.toList.drop (k + 1)) by rw [hr.out, HD.out, HC.out, if_neg hgt])
          clear hgt
          go_wp2_with fail
          go_roundw
          case rel => exact ⟨k + 1, acc * 10 + (s[k].toNat - 48), by go_num, by go_num, by omega, hA, HR, trivial⟩
          case measure => simp [intOf]; omega
      · have HR := Lib.hid (show o = some acc by rw [hr.out, List.drop_eq_nil_of_le (by simp; omega)]; rfl)
        go_wp2_with fail
        go_returns
        exact ⟨digEnd_yes HR.out, rfl⟩
  · have i2 : ¬ (1 : Int) < (s.size : Int) := by omega
    clear h20 h1
    go_enter Tryz.func130, Tryz.ntmps130
    go_wp2_with fail
    go_loopw [4, 5] (fun vn vi wr => ∃ k acc : Nat, vn = .int .u64 acc ∧ vi = .int .i64 k ∧ k ≤ s.size ∧ acc ≤ 9223372036854775808 ∧ Hid (o = LexPlain.refD acc (s.data.toList.drop k)) ∧ w = wr) (fun _ vi _ => s.size - (intOf vi).toNat)
    case atStart => exact ⟨0, 0, rfl, rfl, by omega, by omega, by rw [List.drop_zero]; exact HO, rfl⟩
    case round =>
      obtain ⟨k, acc, rfl, rfl, hk, hacc, hr, rfl⟩ := hrel
      have hks := HK.out
      by_cases hkn : k < s.size
      · obtain ⟨d1, d2⟩ := hdig.out k hkn
        have HD := Lib.hid (drop_at_ s k hkn)
        have HC := Lib.hid (fun r => refD_cons acc s[k] r)
        by_cases hgt : (9223372036854775808 - (s[k].toNat - 48)) / 10 < acc
        · have hI : (9223372036854775808 - ((s[k].toNat : Int) - 48)) / 10 < (acc : Int) := by omega
          have HR := Lib.hid (show o = none by rw [hr.out, HD.out, HC.out, if_pos hgt])
          clear hgt
          go_wp2_with fail
          go_returns
          exact ⟨digEnd_no HR.out, rfl⟩
        · have hI : ¬ (9223372036854775808 - ((s[k].toNat : Int) - 48)) / 10 < (acc : Int) := by omega
          have hA : acc * 10 + (s[k].toNat - 48) ≤ 9223372036854775808 := by omega
          have HR := Lib.hid (show o = LexPlain.refD (acc * 10 + (s[k].toNat - 48)) (s.data.toList.drop (k + 1)) by rw [hr.out, HD.out, HC.out, if_neg hgt])
          clear hgt
          go_wp2_with fail
          go_roundw
          case rel => exact ⟨k + 1, acc * 10 + (s[k].toNat - 48), by go_num, by go_num, by omega, hA, HR, trivial⟩
          case measure => simp [intOf]; omega
      · have HR := Lib.hid (show o = some acc by rw [hr.out, List.drop_eq_nil_of_le (by simp; omega)]; rfl)
        go_wp2_with fail
        go_returns
        exact ⟨digEnd_yes HR.out, rfl⟩
end Go.Proofs.YteinadddmcicoaaGreatDoor
