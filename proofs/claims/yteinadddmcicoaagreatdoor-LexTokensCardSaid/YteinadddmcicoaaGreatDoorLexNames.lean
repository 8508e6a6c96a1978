/- Walks over layer 2's Word, Name, and the reference's Word, Name. -/
import Derived.Test.YteinadddmcicoaaGreatDoorLexSmall
import Derived.Lib.IndexAny
namespace Go.Proofs.YteinadddmcicoaaGreatDoor
open Go.RowKit Go.Shelf

theorem contains_byte (s : ByteArray) (w : World) : Calls Tryz.prog 203 #[.string s, .string ⟨#[32]⟩] w fun e w' => e = .returned (.bool (s.data.toList.contains 32)) ∧ w = w' :=
  (Tryz.strings_Contains_one s 32 w).mono fun e w' ⟨he, hw⟩ => ⟨by rw [he, Lib.contains_iff_indexByte], hw.symm⟩

theorem contains_in (T sub : ByteArray) (tl l : List UInt8) (hT : T.data.toList = tl) (hs : sub.data.toList = 32 :: (l ++ [32])) (hn : tl.length ≤ 1000) (w : World) (h : Has w) :
    Calls Tryz.prog 203 #[.string T, .string sub] w fun e w' => e = .returned (.bool (Lib.contains tl (32 :: (l ++ [32])))) ∧ w = w' := by
  obtain ⟨m, hm⟩ := h.maxl
  have hz : T.size < 4294967281 := by
    have := congrArg List.length hT
    have e : T.data.toList.length = T.size := Array.length_toList
    omega
  rw [← hT, ← hs]
  exact (Tryz.strings_Contains T sub m w hz hm).mono fun e w' ⟨he, hw⟩ => ⟨he, hw.symm⟩

theorem ba_empty (s : ByteArray) (h : s.size = 0) : s.data.toList = [] := by
  have e : s.data.toList.length = s.size := Array.length_toList
  exact List.eq_nil_of_length_eq_zero (by omega)
theorem ba_not_empty (s : ByteArray) (h : ¬ s.size = 0) : s.toList.isEmpty = false := by
  rw [ByteArray.toList_eq]
  cases hl : s.data.toList with
  | nil => exfalso; apply h; have := congrArg List.length hl; simpa using this
  | cons a l => rfl
theorem ba_is_empty (s : ByteArray) (h : s.size = 0) : s.toList.isEmpty = true := by
  rw [ByteArray.toList_eq, ba_empty s h]; rfl

set_option maxHeartbeats 800000 in
theorem word_any (s : ByteArray) (hs : s.size ≤ 9223372036854775800) (w : World) (h : Has w) :
    Calls Tryz.prog 119 #[.string s] w fun e w' => e = .returned (.bool (LexPlain.isWord s.data.toList)) ∧ w = w' := by
  have hw := LexPlain.word_eq s.data.toList
  generalize hx : LexPlain.isWord s.data.toList = x
  have HX : Hid (_ = x) := Lib.hid (hw.trans hx)
  clear hw hx
  generalize hb : s.data.toList.contains 32 = b at HX
  have C1 := Lib.hid (contains_byte s)
  rw [hb] at C1
  clear hb
  by_cases h0 : s.size = 0
  · have z1 := ba_is_empty s h0
    have he := ba_empty s h0
    have HE := Lib.hid he
    clear he h0
    go_enter Tryz.func119, Tryz.ntmps119
    go_wp2_with fail
    go_ret
    exact ⟨ret_bool (by have := HX.out; rw [HE.out] at this; simpa using this), rfl⟩
  have z1 := ba_not_empty s h0
  cases b with
  | true =>
    go_enter Tryz.func119, Tryz.ntmps119
    go_wp2_with (go_at_call 203; ((with_reducible refine (C1.out _).mono ?_); rintro e w1 ⟨rfl, rfl⟩))
    go_ret
    exact ⟨ret_bool (by have := HX.out; simpa using this), rfl⟩
  | false =>
    have C2 := Lib.hid (fun T sub hT hs => contains_in T sub LexPlain.wordsT s.data.toList hT hs (by decide +kernel) w h)
    have hne : (!s.data.toList.isEmpty) = true := by rw [← ByteArray.toList_eq, z1]; rfl
    have HX2 : Hid (Lib.contains LexPlain.wordsT (32 :: (s.data.toList ++ [32])) = x) := by
      have := HX.out
      rw [hne] at this
      exact Lib.hid (by simpa using this)
    clear hne HX
    generalize Lib.contains LexPlain.wordsT (32 :: (s.data.toList ++ [32])) = y at C2 HX2
    go_enter Tryz.func119, Tryz.ntmps119
    go_wp2_with (go_at_call 203; ((with_reducible refine (C1.out _).mono ?_); rintro e w1 ⟨rfl, rfl⟩))
    refine (C2.out _ _ rfl (by simp)).mono ?_
    rintro e w1 ⟨rfl, rfl⟩
    go_wp2_with fail
    go_ret
    exact ⟨ret_bool HX2.out, rfl⟩
end Go.Proofs.YteinadddmcicoaaGreatDoor
