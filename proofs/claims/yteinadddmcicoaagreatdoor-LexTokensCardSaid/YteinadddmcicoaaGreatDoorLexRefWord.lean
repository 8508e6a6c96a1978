/- Walks over the reference's Word and Name. -/
import Derived.Test.YteinadddmcicoaaGreatDoorLexNames2
namespace Go.Proofs.YteinadddmcicoaaGreatDoor
open Go.RowKit Go.Shelf

theorem not_word {s : ByteArray} (h : LexPlain.isWord s.data.toList = false) (x : List UInt8) (hx : LexPlain.wordsL.contains x = true) : (s.toList == x) = false := by
  rw [ByteArray.toList_eq]
  cases he : s.data.toList == x with
  | false => rfl
  | true =>
    rw [beq_iff_eq] at he
    unfold LexPlain.isWord at h
    rw [he, hx] at h
    cases h

set_option maxHeartbeats 1600000 in
theorem refWord_no (s : ByteArray) (w : World) (h : LexPlain.isWord s.data.toList = false) :
    Calls Tryz.prog 127 #[.string s] w fun e w' => e = .returned (.bool false) ∧ w = w' := by
  have h0 := not_word h [97, 98, 115, 116, 114, 97, 99, 116] (by decide +kernel)
  have h1 := not_word h [97, 115] (by decide +kernel)
  have h2 := not_word h [98, 114, 101, 97, 107] (by decide +kernel)
  have h3 := not_word h [99, 97, 116, 99, 104] (by decide +kernel)
  have h4 := not_word h [99, 108, 97, 115, 115] (by decide +kernel)
  have h5 := not_word h [99, 111, 110, 116, 105, 110, 117, 101] (by decide +kernel)
  have h6 := not_word h [101, 99, 104, 111] (by decide +kernel)
  have h7 := not_word h [101, 108, 115, 101] (by decide +kernel)
  have h8 := not_word h [101, 120, 116, 101, 110, 100, 115] (by decide +kernel)
  have h9 := not_word h [102, 97, 108, 115, 101] (by decide +kernel)
  have h10 := not_word h [102, 105, 110, 97, 108, 108, 121] (by decide +kernel)
  have h11 := not_word h [102, 111, 114, 101, 97, 99, 104] (by decide +kernel)
  have h12 := not_word h [102, 114, 111, 109] (by decide +kernel)
  have h13 := not_word h [102, 117, 110, 99, 116, 105, 111, 110] (by decide +kernel)
  have h14 := not_word h [105, 102] (by decide +kernel)
  have h15 := not_word h [105, 109, 112, 108, 101, 109, 101, 110, 116, 115] (by decide +kernel)
  have h16 := not_word h [105, 110, 115, 116, 97, 110, 99, 101, 111, 102] (by decide +kernel)
  have h17 := not_word h [105, 110, 116, 101, 114, 102, 97, 99, 101] (by decide +kernel)
  have h18 := not_word h [110, 101, 119] (by decide +kernel)
  have h19 := not_word h [110, 117, 108, 108] (by decide +kernel)
  have h20 := not_word h [112, 117, 98, 108, 105, 99] (by decide +kernel)
  have h21 := not_word h [114, 101, 116, 117, 114, 110] (by decide +kernel)
  have h22 := not_word h [116, 104, 114, 111, 119] (by decide +kernel)
  have h23 := not_word h [116, 114, 117, 101] (by decide +kernel)
  have h24 := not_word h [116, 114, 121] (by decide +kernel)
  have h25 := not_word h [119, 104, 105, 108, 101] (by decide +kernel)
  have h26 := not_word h [121, 105, 101, 108, 100] (by decide +kernel)
  clear h
  go_enter Tryz.func127, Tryz.ntmps127
  go_wp2
  go_ret
  exact ⟨rfl, rfl⟩

theorem ba_of (s : ByteArray) (l : List UInt8) (h : s.data.toList = l) : s = ⟨l.toArray⟩ := by rw [← h]

theorem refWord_0 (w : World) : Calls Tryz.prog 127 #[.string ⟨#[97, 98, 115, 116, 114, 97, 99, 116]⟩] w fun e w' => e = .returned (.bool true) ∧ w = w' := by
  go_enter Tryz.func127, Tryz.ntmps127
  go_wp2
  go_ret
  exact ⟨rfl, rfl⟩
theorem refWord_1 (w : World) : Calls Tryz.prog 127 #[.string ⟨#[97, 115]⟩] w fun e w' => e = .returned (.bool true) ∧ w = w' := by
  go_enter Tryz.func127, Tryz.ntmps127
  go_wp2
  go_ret
  exact ⟨rfl, rfl⟩
theorem refWord_2 (w : World) : Calls Tryz.prog 127 #[.string ⟨#[98, 114, 101, 97, 107]⟩] w fun e w' => e = .returned (.bool true) ∧ w = w' := by
  go_enter Tryz.func127, Tryz.ntmps127
  go_wp2
  go_ret
  exact ⟨rfl, rfl⟩
theorem refWord_3 (w : World) : Calls Tryz.prog 127 #[.string ⟨#[99, 97, 116, 99, 104]⟩] w fun e w' => e = .returned (.bool true) ∧ w = w' := by
  go_enter Tryz.func127, Tryz.ntmps127
  go_wp2
  go_ret
  exact ⟨rfl, rfl⟩
theorem refWord_4 (w : World) : Calls Tryz.prog 127 #[.string ⟨#[99, 108, 97, 115, 115]⟩] w fun e w' => e = .returned (.bool true) ∧ w = w' := by
  go_enter Tryz.func127, Tryz.ntmps127
  go_wp2
  go_ret
  exact ⟨rfl, rfl⟩
theorem refWord_5 (w : World) : Calls Tryz.prog 127 #[.string ⟨#[99, 111, 110, 116, 105, 110, 117, 101]⟩] w fun e w' => e = .returned (.bool true) ∧ w = w' := by
  go_enter Tryz.func127, Tryz.ntmps127
  go_wp2
  go_ret
  exact ⟨rfl, rfl⟩
theorem refWord_6 (w : World) : Calls Tryz.prog 127 #[.string ⟨#[101, 99, 104, 111]⟩] w fun e w' => e = .returned (.bool true) ∧ w = w' := by
  go_enter Tryz.func127, Tryz.ntmps127
  go_wp2
  go_ret
  exact ⟨rfl, rfl⟩
theorem refWord_7 (w : World) : Calls Tryz.prog 127 #[.string ⟨#[101, 108, 115, 101]⟩] w fun e w' => e = .returned (.bool true) ∧ w = w' := by
  go_enter Tryz.func127, Tryz.ntmps127
  go_wp2
  go_ret
  exact ⟨rfl, rfl⟩
theorem refWord_8 (w : World) : Calls Tryz.prog 127 #[.string ⟨#[101, 120, 116, 101, 110, 100, 115]⟩] w fun e w' => e = .returned (.bool true) ∧ w = w' := by
  go_enter Tryz.func127, Tryz.ntmps127
  go_wp2
  go_ret
  exact ⟨rfl, rfl⟩
theorem refWord_9 (w : World) : Calls Tryz.prog 127 #[.string ⟨#[102, 97, 108, 115, 101]⟩] w fun e w' => e = .returned (.bool true) ∧ w = w' := by
  go_enter Tryz.func127, Tryz.ntmps127
  go_wp2
  go_ret
  exact ⟨rfl, rfl⟩
theorem refWord_10 (w : World) : Calls Tryz.prog 127 #[.string ⟨#[102, 105, 110, 97, 108, 108, 121]⟩] w fun e w' => e = .returned (.bool true) ∧ w = w' := by
  go_enter Tryz.func127, Tryz.ntmps127
  go_wp2
  go_ret
  exact ⟨rfl, rfl⟩
theorem refWord_11 (w : World) : Calls Tryz.prog 127 #[.string ⟨#[102, 111, 114, 101, 97, 99, 104]⟩] w fun e w' => e = .returned (.bool true) ∧ w = w' := by
  go_enter Tryz.func127, Tryz.ntmps127
  go_wp2
  go_ret
  exact ⟨rfl, rfl⟩
theorem refWord_12 (w : World) : Calls Tryz.prog 127 #[.string ⟨#[102, 114, 111, 109]⟩] w fun e w' => e = .returned (.bool true) ∧ w = w' := by
  go_enter Tryz.func127, Tryz.ntmps127
  go_wp2
  go_ret
  exact ⟨rfl, rfl⟩
theorem refWord_13 (w : World) : Calls Tryz.prog 127 #[.string ⟨#[102, 117, 110, 99, 116, 105, 111, 110]⟩] w fun e w' => e = .returned (.bool true) ∧ w = w' := by
  go_enter Tryz.func127, Tryz.ntmps127
  go_wp2
  go_ret
  exact ⟨rfl, rfl⟩
theorem refWord_14 (w : World) : Calls Tryz.prog 127 #[.string ⟨#[105, 102]⟩] w fun e w' => e = .returned (.bool true) ∧ w = w' := by
  go_enter Tryz.func127, Tryz.ntmps127
  go_wp2
  go_ret
  exact ⟨rfl, rfl⟩
theorem refWord_15 (w : World) : Calls Tryz.prog 127 #[.string ⟨#[105, 109, 112, 108, 101, 109, 101, 110, 116, 115]⟩] w fun e w' => e = .returned (.bool true) ∧ w = w' := by
  go_enter Tryz.func127, Tryz.ntmps127
  go_wp2
  go_ret
  exact ⟨rfl, rfl⟩
theorem refWord_16 (w : World) : Calls Tryz.prog 127 #[.string ⟨#[105, 110, 115, 116, 97, 110, 99, 101, 111, 102]⟩] w fun e w' => e = .returned (.bool true) ∧ w = w' := by
  go_enter Tryz.func127, Tryz.ntmps127
  go_wp2
  go_ret
  exact ⟨rfl, rfl⟩
theorem refWord_17 (w : World) : Calls Tryz.prog 127 #[.string ⟨#[105, 110, 116, 101, 114, 102, 97, 99, 101]⟩] w fun e w' => e = .returned (.bool true) ∧ w = w' := by
  go_enter Tryz.func127, Tryz.ntmps127
  go_wp2
  go_ret
  exact ⟨rfl, rfl⟩
theorem refWord_18 (w : World) : Calls Tryz.prog 127 #[.string ⟨#[110, 101, 119]⟩] w fun e w' => e = .returned (.bool true) ∧ w = w' := by
  go_enter Tryz.func127, Tryz.ntmps127
  go_wp2
  go_ret
  exact ⟨rfl, rfl⟩
theorem refWord_19 (w : World) : Calls Tryz.prog 127 #[.string ⟨#[110, 117, 108, 108]⟩] w fun e w' => e = .returned (.bool true) ∧ w = w' := by
  go_enter Tryz.func127, Tryz.ntmps127
  go_wp2
  go_ret
  exact ⟨rfl, rfl⟩
theorem refWord_20 (w : World) : Calls Tryz.prog 127 #[.string ⟨#[112, 117, 98, 108, 105, 99]⟩] w fun e w' => e = .returned (.bool true) ∧ w = w' := by
  go_enter Tryz.func127, Tryz.ntmps127
  go_wp2
  go_ret
  exact ⟨rfl, rfl⟩
theorem refWord_21 (w : World) : Calls Tryz.prog 127 #[.string ⟨#[114, 101, 116, 117, 114, 110]⟩] w fun e w' => e = .returned (.bool true) ∧ w = w' := by
  go_enter Tryz.func127, Tryz.ntmps127
  go_wp2
  go_ret
  exact ⟨rfl, rfl⟩
theorem refWord_22 (w : World) : Calls Tryz.prog 127 #[.string ⟨#[116, 104, 114, 111, 119]⟩] w fun e w' => e = .returned (.bool true) ∧ w = w' := by
  go_enter Tryz.func127, Tryz.ntmps127
  go_wp2
  go_ret
  exact ⟨rfl, rfl⟩
theorem refWord_23 (w : World) : Calls Tryz.prog 127 #[.string ⟨#[116, 114, 117, 101]⟩] w fun e w' => e = .returned (.bool true) ∧ w = w' := by
  go_enter Tryz.func127, Tryz.ntmps127
  go_wp2
  go_ret
  exact ⟨rfl, rfl⟩
theorem refWord_24 (w : World) : Calls Tryz.prog 127 #[.string ⟨#[116, 114, 121]⟩] w fun e w' => e = .returned (.bool true) ∧ w = w' := by
  go_enter Tryz.func127, Tryz.ntmps127
  go_wp2
  go_ret
  exact ⟨rfl, rfl⟩
theorem refWord_25 (w : World) : Calls Tryz.prog 127 #[.string ⟨#[119, 104, 105, 108, 101]⟩] w fun e w' => e = .returned (.bool true) ∧ w = w' := by
  go_enter Tryz.func127, Tryz.ntmps127
  go_wp2
  go_ret
  exact ⟨rfl, rfl⟩
theorem refWord_26 (w : World) : Calls Tryz.prog 127 #[.string ⟨#[121, 105, 101, 108, 100]⟩] w fun e w' => e = .returned (.bool true) ∧ w = w' := by
  go_enter Tryz.func127, Tryz.ntmps127
  go_wp2
  go_ret
  exact ⟨rfl, rfl⟩

theorem refWord_any (s : ByteArray) (w : World) :
    Calls Tryz.prog 127 #[.string s] w fun e w' => e = .returned (.bool (LexPlain.isWord s.data.toList)) ∧ w = w' := by
  cases h : LexPlain.isWord s.data.toList with
  | false => exact refWord_no s w h
  | true =>
    have hm : s.data.toList ∈ LexPlain.wordsL := by unfold LexPlain.isWord at h; simpa using h
    simp only [LexPlain.wordsL, List.mem_cons, List.not_mem_nil, or_false] at hm
    rcases hm with h | h | h | h | h | h | h | h | h | h | h | h | h | h | h | h | h | h | h | h | h | h | h | h | h | h | h
    · rw [ba_of s _ h]; exact refWord_0 w
    · rw [ba_of s _ h]; exact refWord_1 w
    · rw [ba_of s _ h]; exact refWord_2 w
    · rw [ba_of s _ h]; exact refWord_3 w
    · rw [ba_of s _ h]; exact refWord_4 w
    · rw [ba_of s _ h]; exact refWord_5 w
    · rw [ba_of s _ h]; exact refWord_6 w
    · rw [ba_of s _ h]; exact refWord_7 w
    · rw [ba_of s _ h]; exact refWord_8 w
    · rw [ba_of s _ h]; exact refWord_9 w
    · rw [ba_of s _ h]; exact refWord_10 w
    · rw [ba_of s _ h]; exact refWord_11 w
    · rw [ba_of s _ h]; exact refWord_12 w
    · rw [ba_of s _ h]; exact refWord_13 w
    · rw [ba_of s _ h]; exact refWord_14 w
    · rw [ba_of s _ h]; exact refWord_15 w
    · rw [ba_of s _ h]; exact refWord_16 w
    · rw [ba_of s _ h]; exact refWord_17 w
    · rw [ba_of s _ h]; exact refWord_18 w
    · rw [ba_of s _ h]; exact refWord_19 w
    · rw [ba_of s _ h]; exact refWord_20 w
    · rw [ba_of s _ h]; exact refWord_21 w
    · rw [ba_of s _ h]; exact refWord_22 w
    · rw [ba_of s _ h]; exact refWord_23 w
    · rw [ba_of s _ h]; exact refWord_24 w
    · rw [ba_of s _ h]; exact refWord_25 w
    · rw [ba_of s _ h]; exact refWord_26 w
end Go.Proofs.YteinadddmcicoaaGreatDoor
