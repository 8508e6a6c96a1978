/- Walks over WordRing and WordOrders. -/
import Derived.Test.YthipeocjgflfaaaDoorWordLaws
namespace Go.Proofs.YthipeocjgflfaaaDoor
open Go.RowKit Go.Shelf

theorem does_of (c a b v x : Int) (hd : doR c a b = (v, x)) (C : Does 9 c a b) (w : World) :
    Calls Tryd.prog 18 #[.int .u8 c, .int .i64 a, .int .i64 b] w fun e w' => e = .returned (.int .i64 v) ∧ w = w' := by
  have C1 := Lib.hid C
  unfold Does at C1
  rw [hd] at C1
  clear C hd
  go_enter Tryd.func18, Tryd.ntmps18
  go_wp2_with (go_at_call 9; refine (C1.out _).mono ?_; rintro e w1 ⟨rfl, rfl⟩)
  go_ret
  exact ⟨rfl, rfl⟩

theorem does_add (a b : Int) (w : World) : Calls Tryd.prog 18 #[.int .u8 1, .int .i64 a, .int .i64 b] w fun e w' => e = .returned (.int .i64 (wrap64 (a + b))) ∧ w = w' :=
  does_of 1 a b _ 0 (by simp [doR]) (doRing_any 1 a b (by omega)) w
theorem does_sub (a b : Int) (w : World) : Calls Tryd.prog 18 #[.int .u8 2, .int .i64 a, .int .i64 b] w fun e w' => e = .returned (.int .i64 (wrap64 (a - b))) ∧ w = w' :=
  does_of 2 a b _ 0 (by simp [doR]) (doRing_any 2 a b (by omega)) w
theorem does_mul (a b : Int) (w : World) : Calls Tryd.prog 18 #[.int .u8 3, .int .i64 a, .int .i64 b] w fun e w' => e = .returned (.int .i64 (wrap64 (a * b))) ∧ w = w' :=
  does_of 3 a b _ 0 (by simp [doR]) (doRing_any 3 a b (by omega)) w

theorem sum_any (a b : Int) (w : World) : Calls Tryd.prog 16 #[.int .i64 a, .int .i64 b] w fun e w' => e = .returned (.int .i64 (wrap64 (a + b))) ∧ w = w' := by
  go_enter Tryd.func16, Tryd.ntmps16
  go_wp2_with (go_at_call 18; refine (does_add _ _ _).mono ?_; rintro e w1 ⟨rfl, rfl⟩)
  go_ret
  exact ⟨rfl, rfl⟩
theorem times_any (a b : Int) (w : World) : Calls Tryd.prog 17 #[.int .i64 a, .int .i64 b] w fun e w' => e = .returned (.int .i64 (wrap64 (a * b))) ∧ w = w' := by
  go_enter Tryd.func17, Tryd.ntmps17
  go_wp2_with (go_at_call 18; refine (does_mul _ _ _).mono ?_; rintro e w1 ⟨rfl, rfl⟩)
  go_ret
  exact ⟨rfl, rfl⟩

theorem wrapM (a b c : Int) : wrap64 (wrap64 (a * b) * c) = wrap64 (a * b * c) := by
  unfold wrap64
  have h1 : (a * b + 9223372036854775808) % 18446744073709551616 - 9223372036854775808 = a * b - 18446744073709551616 * ((a * b + 9223372036854775808) / 18446744073709551616) := by omega
  rw [h1, Int.sub_mul, Int.mul_assoc 18446744073709551616]
  generalize (a * b + 9223372036854775808) / 18446744073709551616 * c = k
  generalize a * b * c = z
  omega
theorem wrapS (a b : Int) : wrap64 (a * wrap64 b) = wrap64 (a * b) := by
  have := wrapM 1 b a
  rw [Int.one_mul] at this
  rw [Int.mul_comm, this, Int.mul_comm]

theorem ring1 (a b : Int) : (wrap64 (a + b) != wrap64 (b + a)) = false := by rw [Int.add_comm]; simp
theorem ring2 (a b : Int) : (wrap64 (a * b) != wrap64 (b * a)) = false := by rw [Int.mul_comm]; simp
theorem ring3 (a b c : Int) : (wrap64 (wrap64 (a + b) + c) != wrap64 (a + wrap64 (b + c))) = false := by
  have : wrap64 (wrap64 (a + b) + c) = wrap64 (a + wrap64 (b + c)) := by unfold wrap64; omega
  rw [this]; simp
theorem ring4 (a b c : Int) : (wrap64 (wrap64 (a * b) * c) != wrap64 (a * wrap64 (b * c))) = false := by
  rw [wrapM, wrapS, Int.mul_assoc]; simp
theorem ring5 (a b c : Int) : (wrap64 (a * wrap64 (b + c)) == wrap64 (wrap64 (a * b) + wrap64 (a * c))) = true := by
  have : wrap64 (wrap64 (a * b) + wrap64 (a * c)) = wrap64 (a * b + a * c) := by unfold wrap64; omega
  rw [wrapS, this, Int.mul_add]; simp
theorem ring6 (a b : Int) (h1 : -9223372036854775808 ≤ a) (h2 : a ≤ 9223372036854775807) : (wrap64 (wrap64 (a + b) - b) == a) = true := by
  rw [beq_iff_eq]; unfold wrap64; omega
theorem ring7 (a : Int) (h1 : -9223372036854775808 ≤ a) (h2 : a ≤ 9223372036854775807) : (wrap64 a == a) = true := by
  rw [beq_iff_eq]; unfold wrap64; omega

set_option maxHeartbeats 1600000 in
theorem wordRing_any (a b c : Int) (h1 : -9223372036854775808 ≤ a) (h2 : a ≤ 9223372036854775807) (_h3 : -9223372036854775808 ≤ b) (_h4 : b ≤ 9223372036854775807) (_h5 : -9223372036854775808 ≤ c) (_h6 : c ≤ 9223372036854775807) (w : World) (h : Has w) :
    Calls Tryd.prog 7 #[.int .i64 a, .int .i64 b, .int .i64 c] w (True_ w) := by
  have e1 := ring1 a b
  have e2 := ring2 a b
  have e3 := ring3 a b c
  have e4 := ring4 a b c
  have e5 := ring5 a b c
  have e6 := ring6 a b h1 h2
  have e7 := ring7 a h1 h2
  clear h1 h2 _h3 _h4 _h5 _h6
  go_enter Tryd.func7, Tryd.ntmps7
  go_wp2_with (first | (go_at_call 16; refine (sum_any _ _ _).mono ?_; rintro e w1 ⟨rfl, rfl⟩) | (go_at_call 17; refine (times_any _ _ _).mono ?_; rintro e w1 ⟨rfl, rfl⟩) | (go_at_call 18; refine (does_sub _ _ _).mono ?_; rintro e w1 ⟨rfl, rfl⟩) | (go_at_call 11; refine (lives_any _ h).mono ?_; rintro e w1 ⟨rfl, hb⟩))
  go_ret
  exact ⟨rfl, hb⟩

theorem cmp_of (c x y v : Int) (hc : (c = 6 ∧ v = if x < y then 1 else 0) ∨ (c = 7 ∧ v = if x ≤ y then 1 else 0) ∨ (c = 8 ∧ v = if y < x then 1 else 0) ∨ (c = 9 ∧ v = if y ≤ x then 1 else 0))
    (p : -9223372036854775808 ≤ x) (q : x ≤ 9223372036854775807) (r : -9223372036854775808 ≤ y) (s : y ≤ 9223372036854775807) (w : World) :
    Calls Tryd.prog 18 #[.int .u8 c, .int .i64 x, .int .i64 y] w fun e w' => e = .returned (.int .i64 v) ∧ w = w' := by
  rcases hc with ⟨rfl, rfl⟩ | ⟨rfl, rfl⟩ | ⟨rfl, rfl⟩ | ⟨rfl, rfl⟩
  all_goals exact does_of _ x y _ 0 (by simp [doR]) (do_all _ x y (by omega) (by omega) p q r s) w

set_option maxHeartbeats 1600000 in
theorem wordOrders_core (a b c lt gt le ge x y : Int) (w : World) (h : Has w)
    (C1 : ∀ w, Calls Tryd.prog 18 #[.int .u8 6, .int .i64 a, .int .i64 b] w fun e w' => e = .returned (.int .i64 lt) ∧ w = w')
    (C2 : ∀ w, Calls Tryd.prog 18 #[.int .u8 8, .int .i64 a, .int .i64 b] w fun e w' => e = .returned (.int .i64 gt) ∧ w = w')
    (C3 : ∀ w, Calls Tryd.prog 18 #[.int .u8 7, .int .i64 a, .int .i64 b] w fun e w' => e = .returned (.int .i64 le) ∧ w = w')
    (C4 : ∀ w, Calls Tryd.prog 18 #[.int .u8 9, .int .i64 a, .int .i64 b] w fun e w' => e = .returned (.int .i64 ge) ∧ w = w')
    (C5 : ∀ w, Calls Tryd.prog 18 #[.int .u8 8, .int .i64 b, .int .i64 a] w fun e w' => e = .returned (.int .i64 lt) ∧ w = w')
    (C6 : ∀ w, Calls Tryd.prog 18 #[.int .u8 7, .int .i64 b, .int .i64 c] w fun e w' => e = .returned (.int .i64 x) ∧ w = w')
    (C7 : ∀ w, Calls Tryd.prog 18 #[.int .u8 7, .int .i64 a, .int .i64 c] w fun e w' => e = .returned (.int .i64 y) ∧ w = w')
    (hv : (((a == b) = false ∧ lt = 1 ∧ gt = 0 ∧ le = 1 ∧ ge = 0) ∨ ((a == b) = true ∧ lt = 0 ∧ gt = 0 ∧ le = 1 ∧ ge = 1) ∨ ((a == b) = false ∧ lt = 0 ∧ gt = 1 ∧ le = 0 ∧ ge = 1)) ∧ ((x = 0 ∧ y = 0) ∨ (x = 0 ∧ y = 1) ∨ (x = 1 ∧ y = 1) ∨ (le = 0 ∧ x = 1 ∧ y = 0))) :
    Calls Tryd.prog 8 #[.int .i64 a, .int .i64 b, .int .i64 c] w (True_ w) := by
  have D1 := Lib.hid C1
  have D2 := Lib.hid C2
  have D3 := Lib.hid C3
  have D4 := Lib.hid C4
  have D5 := Lib.hid C5
  have D6 := Lib.hid C6
  have D7 := Lib.hid C7
  clear C1 C2 C3 C4 C5 C6 C7
  obtain ⟨⟨hab, rfl, rfl, rfl, rfl⟩ | ⟨hab, rfl, rfl, rfl, rfl⟩ | ⟨hab, rfl, rfl, rfl, rfl⟩, ⟨rfl, rfl⟩ | ⟨rfl, rfl⟩ | ⟨rfl, rfl⟩ | ⟨hle, rfl, rfl⟩⟩ := hv
  all_goals first | (exfalso; omega) | skip
  all_goals
    go_enter Tryd.func8, Tryd.ntmps8
    go_wp2_with fail
    refine (D1.out _).mono ?_
    rintro e w1 ⟨rfl, rfl⟩
    go_wp2_with fail
    refine (D2.out _).mono ?_
    rintro e w1 ⟨rfl, rfl⟩
    go_wp2_with fail
    refine (D3.out _).mono ?_
    rintro e w1 ⟨rfl, rfl⟩
    go_wp2_with fail
    refine (D4.out _).mono ?_
    rintro e w1 ⟨rfl, rfl⟩
    go_wp2_with fail
    refine (D5.out _).mono ?_
    rintro e w1 ⟨rfl, rfl⟩
    go_wp2_with (first | (go_at_call 18; ((with_reducible refine (D6.out _).mono ?_); rintro e w1 ⟨rfl, rfl⟩)) | (go_at_call 18; ((with_reducible refine (D7.out _).mono ?_); rintro e w1 ⟨rfl, rfl⟩)) | (go_at_call 11; refine (lives_any _ h).mono ?_; rintro e w1 ⟨rfl, hb⟩))
    go_ret
    exact ⟨rfl, hb⟩

theorem wordOrders_any (a b c : Int) (h1 : -9223372036854775808 ≤ a) (h2 : a ≤ 9223372036854775807) (h3 : -9223372036854775808 ≤ b) (h4 : b ≤ 9223372036854775807) (h5 : -9223372036854775808 ≤ c) (h6 : c ≤ 9223372036854775807) (w : World) (h : Has w) :
    Calls Tryd.prog 8 #[.int .i64 a, .int .i64 b, .int .i64 c] w (True_ w) := by
  refine wordOrders_core a b c (if a < b then 1 else 0) (if b < a then 1 else 0) (if a ≤ b then 1 else 0) (if b ≤ a then 1 else 0) (if b ≤ c then 1 else 0) (if a ≤ c then 1 else 0) w h
    (cmp_of 6 a b _ (.inl ⟨rfl, rfl⟩) h1 h2 h3 h4) (cmp_of 8 a b _ (.inr (.inr (.inl ⟨rfl, rfl⟩))) h1 h2 h3 h4) (cmp_of 7 a b _ (.inr (.inl ⟨rfl, rfl⟩)) h1 h2 h3 h4) (cmp_of 9 a b _ (.inr (.inr (.inr ⟨rfl, rfl⟩))) h1 h2 h3 h4)
    (cmp_of 8 b a _ (.inr (.inr (.inl ⟨rfl, rfl⟩))) h3 h4 h1 h2) (cmp_of 7 b c _ (.inr (.inl ⟨rfl, rfl⟩)) h3 h4 h5 h6) (cmp_of 7 a c _ (.inr (.inl ⟨rfl, rfl⟩)) h1 h2 h5 h6) ⟨?_, ?_⟩
  · rcases Int.lt_trichotomy a b with hab | hab | hab
    · refine .inl ⟨by rw [beq_eq_false_iff_ne]; omega, ?_, ?_, ?_, ?_⟩ <;> first | rw [if_pos (by omega)] | rw [if_neg (by omega)]
    · refine .inr (.inl ⟨by rw [beq_iff_eq]; omega, ?_, ?_, ?_, ?_⟩) <;> first | rw [if_pos (by omega)] | rw [if_neg (by omega)]
    · refine .inr (.inr ⟨by rw [beq_eq_false_iff_ne]; omega, ?_, ?_, ?_, ?_⟩) <;> first | rw [if_pos (by omega)] | rw [if_neg (by omega)]
  · by_cases h7 : b ≤ c <;> by_cases h8 : a ≤ c <;> by_cases h9 : a ≤ b <;> simp [h7, h8, h9] <;> omega
end Go.Proofs.YthipeocjgflfaaaDoor
