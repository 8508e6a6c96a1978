/- Walks over layer 2's scanner: sign. -/
import Derived.Test.YteinadddmcicoaaGreatDoorLexNumber
namespace Go.Proofs.YteinadddmcicoaaGreatDoor
open Go.RowKit Go.Shelf
open LexPlain (Tok)

def sgn (l : List UInt8) : Nat → Nat
  | 0 => 0
  | k + 1 => if LexPlain.signsL.contains (l.take (k + 1)) = true then k + 1 else sgn l k

theorem signL_sgn (l : List UInt8) : LexPlain.signL l = sgn l (min 3 l.length) := by
  match l with
  | [] => decide +kernel
  | [a] =>
    show (if LexPlain.signsL.contains [a] = true then 1 else if LexPlain.signsL.contains [a] = true then 1 else if LexPlain.signsL.contains [a] = true then 1 else 0) = if LexPlain.signsL.contains [a] = true then 1 else 0
    by_cases hx : LexPlain.signsL.contains [a] = true
    · rw [if_pos hx, if_pos hx]
    · simp only [if_neg hx]
  | [a, b] =>
    show (if LexPlain.signsL.contains [a, b] = true then 2 else if LexPlain.signsL.contains [a, b] = true then 2 else if LexPlain.signsL.contains [a] = true then 1 else 0) = if LexPlain.signsL.contains [a, b] = true then 2 else if LexPlain.signsL.contains [a] = true then 1 else 0
    by_cases hx : LexPlain.signsL.contains [a, b] = true
    · rw [if_pos hx, if_pos hx]
    · simp only [if_neg hx]
  | a :: b :: c :: r =>
    have e : min 3 (a :: b :: c :: r).length = 3 := by simp [List.length]
    rw [e]
    rfl

def SignEnd (B b line : Nat) (s : ByteArray) (ts : List Tok) (n : Nat) (w' : World) : Prop :=
  (n = 0 → ScanBad B b line w') ∧ (n ≠ 0 → Scan B b (s.extract n s.size) line (ts ++ [⟨6, s.data.toList.take n, 0, line⟩]) false w')

theorem sign_word (s : ByteArray) (k : Nat) : (⟨#[32]⟩ ++ s.extract 0 k ++ ⟨#[32]⟩ : ByteArray).data.toList = 32 :: (s.data.toList.take k ++ [32]) := by
  simp

set_option maxHeartbeats 3200000 in
theorem sign_any (B b : Nat) (s : ByteArray) (line : Nat) (ts : List Tok) (w : World) (h : Scan B b s line ts false w) (hB : B ≤ w.heap.size) (hl : line ≤ 1000000) (hs : s.size ≤ 1000000) (hts : ts.length ≤ 1000000) (hH : HasB B w) :
    Calls Tryz.prog 124 #[.pointer (some ⟨b, 0, none⟩)] w fun e w' => e = .returned (.tuple #[]) ∧ SignEnd B b line s ts (LexPlain.signL s.data.toList) w' ∧ Below B w w' := by
  have hsz : s.data.toList.length = s.size := Array.length_toList
  obtain ⟨hlt, c0, c1, c3, f0, f1, f3⟩ := h.cells
  generalize hm : LexPlain.signL s.data.toList = m
  have HM := Lib.hid hm
  have HS := Lib.hid h
  clear hm h
  go_enter Tryz.func124, Tryz.ntmps124
  go_wp2
  go_loop [2] (fun i => ∃ k : Nat, k ≤ 3 ∧ k ≤ s.size ∧ i = .int .i64 k ∧ m = sgn s.data.toList k) (fun i => (intOf i).toNat)
  case atStart => exact ⟨min 3 s.size, by omega, by omega, by congr 1; omega, by rw [← HM.out, signL_sgn, hsz]⟩
  case round =>
    obtain ⟨k, hk3, hk, rfl, hr⟩ := hrel
    have HR := Lib.hid hr
    clear hr
    by_cases h0 : k = 0
    · subst h0
      go_wp2_with fail
      go_end0
      exact ⟨rfl, ⟨fun _ => ⟨_, _, HS.out.setBad true⟩, fun hne => absurd HR.out hne⟩, (Below.refl B w).setCell (p := ⟨b, 3, none⟩) HS.out.hB (.bool true)⟩
    · obtain ⟨j, rfl⟩ : ∃ j, k = j + 1 := ⟨k - 1, by omega⟩
      have C1 := Lib.hid (fun T hT => contains_in T _ LexPlain.signsT (s.data.toList.take (j + 1)) hT (sign_word s (j + 1)) (by decide +kernel) w hH.has)
      have C2 := Lib.hid (contains_byte (s.extract 0 (j + 1)))
      rw [take_extract] at C2
      have hq := LexPlain.sign_eq (s.data.toList.take (j + 1))
      have hcl : LexPlain.signsL.contains (s.data.toList.take (j + 1)) = true → (s.data.toList.take (j + 1)).contains 32 = false := fun hh => by
        have := List.all_eq_true.1 LexPlain.signs_clean _ (by simpa using hh)
        simp only [Bool.and_eq_true, Bool.not_eq_true'] at this
        exact this.1.1
      have HQ : Hid (LexPlain.signsL.contains (s.data.toList.take (j + 1)) = (Lib.contains LexPlain.signsT (32 :: (s.data.toList.take (j + 1) ++ [32])) && !(s.data.toList.take (j + 1)).contains 32)) := Lib.hid (by
        rcases hq with hq | hq
        · exact hq.symm
        · rw [hq]
          cases hx : LexPlain.signsL.contains (s.data.toList.take (j + 1)) with
          | false => simp
          | true => rw [hcl hx] at hq; cases hq)
      clear hq hcl
      generalize Lib.contains LexPlain.signsT (32 :: (s.data.toList.take (j + 1) ++ [32])) = y1 at C1 HQ
      generalize (s.data.toList.take (j + 1)).contains 32 = y2 at C2 HQ
      have hle : j + 1 ≤ s.size := hk
      cases y1 with
      | false =>
        go_wp2_with fail
        refine (C1.out _ (by rfl)).mono ?_
        rintro e w1 ⟨rfl, rfl⟩
        go_wp2_with fail
        go_round
        case rel => exact ⟨j, by omega, by omega, by go_num, by rw [HR.out]; show (if _ then _ else _) = _; rw [HQ.out]; rfl⟩
        case measure => simp [intOf]
      | true =>
        cases y2 with
        | true =>
          go_wp2_with fail
          refine (C1.out _ (by rfl)).mono ?_
          rintro e w1 ⟨rfl, rfl⟩
          go_wp2_with fail
          refine (C2.out _).mono ?_
          rintro e w1 ⟨rfl, rfl⟩
          go_wp2_with fail
          go_round
          case rel => exact ⟨j, by omega, by omega, by go_num, by rw [HR.out]; show (if _ then _ else _) = _; rw [HQ.out]; rfl⟩
          case measure => simp [intOf]
        | false =>
          go_wp2_with fail
          refine (C1.out _ (by rfl)).mono ?_
          rintro e w1 ⟨rfl, rfl⟩
          go_wp2_with fail
          refine (C2.out _).mono ?_
          rintro e w1 ⟨rfl, rfl⟩
          go_wp2_with fail
          refine (put_any B b s line ts false _ HS.out hB hl _ 6 (by rfl) (s.extract 0 (j + 1)) _ _ _ (j + 1) (by rfl) hle hs hts).mono ?_
          rintro e w3 ⟨rfl, hsc, hb3⟩
          go_wp2_with fail
          go_returns
          rw [take_extract] at hsc
          have hm : m = j + 1 := by rw [HR.out]; show (if _ then _ else _) = _; rw [HQ.out]; rfl
          subst hm
          exact ⟨rfl, ⟨fun hz => absurd hz (by omega), fun _ => hsc⟩, hb3⟩
end Go.Proofs.YteinadddmcicoaaGreatDoor
