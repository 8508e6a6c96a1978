/- The law LexLines answers true. -/
import Derived.Test.YteinadddmcicoaaDoorLexAlive
import Derived.Test.YteinadddmcicoaaDoorLexRefFeeds
import Derived.Test.YteinadddmcicoaaDoorLexLists
import Derived.Test.YteinadddmcicoaaDoorLexLawsP
import Derived.Deep.QuietTactic
import Derived.BigQuiet
import Derived.Deep.Cut
import Derived.IntWalk
namespace Go.Proofs.YteinadddmcicoaaDoor
open Go.RowKit Go.Shelf
open LexPlain (Tok lf lexA LinesOk TokOk)

theorem has_draws {w : World} (h : Has w) (n : Nat) : Has (w.drewN n) := h.next ⟨rfl, rfl, rfl, Nat.le_refl _, fun _ _ => rfl⟩

set_option maxHeartbeats 6400000 in
set_option maxRecDepth 100000 in
theorem lexLines_any (s : ByteArray) (hs : s.size ≤ 140737488351232) (w : World) (hH : Has w) :
    Calls Tryd.prog 7 #[.string s] w fun e w' => e = .returned (.bool true) ∧ Below w.heap.size w w' := by
  have CF := Lib.hid (fun w => refFeeds_any s (by omega) w)
  have CA := Lib.hid (fun w hh => alive_any w hh)
  by_cases hbig : 65536 < s.size
  · have C1 := Lib.hid (tokens_long s hbig (by omega) w)
    have i1 : decide ((0 : Int) ≤ (feedsL s.data.toList : Int)) = true := decide_eq_true (by omega)
    clear hs hbig
    go_enter Tryd.func7, Tryd.ntmps7
    go_wp2_with fail
    refine C1.out.mono ?_
    rintro e w1 ⟨rfl, rfl⟩
    go_wp2_with fail
    refine (CF.out _).mono ?_
    rintro e w1 ⟨rfl, rfl⟩
    go_wp2_with fail
    refine (CA.out _ hH).mono ?_
    rintro e w1 ⟨rfl, hb⟩
    go_wp2_with fail
    go_returns
    exact ⟨rfl, hb⟩
  have C1 := Lib.hid (tokens_any s (by omega) w hH)
  have hlines := LexPlain.lexA_lines s.data.toList.length s.data.toList 0 (Nat.le_refl _)
  have hfl : lf s.data.toList ≤ 65536 := by
    have h1 : lf s.data.toList ≤ s.data.toList.length := List.countP_le_length
    have h2 : s.data.toList.length = s.size := Array.length_toList
    omega
  rw [lf_feeds] at CF
  generalize lf s.data.toList = F at hlines CF hfl
  cases ho : lexA 0 s.data.toList with
  | inl at' =>
    rw [ho] at C1 hlines
    have i1 : (at' : Int) ≤ (F : Int) := by have := hlines.2; omega
    have i2 : (0 : Int) ≤ (at' : Int) := by omega
    clear ho hlines hs hbig
    go_enter Tryd.func7, Tryd.ntmps7
    go_wp2_with fail
    refine C1.out.mono ?_
    rintro e w1 ⟨he, hb1⟩
    obtain rfl : e = .returned (.tuple #[.slice none 0 0, .int .i64 at', .int .i64 6]) := he
    have HB1 := Lib.hid hb1
    have HH1 := Lib.hid (hH.next hb1)
    clear hb1
    go_wp2_with fail
    refine (CF.out _).mono ?_
    rintro e w2 ⟨rfl, rfl⟩
    go_wp2_with fail
    refine (CA.out _ HH1.out).mono ?_
    rintro e w3 ⟨rfl, hb⟩
    go_wp2_with fail
    go_returns
    exact ⟨rfl, HB1.out.thens hb⟩
  | inr ts =>
    rw [ho] at C1 hlines
    have HLN := Lib.hid hlines
    have hln : ts.length ≤ 65536 := by
      have h1 := (LexPlain.spells_len s.data.toList.length s.data.toList 0 ts (Nat.le_refl _) ho).2
      have h2 : s.data.toList.length = s.size := Array.length_toList
      omega
    clear ho hlines hs hbig
    go_enter Tryd.func7, Tryd.ntmps7
    go_wp2_with fail
    refine C1.out.mono ?_
    rintro e w1 ⟨⟨v, rfl, hown⟩, hb1⟩
    have HB1 := Lib.hid hb1
    have HH1 := Lib.hid (hH.next hb1)
    have HT := Lib.hid (tokAt_of hown)
    obtain ⟨a, cap, rfl⟩ := own_form hown
    clear hb1 hown
    go_wp2_with fail
    go_loopw [6] (fun vi wr => ∃ k n : Nat, vi = .int .i64 k ∧ k ≤ ts.length ∧ wr = w1.drewN n) (fun vi _ => ts.length - (intOf vi).toNat)
    case atStart => exact ⟨0, 0, rfl, by omega, rfl⟩
    case round =>
      obtain ⟨k, n, rfl, hk, rfl⟩ := hrel
      by_cases hkn : k < ts.length
      · obtain ⟨g, c', hv, _, _, hat⟩ := HT.out (by omega)
        injection hv with e1 e2 e3
        subst e1
        clear e2 e3
        obtain ⟨l1, l2, l3, l4⟩ := lines_at HLN.out k hkn
        obtain ⟨p0, p1, p2, p3⟩ := hat k hkn
        have hprev := fun (j : Nat) (hj : j + 1 = k) => (hat j (by omega)).2.2.2
        generalize hT : ts[k] = tk at l1 l2 l3 p0 p1 p2 p3
        obtain ⟨kd, S, N, L⟩ := tk
        simp only at l1 l2 l3 p0 p1 p2 p3
        have hL0 : decide ((L : Int) < 0) = false := decide_eq_false (by omega)
        have hLF : decide (F < L) = false := decide_eq_false (by omega)
        have hcF := Lib.hid (fun w' => (CF.out w').mono fun _ _ h => (⟨h.1, h.2.symm⟩ : _ ∧ _))
        have l4' := Lib.hid (show ∀ j, j + 1 = k → ∃ Lj : Nat, Lj ≤ L ∧ w1.cell? ⟨g, j * 4 + 3, none⟩ = some (.int .i64 Lj) from fun j hj => ⟨_, by have := l4 j hj; rw [hT] at this; exact this, hprev j hj⟩)
        have Q0 := Lib.hid p0
        have Q1 := Lib.hid p1
        have Q2 := Lib.hid p2
        have L3 := Lib.hid l3
        clear l4 hprev hat p0 p1 p2 l3 hT
        go_upto_region 7 with (fail)
        go_cut [71] from 38 to 71 (fun c wx => c = .bool false ∧ ∃ m, wx = w1.drewN m)
        case first =>
          by_cases hk0 : 0 < k
          · obtain ⟨j, rfl⟩ : ∃ j, k = j + 1 := ⟨k - 1, by omega⟩
            obtain ⟨Lj, hLj, hcj⟩ := l4'.out j rfl
            have hLL : decide (L < Lj) = false := decide_eq_false (by omega)
            have b0 : (0 : Int) ≤ (j : Int) + 1 := by omega
            have b1 : (j : Int) + 1 < (ts.length : Int) := by omega
            have b2 : (j : Int) < (ts.length : Int) := by omega
            have t1 : ((j : Int) + 1).toNat = j + 1 := by omega
            have w1' : IntKind.i64.wrap ((j : Int) + 1 - 1) = (j : Int) := by rw [IntWalk.i64_in _ (by omega)]; omega
            have w2' : IntKind.i64.wrap (j : Int) = (j : Int) := IntWalk.i64_in _ (by omega)
            clear hk0
            go_big_quiet (first | (go_at_call 16; exact (hcF.out _).mono fun _ _ h => ⟨h.1, _, h.2⟩))
            go_wp2
            go_meet
            exact ⟨rfl, _, by rw [World.drewN_drewN]⟩
          · have hd : decide (0 < k) = false := decide_eq_false (by omega)
            have b1 : (k : Int) < (ts.length : Int) := by omega
            clear hk0
            go_big_quiet (first | (go_at_call 16; exact (hcF.out _).mono fun _ _ h => ⟨h.1, _, h.2⟩))
            go_wp2
            go_meet
            exact ⟨rfl, _, by rw [World.drewN_drewN]⟩
        case rest =>
          obtain ⟨rfl, m, rfl⟩ := hcut
          clear l4' hL0 hLF hcF p3 l1 l2
          have p0 := Q0.out
          have p1 := Q1.out
          have p2 := Q2.out
          clear Q0 Q1 Q2
          rcases L3.out with ⟨rfl, hn, rfl⟩ | ⟨rfl, hw, rfl⟩ | ⟨rfl, hn, rfl⟩ | ⟨rfl, hx, hne, hd⟩ | ⟨rfl, rfl⟩ | ⟨rfl, hs, rfl⟩
          · clear L3
            have hsm := name_small hn
            have CN := Lib.hid (fun w' hh => name_any ⟨S.toArray⟩ (by show S.toArray.size ≤ _; rw [List.size_toArray]; omega) w' hh)
            rw [show (⟨S.toArray⟩ : ByteArray).data.toList = S from rfl, hn] at CN
            clear hn hsm
            go_wp2_with fail
            refine (CN.out _ (has_draws HH1.out _)).mono ?_
            rintro e w3 ⟨rfl, rfl⟩
            go_wp2_with fail
            go_roundw
            case rel => exact ⟨k + 1, _, by go_num, by omega, rfl⟩
            case measure => simp [intOf]; omega
          · clear L3
            have hsm := word_small hw
            have CN := Lib.hid (fun w' hh => word_any ⟨S.toArray⟩ (by show S.toArray.size ≤ _; rw [List.size_toArray]; omega) w' hh)
            rw [show (⟨S.toArray⟩ : ByteArray).data.toList = S from rfl, hw] at CN
            clear hw hsm
            go_wp2_with fail
            refine (CN.out _ (has_draws HH1.out _)).mono ?_
            rintro e w3 ⟨rfl, rfl⟩
            go_wp2_with fail
            go_roundw
            case rel => exact ⟨k + 1, _, by go_num, by omega, rfl⟩
            case measure => simp [intOf]; omega
          · clear L3
            have hsm := name_small hn
            have CN := Lib.hid (fun w' hh => name_any ⟨S.toArray⟩ (by show S.toArray.size ≤ _; rw [List.size_toArray]; omega) w' hh)
            rw [show (⟨S.toArray⟩ : ByteArray).data.toList = S from rfl, hn] at CN
            clear hn hsm
            go_wp2_with fail
            refine (CN.out _ (has_draws HH1.out _)).mono ?_
            rintro e w3 ⟨rfl, rfl⟩
            go_wp2_with fail
            go_roundw
            case rel => exact ⟨k + 1, _, by go_num, by omega, rfl⟩
            case measure => simp [intOf]; omega
          · clear L3
            clear hx hne hd
            go_wp2_with fail
            go_roundw
            case rel => exact ⟨k + 1, _, by go_num, by omega, rfl⟩
            case measure => simp [intOf]; omega
          · clear L3
            go_wp2_with fail
            go_roundw
            case rel => exact ⟨k + 1, _, by go_num, by omega, rfl⟩
            case measure => simp [intOf]; omega
          · clear L3
            clear hs
            go_wp2_with fail
            go_roundw
            case rel => exact ⟨k + 1, _, by go_num, by omega, rfl⟩
            case measure => simp [intOf]; omega
      · go_wp2_with fail
        refine (CA.out (w1.drewN n) (HH1.out.next (show Below w1.heap.size w1 (w1.drewN n) from ⟨rfl, rfl, rfl, Nat.le_refl _, fun _ _ => rfl⟩))).mono ?_
        rintro e w3 ⟨rfl, hb⟩
        go_wp2_with fail
        go_returns
        exact ⟨rfl, HB1.out.thens ((show Below w1.heap.size w1 (w1.drewN n) from ⟨rfl, rfl, rfl, Nat.le_refl _, fun _ _ => rfl⟩).trans hb)⟩
end Go.Proofs.YteinadddmcicoaaDoor
