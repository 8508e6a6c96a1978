/- The document's Tokens computes all tokens. -/
import Derived.Test.YteinadddmcicoaaGreatDoorLexRefOne
import Derived.Test.YteinadddmcicoaaGreatDoorLexAll
import Derived.Test.YteinadddmcicoaaGreatDoorLexJoinsP
namespace Go.Proofs.YteinadddmcicoaaGreatDoor
open Go.RowKit Go.Shelf
open LexPlain (Tok lexA)

theorem step_tok (c : UInt8) (r : List UInt8) (n1 : ¬ c.toNat = 10) (n2 : ¬ (c.toNat = 32 ∨ c.toNat = 9 ∨ c.toNat = 13)) (n3 : ¬ (c.toNat = 47 ∧ (r.head?.map (·.toNat)) = some 47)) :
    LexPlain.step (c :: r) = none ∨ ∃ k S v n f, LexPlain.step (c :: r) = some (some (k, S, v), n, f) := by
  unfold LexPlain.step
  simp only
  rw [if_neg n1, if_neg n2, if_neg n3]
  repeat' split
  all_goals first
    | exact .inl rfl
    | exact .inr ⟨_, _, _, _, _, rfl⟩
theorem step_lf (c : UInt8) (r : List UInt8) (h : c.toNat = 10) : LexPlain.step (c :: r) = some (none, 1, 1) := by
  unfold LexPlain.step; simp only; rw [if_pos h]
theorem step_blank (c : UInt8) (r : List UInt8) (h0 : ¬ c.toNat = 10) (h : c.toNat = 32 ∨ c.toNat = 9 ∨ c.toNat = 13) : LexPlain.step (c :: r) = some (none, 1, 0) := by
  unfold LexPlain.step; simp only; rw [if_neg h0, if_pos h]
theorem step_slash (c : UInt8) (r : List UInt8) (h : c.toNat = 47) (h2 : (r.head?.map (·.toNat)) = some 47) : LexPlain.step (c :: r) = some (none, LexPlain.spanL LexPlain.notLF (c :: r), 0) := by
  unfold LexPlain.step; simp only; rw [if_neg (by omega), if_neg (by omega), if_pos ⟨h, h2⟩]
theorem heap2n (w : World) (o1 o2 : Obj) : ((w.alloc o1).alloc o2).heap[w.heap.size + 1]? = some o2 := by
  have h := heap_alloc_new (w.alloc o1) o2
  rw [World.size_alloc] at h
  exact h
theorem own_later {w w' : World} {B : Nat} {e : TypeId} {size : Nat} {v : Value} {n : Nat} {xs : List Value} (h : w.ownsRow B e size v n xs) (hb : Below w.heap.size w w') : w'.ownsRow B e size v n xs := by
  obtain ⟨h1, h2⟩ := h
  refine ⟨h1, ?_⟩
  rcases h2 with h2 | ⟨g, cap, cur, hv, hg, hh, r⟩
  · exact .inl h2
  · have hlt : g < w.heap.size := (Array.getElem?_eq_some_iff.1 hh).1
    exact .inr ⟨g, cap, cur, hv, hg, (hb.block g hlt).trans hh, r⟩

set_option maxHeartbeats 1600000 in
theorem refTokens_long (s : ByteArray) (hs : 65536 < s.size) (hs2 : s.size ≤ 9223372036854775800) (w : World) :
    Calls Tryz.prog 5 #[.string s] w fun e w' => e = .returned (.tuple #[.slice none 0 0, .int .i64 0, .int .i64 3]) ∧ w = w' := by
  have i1 : (65536 : Int) < (s.size : Int) := by omega
  clear hs
  go_enter Tryz.func5, Tryz.ntmps5
  go_wp2_with fail
  go_returns
  exact ⟨rfl, rfl⟩

set_option maxHeartbeats 12800000 in
set_option maxRecDepth 100000 in
theorem refTokens_any (s : ByteArray) (hs : s.size ≤ 65536) (w : World) :
    Calls Tryz.prog 5 #[.string s] w fun e w' => TokEnd w.heap.size (lexA 0 s.data.toList) e w' ∧ Below w.heap.size w w' := by
  obtain ⟨i0, hi0, hz0, hz1, hz2⟩ := info_parts infoTok
  have H0 : Hid (w.ownsRow w.heap.size 71 4 (.slice none 0 0) ([] : List Tok).length (([] : List Tok).flatMap tokCells) ∧ Below w.heap.size w w ∧ lexA 0 s.data.toList = LexPlain.thenL [] (lexA 0 (s.data.toList.drop 0))) := Lib.hid ⟨World.ownsRow_nil w _ _ _, Below.refl _ _, by rw [List.drop_zero]; cases lexA 0 s.data.toList <;> simp [LexPlain.thenL]⟩
  have i1 : ¬ (65536 : Int) < (s.size : Int) := by omega
  go_enter Tryz.func5, Tryz.ntmps5
  go_wp2_with fail
  go_loopw [5, 6, 7] (fun vl vn vi wr => ∃ (i line : Nat) (acc : List Tok), vl = vl ∧ vn = .int .i64 line ∧ vi = .int .i64 i ∧ i ≤ s.size ∧ line ≤ i ∧ acc.length ≤ i ∧ Hid (wr.ownsRow w.heap.size 71 4 vl acc.length (acc.flatMap tokCells) ∧ Below w.heap.size w wr ∧ lexA 0 s.data.toList = LexPlain.thenL acc (lexA line (s.data.toList.drop i)))) (fun _ _ vi _ => s.size - (intOf vi).toNat)
  case atStart => exact ⟨0, 0, [], rfl, rfl, rfl, by omega, by omega, by simp, H0⟩
  case round =>
    obtain ⟨i, line, acc, -, rfl, rfl, his, hli, hal, hr⟩ := hrel
    have hsz := hr.out.2.1.size
    by_cases hin : i < s.size
    · have HDR := Lib.hid (drop_at_ s i hin)
      have hne : Hid (s.data.toList.drop i ≠ []) := Lib.hid (by rw [HDR.out]; simp)
      by_cases h10 : s[i].toNat = 10
      · have HE := Lib.hid (show lexA 0 s.data.toList = LexPlain.thenL acc (lexA (line + 1) (s.data.toList.drop (i + 1))) by
          rw [hr.out.2.2, LexPlain.lexA_step line hne.out, HDR.out, step_lf _ _ h10]; rfl)
        have d1 : ((s[i].toNat : Int) == 10) = true := by rw [beq_iff_eq]; omega
        have d2 : ((s[i].toNat : Int) == 32) = false := by rw [beq_eq_false_iff_ne]; omega
        have d3 : ((s[i].toNat : Int) == 9) = false := by rw [beq_eq_false_iff_ne]; omega
        clear h10
        go_wp2_with fail
        go_roundw
        case rel => exact ⟨i + 1, line + 1, acc, trivial, by go_num, by go_num, by omega, by omega, by omega, Lib.hid ⟨hr.out.1, hr.out.2.1, HE.out⟩⟩
        case measure => simp [intOf]; omega
      have d1 : ((s[i].toNat : Int) == 10) = false := by rw [beq_eq_false_iff_ne]; omega
      by_cases hbl : s[i].toNat = 32 ∨ s[i].toNat = 9 ∨ s[i].toNat = 13
      · have HE := Lib.hid (show lexA 0 s.data.toList = LexPlain.thenL acc (lexA line (s.data.toList.drop (i + 1))) by
          rw [hr.out.2.2, LexPlain.lexA_step line hne.out, HDR.out, step_blank _ _ h10 hbl]; rfl)
        clear h10
        rcases hbl with hb | hb | hb
        · have d2 : ((s[i].toNat : Int) == 32) = true := by rw [beq_iff_eq]; omega
          clear hb
          go_wp2_with fail
          go_roundw
          case rel => exact ⟨i + 1, line, acc, trivial, rfl, by go_num, by omega, by omega, by omega, Lib.hid ⟨hr.out.1, hr.out.2.1, HE.out⟩⟩
          case measure => simp [intOf]; omega
        · have d2 : ((s[i].toNat : Int) == 32) = false := by rw [beq_eq_false_iff_ne]; omega
          have d3 : ((s[i].toNat : Int) == 9) = true := by rw [beq_iff_eq]; omega
          clear hb
          go_wp2_with fail
          go_roundw
          case rel => exact ⟨i + 1, line, acc, trivial, rfl, by go_num, by omega, by omega, by omega, Lib.hid ⟨hr.out.1, hr.out.2.1, HE.out⟩⟩
          case measure => simp [intOf]; omega
        · have d2 : ((s[i].toNat : Int) == 32) = false := by rw [beq_eq_false_iff_ne]; omega
          have d3 : ((s[i].toNat : Int) == 9) = false := by rw [beq_eq_false_iff_ne]; omega
          have d4 : ((s[i].toNat : Int) == 13) = true := by rw [beq_iff_eq]; omega
          clear hb
          go_wp2_with fail
          go_roundw
          case rel => exact ⟨i + 1, line, acc, trivial, rfl, by go_num, by omega, by omega, by omega, Lib.hid ⟨hr.out.1, hr.out.2.1, HE.out⟩⟩
          case measure => simp [intOf]; omega
      have d2 : ((s[i].toNat : Int) == 32) = false := by rw [beq_eq_false_iff_ne]; omega
      have d3 : ((s[i].toNat : Int) == 9) = false := by rw [beq_eq_false_iff_ne]; omega
      have d4 : ((s[i].toNat : Int) == 13) = false := by rw [beq_eq_false_iff_ne]; omega
      by_cases h47 : s[i].toNat = 47
      · have d5 : ((s[i].toNat : Int) == 47) = true := by rw [beq_iff_eq]; omega
        by_cases hi1 : i + 1 < s.size
        · have j1 : (i : Int) + 1 < (s.size : Int) := by omega
          have HD2 := Lib.hid (drop_at_ s (i + 1) hi1)
          by_cases h472 : s[i + 1].toNat = 47
          · have d6 : ((s[i + 1].toNat : Int) == 47) = true := by rw [beq_iff_eq]; omega
            have HH : Hid (((s.data.toList.drop (i + 1)).head?.map (·.toNat)) = some 47) := Lib.hid (by rw [HD2.out]; simpa using h472)
            obtain ⟨m, hm⟩ : ∃ m, m = LexPlain.spanL LexPlain.notLF (s.data.toList.drop i) := ⟨_, rfl⟩
            have hml : m ≤ s.size - i := by
              have h1 := LexPlain.spanL_le LexPlain.notLF (s.data.toList.drop i)
              have h2 : (s.data.toList.drop i).length = s.size - i := by rw [List.length_drop, Array.length_toList]; rfl
              omega
            have hm1 : 1 ≤ m := by
              rw [hm, HDR.out, LexPlain.spanL_cons _ _ _ (by unfold LexPlain.notLF; simp; omega)]; omega
            have HE := Lib.hid (show lexA 0 s.data.toList = LexPlain.thenL acc (lexA line (s.data.toList.drop (i + m))) by
              rw [hr.out.2.2, LexPlain.lexA_step line hne.out, HDR.out, step_slash _ _ h47 HH.out, ← HDR.out, ← hm, ← List.drop_drop]; rfl)
            have HM := Lib.hid hm
            clear hm h10 hbl h47 h472
            go_wp2_with fail
            go_loopw [7] (fun vj w2 => ∃ j : Nat, vj = .int .i64 j ∧ i ≤ j ∧ j ≤ s.size ∧ Hid (i + m = j + LexPlain.spanL LexPlain.notLF (s.data.toList.drop j)) ∧ wr = w2) (fun vj _ => s.size - (intOf vj).toNat)
            case atStart => exact ⟨i, rfl, by omega, by omega, Lib.hid (by rw [HM.out]), rfl⟩
            case round =>
              obtain ⟨j, rfl, hij, hjs, hq, rfl⟩ := hrel
              by_cases hjn : j < s.size
              · have HA := Lib.hid (spanL_at LexPlain.notLF s j hjn)
                by_cases hj10 : s[j].toNat = 10
                · have e1 : ((s[j].toNat : Int) == 10) = true := by rw [beq_iff_eq]; omega
                  have HJM : Hid (j = i + m) := Lib.hid (by
                    have h1 := hq.out
                    rw [HA.out, if_neg (by unfold LexPlain.notLF; simp; omega)] at h1
                    omega)
                  clear hj10
                  go_wp2_with fail
                  go_roundw
                  case rel => exact ⟨j, line, acc, trivial, rfl, rfl, by omega, by omega, by omega, Lib.hid ⟨hr.out.1, hr.out.2.1, by rw [HJM.out]; exact HE.out⟩⟩
                  case measure => have := HJM.out; simp [intOf]; omega
                · have e1 : ((s[j].toNat : Int) == 10) = false := by rw [beq_eq_false_iff_ne]; omega
                  have HQ := Lib.hid (show i + m = (j + 1) + LexPlain.spanL LexPlain.notLF (s.data.toList.drop (j + 1)) by
                    have h1 := hq.out
                    rw [HA.out, if_pos (by unfold LexPlain.notLF; simp; omega)] at h1
                    omega)
                  clear hj10
                  go_wp2_with fail
                  go_roundw
                  case rel => exact ⟨j + 1, by go_num, by omega, by omega, HQ, trivial⟩
                  case measure => simp [intOf]; omega
              · have HJM : Hid (j = i + m) := Lib.hid (by
                  have h1 := hq.out
                  rw [List.drop_eq_nil_of_le (by simp; omega)] at h1
                  simp [LexPlain.spanL] at h1
                  omega)
                go_wp2_with fail
                go_roundw
                case rel => exact ⟨j, line, acc, trivial, rfl, rfl, by omega, by omega, by omega, Lib.hid ⟨hr.out.1, hr.out.2.1, by rw [HJM.out]; exact HE.out⟩⟩
                case measure => have := HJM.out; simp [intOf]; omega
          · have d6 : ((s[i + 1].toNat : Int) == 47) = false := by rw [beq_eq_false_iff_ne]; omega
            have hxs : (s.extract i s.size).size = s.size - i := by simp
            have hx0 : (s.extract i s.size)[0]'(by omega) = s[i] := by
              have e2 := list_cons (s.extract i s.size) (by omega)
              rw [drop_extract, HDR.out] at e2
              injection e2 with e3 _
              exact e3.symm
            have m1 : ¬ s[i].toNat = 10 := h10
            have m2 : ¬ (s[i].toNat = 32 ∨ s[i].toNat = 9 ∨ s[i].toNat = 13) := hbl
            have m3 : ¬ (s[i].toNat = 47 ∧ ((s.data.toList.drop (i + 1)).head?.map (·.toNat)) = some 47) := by rintro ⟨_, h⟩; rw [HD2.out] at h; exact h472 (by simpa using h)
            have CO := Lib.hid (one_any (s.extract i s.size) (by omega) (by omega) wr (by rw [hx0]; exact m1) (by rw [hx0]; exact m2) (by rw [hx0, drop_extract, List.drop_drop]; exact m3))
            rw [drop_extract] at CO
            have hso := step_tok s[i] (s.data.toList.drop (i + 1)) m1 m2 m3
            rw [← HDR.out] at hso
            have HST := Lib.hid (LexPlain.lexA_step line hne.out)
            obtain ⟨o, ho⟩ : ∃ o, o = LexPlain.step (s.data.toList.drop i) := ⟨_, rfl⟩
            rw [← ho] at hso CO HST
            rcases hso with hso | ⟨k, S, v, n, f, hso⟩
            · subst hso
              have HE := Lib.hid (show lexA 0 s.data.toList = .inl line by rw [hr.out.2.2, HST.out]; rfl)
              clear ho hxs hx0 m1 m2 m3 h10 hbl h47 h472
              go_wp2_with fail
              refine CO.out.mono ?_
              rintro e w1 ⟨he, hb1⟩
              obtain ⟨x0, x1, x2, x3, rfl⟩ := he
              have HB := Lib.hid (hr.out.2.1.trans (hb1.mono hsz))
              clear hb1
              go_wp2_with fail
              go_returns
              exact ⟨tokEnd_bad HE.out, HB.out.alloc HB.out.size _⟩
            · have hp := LexPlain.step_pos (ho.symm.trans hso)
              have hdl : (s.data.toList.drop i).length = s.size - i := by rw [List.length_drop, Array.length_toList]; rfl
              have hn1 : 1 ≤ n := hp.1
              have hn2 : i + n ≤ s.size := by omega
              have hn0 : ((n : Int) == 0) = false := by rw [beq_eq_false_iff_ne]; omega
              subst hso
              have HE := Lib.hid (show lexA 0 s.data.toList = LexPlain.thenL (acc ++ [(⟨k, S, v, line⟩ : Tok)]) (lexA line (s.data.toList.drop (i + n))) by
                rw [hr.out.2.2, HST.out, ← List.drop_drop]
                simp only
                cases lexA line ((s.data.toList.drop i).drop n) with
                | inl e => rfl
                | inr ts => simp [LexPlain.thenL])
              clear ho hxs hx0 m1 m2 m3 hp hdl h10 hbl h47 h472
              go_wp2_with fail
              refine CO.out.mono ?_
              rintro e w1 ⟨he, hb1⟩
              obtain rfl : e = .returned (.tuple #[.agg #[.int .u8 k, .string ⟨S.toArray⟩, .int .i64 v, .int .i64 0], .int .i64 n]) := he
              have HO1 := Lib.hid (own_later hr.out.1 hb1)
              have HB1 := Lib.hid (hr.out.2.1.trans (hb1.mono hsz))
              have hsz1 := HB1.out.size
              clear hb1
              go_wp2_with (at_builtin; refine wpList_append_own _ rfl _ _ 22 rfl w.heap.size 71 i0 _ 4 40 Tryz.underlying22 hi0 hz0 hz1 hz2 rfl (by omega) _ _ _ rfl ((HO1.out.alloc _).alloc _) ⟨w1.heap.size + 1, 0, none⟩ 1 1 [.int .u8 k, .string ⟨S.toArray⟩, .int .i64 v, .int .i64 line] rfl rfl (World.news_of_block (cs := #[.int .u8 k, .string ⟨S.toArray⟩, .int .i64 v, .int .i64 line]) (t := 71) (fr := (0, 0)) (heap2n w1 _ _)) ?c2 ?c3 ?c4 ?c5 ?_)
              case c2 => intro u hu; simp at hu; rcases hu with rfl | rfl | rfl | rfl <;> rfl
              case c3 => unfold maxLen; omega
              case c4 => omega
              case c5 => simp; omega
              intro v' w2 hown' hgrow _
              have HN := Lib.hid (show w2.ownsRow w.heap.size 71 4 v' (acc ++ [(⟨k, S, v, line⟩ : Tok)]).length ((acc ++ [(⟨k, S, v, line⟩ : Tok)]).flatMap tokCells) by
                rw [List.flatMap_append, List.length_append]; exact hown')
              have HB2 := Lib.hid (((HB1.out.alloc hsz1 _).alloc (by simp; omega) _).grown hgrow (by simp; omega) (fun q hq => (HO1.out.lt q hq).1))
              clear hown' hgrow
              go_wp2_with fail
              go_roundw
              case rel => exact ⟨i + n, line, acc ++ [(⟨k, S, v, line⟩ : Tok)], trivial, rfl, by go_num, by omega, by omega, by simp; omega, Lib.hid ⟨HN.out, HB2.out, HE.out⟩⟩
              case measure => simp [intOf]; omega
        · have j1 : ¬ (i : Int) + 1 < (s.size : Int) := by omega
          have hxs : (s.extract i s.size).size = s.size - i := by simp
          have hx0 : (s.extract i s.size)[0]'(by omega) = s[i] := by
            have e2 := list_cons (s.extract i s.size) (by omega)
            rw [drop_extract, HDR.out] at e2
            injection e2 with e3 _
            exact e3.symm
          have m1 : ¬ s[i].toNat = 10 := h10
          have m2 : ¬ (s[i].toNat = 32 ∨ s[i].toNat = 9 ∨ s[i].toNat = 13) := hbl
          have m3 : ¬ (s[i].toNat = 47 ∧ ((s.data.toList.drop (i + 1)).head?.map (·.toNat)) = some 47) := by rintro ⟨_, h⟩; rw [List.drop_eq_nil_of_le (by rw [Array.length_toList]; show s.size ≤ i + 1; omega)] at h; cases h
          have CO := Lib.hid (one_any (s.extract i s.size) (by omega) (by omega) wr (by rw [hx0]; exact m1) (by rw [hx0]; exact m2) (by rw [hx0, drop_extract, List.drop_drop]; exact m3))
          rw [drop_extract] at CO
          have hso := step_tok s[i] (s.data.toList.drop (i + 1)) m1 m2 m3
          rw [← HDR.out] at hso
          have HST := Lib.hid (LexPlain.lexA_step line hne.out)
          obtain ⟨o, ho⟩ : ∃ o, o = LexPlain.step (s.data.toList.drop i) := ⟨_, rfl⟩
          rw [← ho] at hso CO HST
          rcases hso with hso | ⟨k, S, v, n, f, hso⟩
          · subst hso
            have HE := Lib.hid (show lexA 0 s.data.toList = .inl line by rw [hr.out.2.2, HST.out]; rfl)
            clear ho hxs hx0 m1 m2 m3 h10 hbl h47
            go_wp2_with fail
            refine CO.out.mono ?_
            rintro e w1 ⟨he, hb1⟩
            obtain ⟨x0, x1, x2, x3, rfl⟩ := he
            have HB := Lib.hid (hr.out.2.1.trans (hb1.mono hsz))
            clear hb1
            go_wp2_with fail
            go_returns
            exact ⟨tokEnd_bad HE.out, HB.out.alloc HB.out.size _⟩
          · have hp := LexPlain.step_pos (ho.symm.trans hso)
            have hdl : (s.data.toList.drop i).length = s.size - i := by rw [List.length_drop, Array.length_toList]; rfl
            have hn1 : 1 ≤ n := hp.1
            have hn2 : i + n ≤ s.size := by omega
            have hn0 : ((n : Int) == 0) = false := by rw [beq_eq_false_iff_ne]; omega
            subst hso
            have HE := Lib.hid (show lexA 0 s.data.toList = LexPlain.thenL (acc ++ [(⟨k, S, v, line⟩ : Tok)]) (lexA line (s.data.toList.drop (i + n))) by
              rw [hr.out.2.2, HST.out, ← List.drop_drop]
              simp only
              cases lexA line ((s.data.toList.drop i).drop n) with
              | inl e => rfl
              | inr ts => simp [LexPlain.thenL])
            clear ho hxs hx0 m1 m2 m3 hp hdl h10 hbl h47
            go_wp2_with fail
            refine CO.out.mono ?_
            rintro e w1 ⟨he, hb1⟩
            obtain rfl : e = .returned (.tuple #[.agg #[.int .u8 k, .string ⟨S.toArray⟩, .int .i64 v, .int .i64 0], .int .i64 n]) := he
            have HO1 := Lib.hid (own_later hr.out.1 hb1)
            have HB1 := Lib.hid (hr.out.2.1.trans (hb1.mono hsz))
            have hsz1 := HB1.out.size
            clear hb1
            go_wp2_with (at_builtin; refine wpList_append_own _ rfl _ _ 22 rfl w.heap.size 71 i0 _ 4 40 Tryz.underlying22 hi0 hz0 hz1 hz2 rfl (by omega) _ _ _ rfl ((HO1.out.alloc _).alloc _) ⟨w1.heap.size + 1, 0, none⟩ 1 1 [.int .u8 k, .string ⟨S.toArray⟩, .int .i64 v, .int .i64 line] rfl rfl (World.news_of_block (cs := #[.int .u8 k, .string ⟨S.toArray⟩, .int .i64 v, .int .i64 line]) (t := 71) (fr := (0, 0)) (heap2n w1 _ _)) ?c2 ?c3 ?c4 ?c5 ?_)
            case c2 => intro u hu; simp at hu; rcases hu with rfl | rfl | rfl | rfl <;> rfl
            case c3 => unfold maxLen; omega
            case c4 => omega
            case c5 => simp; omega
            intro v' w2 hown' hgrow _
            have HN := Lib.hid (show w2.ownsRow w.heap.size 71 4 v' (acc ++ [(⟨k, S, v, line⟩ : Tok)]).length ((acc ++ [(⟨k, S, v, line⟩ : Tok)]).flatMap tokCells) by
              rw [List.flatMap_append, List.length_append]; exact hown')
            have HB2 := Lib.hid (((HB1.out.alloc hsz1 _).alloc (by simp; omega) _).grown hgrow (by simp; omega) (fun q hq => (HO1.out.lt q hq).1))
            clear hown' hgrow
            go_wp2_with fail
            go_roundw
            case rel => exact ⟨i + n, line, acc ++ [(⟨k, S, v, line⟩ : Tok)], trivial, rfl, by go_num, by omega, by omega, by simp; omega, Lib.hid ⟨HN.out, HB2.out, HE.out⟩⟩
            case measure => simp [intOf]; omega
      · have d5 : ((s[i].toNat : Int) == 47) = false := by rw [beq_eq_false_iff_ne]; omega
        have hxs : (s.extract i s.size).size = s.size - i := by simp
        have hx0 : (s.extract i s.size)[0]'(by omega) = s[i] := by
          have e2 := list_cons (s.extract i s.size) (by omega)
          rw [drop_extract, HDR.out] at e2
          injection e2 with e3 _
          exact e3.symm
        have m1 : ¬ s[i].toNat = 10 := h10
        have m2 : ¬ (s[i].toNat = 32 ∨ s[i].toNat = 9 ∨ s[i].toNat = 13) := hbl
        have m3 : ¬ (s[i].toNat = 47 ∧ ((s.data.toList.drop (i + 1)).head?.map (·.toNat)) = some 47) := fun h => h47 h.1
        have CO := Lib.hid (one_any (s.extract i s.size) (by omega) (by omega) wr (by rw [hx0]; exact m1) (by rw [hx0]; exact m2) (by rw [hx0, drop_extract, List.drop_drop]; exact m3))
        rw [drop_extract] at CO
        have hso := step_tok s[i] (s.data.toList.drop (i + 1)) m1 m2 m3
        rw [← HDR.out] at hso
        have HST := Lib.hid (LexPlain.lexA_step line hne.out)
        obtain ⟨o, ho⟩ : ∃ o, o = LexPlain.step (s.data.toList.drop i) := ⟨_, rfl⟩
        rw [← ho] at hso CO HST
        rcases hso with hso | ⟨k, S, v, n, f, hso⟩
        · subst hso
          have HE := Lib.hid (show lexA 0 s.data.toList = .inl line by rw [hr.out.2.2, HST.out]; rfl)
          clear ho hxs hx0 m1 m2 m3 h10 hbl h47
          go_wp2_with fail
          refine CO.out.mono ?_
          rintro e w1 ⟨he, hb1⟩
          obtain ⟨x0, x1, x2, x3, rfl⟩ := he
          have HB := Lib.hid (hr.out.2.1.trans (hb1.mono hsz))
          clear hb1
          go_wp2_with fail
          go_returns
          exact ⟨tokEnd_bad HE.out, HB.out.alloc HB.out.size _⟩
        · have hp := LexPlain.step_pos (ho.symm.trans hso)
          have hdl : (s.data.toList.drop i).length = s.size - i := by rw [List.length_drop, Array.length_toList]; rfl
          have hn1 : 1 ≤ n := hp.1
          have hn2 : i + n ≤ s.size := by omega
          have hn0 : ((n : Int) == 0) = false := by rw [beq_eq_false_iff_ne]; omega
          subst hso
          have HE := Lib.hid (show lexA 0 s.data.toList = LexPlain.thenL (acc ++ [(⟨k, S, v, line⟩ : Tok)]) (lexA line (s.data.toList.drop (i + n))) by
            rw [hr.out.2.2, HST.out, ← List.drop_drop]
            simp only
            cases lexA line ((s.data.toList.drop i).drop n) with
            | inl e => rfl
            | inr ts => simp [LexPlain.thenL])
          clear ho hxs hx0 m1 m2 m3 hp hdl h10 hbl h47
          go_wp2_with fail
          refine CO.out.mono ?_
          rintro e w1 ⟨he, hb1⟩
          obtain rfl : e = .returned (.tuple #[.agg #[.int .u8 k, .string ⟨S.toArray⟩, .int .i64 v, .int .i64 0], .int .i64 n]) := he
          have HO1 := Lib.hid (own_later hr.out.1 hb1)
          have HB1 := Lib.hid (hr.out.2.1.trans (hb1.mono hsz))
          have hsz1 := HB1.out.size
          clear hb1
          go_wp2_with (at_builtin; refine wpList_append_own _ rfl _ _ 22 rfl w.heap.size 71 i0 _ 4 40 Tryz.underlying22 hi0 hz0 hz1 hz2 rfl (by omega) _ _ _ rfl ((HO1.out.alloc _).alloc _) ⟨w1.heap.size + 1, 0, none⟩ 1 1 [.int .u8 k, .string ⟨S.toArray⟩, .int .i64 v, .int .i64 line] rfl rfl (World.news_of_block (cs := #[.int .u8 k, .string ⟨S.toArray⟩, .int .i64 v, .int .i64 line]) (t := 71) (fr := (0, 0)) (heap2n w1 _ _)) ?c2 ?c3 ?c4 ?c5 ?_)
          case c2 => intro u hu; simp at hu; rcases hu with rfl | rfl | rfl | rfl <;> rfl
          case c3 => unfold maxLen; omega
          case c4 => omega
          case c5 => simp; omega
          intro v' w2 hown' hgrow _
          have HN := Lib.hid (show w2.ownsRow w.heap.size 71 4 v' (acc ++ [(⟨k, S, v, line⟩ : Tok)]).length ((acc ++ [(⟨k, S, v, line⟩ : Tok)]).flatMap tokCells) by
            rw [List.flatMap_append, List.length_append]; exact hown')
          have HB2 := Lib.hid (((HB1.out.alloc hsz1 _).alloc (by simp; omega) _).grown hgrow (by simp; omega) (fun q hq => (HO1.out.lt q hq).1))
          clear hown' hgrow
          go_wp2_with fail
          go_roundw
          case rel => exact ⟨i + n, line, acc ++ [(⟨k, S, v, line⟩ : Tok)], trivial, rfl, by go_num, by omega, by omega, by simp; omega, Lib.hid ⟨HN.out, HB2.out, HE.out⟩⟩
          case measure => simp [intOf]; omega
    · have HE := Lib.hid (show lexA 0 s.data.toList = .inr acc by rw [hr.out.2.2, List.drop_eq_nil_of_le (by simp; omega)]; simp [LexPlain.lexA_nil, LexPlain.thenL])
      go_wp2_with fail
      go_returns
      exact ⟨tokEnd_ok HE.out hr.out.1, hr.out.2.1⟩
end Go.Proofs.YteinadddmcicoaaGreatDoor
