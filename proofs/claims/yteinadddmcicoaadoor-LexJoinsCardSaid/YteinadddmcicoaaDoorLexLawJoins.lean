/- The law LexJoins answers true. -/
import Derived.Test.YteinadddmcicoaaDoorLexLater
import Derived.Test.YteinadddmcicoaaDoorLexAlive
import Derived.Test.YteinadddmcicoaaDoorLexRefName
import Derived.Test.YteinadddmcicoaaDoorLexLawsP
import Derived.Test.YteinadddmcicoaaDoorLexJoinsP
import Derived.BigFrame
namespace Go.Proofs.YteinadddmcicoaaDoor
open Go.RowKit Go.Shelf
open LexPlain (Tok lexA lf lexA_join lexA_shift)

theorem join_all (a b : List UInt8) : lexA 0 (a ++ 10 :: b) = match lexA 0 a with
    | .inl e => .inl e
    | .inr ts => match lexA 0 b with
      | .inl e => .inl (e + (lf a + 1))
      | .inr us => .inr (ts ++ us.map (upLine (· + (lf a + 1)))) := by
  rw [lexA_join b a.length a 0 (Nat.le_refl _)]
  cases lexA 0 a with
  | inl e => rfl
  | inr ts =>
    simp only
    rw [show 0 + lf a + 1 = 0 + (lf a + 1) by omega, lexA_shift (lf a + 1) b.length b 0 (Nat.le_refl _)]
    cases lexA 0 b with
    | inl e => rfl
    | inr us => rfl

theorem own_below {w w' : World} {B : Nat} {e : TypeId} {size : Nat} {v : Value} {n : Nat} {xs : List Value} (h : w.ownsRow B e size v n xs) (hb : Below w.heap.size w w') : w'.ownsRow B e size v n xs := by
  obtain ⟨h1, h2⟩ := h
  refine ⟨h1, ?_⟩
  rcases h2 with h2 | ⟨g, cap, cur, hv, hg, hh, r⟩
  · exact .inl h2
  · have hlt : g < w.heap.size := (Array.getElem?_eq_some_iff.1 hh).1
    exact .inr ⟨g, cap, cur, hv, hg, (hb.block g hlt).trans hh, r⟩

theorem wpList_append_run {P : Program} {w w' : World} {ops : Array Oper} {rest : List Oper} {o : Oper} {a : Act} {Q : Exit → Act → World → Prop} (d s : Operand) (dT sT : TypeId)
    (ho : o.op = .call { callee := .builtin .append, args := #[d, s], argTypes := #[dT, sT] }) (hgd : Region.wanted o (yielded ops a.tmps) = true) (vd vs m : Value) (hd : a.eval d = vd) (hs : a.eval s = vs)
    (hr : (Builtin.append_ #[dT, sT] o.type #[vd, vs]).run P w = .ok m w') (h : wpList P ops Q rest (a.put o.dst m) w') : wpList P ops Q (o :: rest) a w := by
  refine BigFrame.wpList_want hgd fun K hK => ?_
  unfold Oper.wp execOp
  simp only [ho, resolve, invoke, builtin, Sem.run_bind, Sem.run_pure, Result.andThen_ok, List.map_toArray, List.map_cons, List.map_nil, hs, hd, hr]
  exact hK _ _ h

theorem append_rows {B g g2 n m : Nat} (ts us : List Tok) (hn : n = ts.length) (hm : m = us.length) (hle : n ≤ 1000000) (hlm : m ≤ 1000000) (w : World) (h1 : RowOf w g (ts.flatMap tokCells) ((n + 2) * 4)) (h2 : RowOf w g2 (us.flatMap tokCells) ((m + 2) * 4)) (hB : B ≤ g) (hBs : B ≤ w.heap.size) (ty : TypeId) :
    ∃ v' w', (Builtin.append_ #[25, 25] ty #[.slice (some ⟨g, 0, none⟩) n (n + 2), .slice (some ⟨g2, 0, none⟩) m (m + 2)]).run Tryd.prog w = .ok v' w' ∧ w'.ownsRow B 31 4 v' (ts ++ us).length ((ts ++ us).flatMap tokCells) ∧ Below B w w' := by
  obtain ⟨i0, hi0, hz0, hz1, hz2⟩ := info_parts infoTok
  have hown : w.ownsRow B 31 4 (.slice (some ⟨g, 0, none⟩) n (n + 2)) n (ts.flatMap tokCells) := h1.owns hB (by rw [len4, hn]) (by omega) (by unfold maxLen; omega)
  obtain ⟨v', w', hr, ho, hg, _⟩ := run_append_own (P := Tryd.prog) w B 25 ty 31 i0 _ 4 40 Tryd.underlying25 hi0 hz0 hz1 hz2 rfl (by omega) _ n (ts.flatMap tokCells) hown ⟨g2, 0, none⟩ m (m + 2) (us.flatMap tokCells) (by rw [len4, hm])
    (fun j u hj => by
      have := h2.at j u hj
      by_cases h0 : j = 0
      · subst h0; exact this
      · simpa [Addr.add, h0] using this) (one_cells us) (by unfold maxLen; omega) (by omega) hBs
  refine ⟨v', w', hr, ?_, ?_⟩
  · rw [List.flatMap_append, List.length_append, ← hn, ← hm]; exact ho
  · exact (Below.refl B w).grown hg hBs (fun k hk => (hown.lt k hk).1)

theorem tokEnd_form {B : Nat} {o : Sum Nat (List Tok)} {e : Ending} {w : World} (h : TokEnd B o e w) : ∃ (v : Value) (l k : Int), e = .returned (.tuple #[v, .int .i64 l, .int .i64 k]) := by
  cases o with
  | inl at' => exact ⟨_, _, _, h⟩
  | inr ts => obtain ⟨v, he, _⟩ := h; exact ⟨_, _, _, he⟩

set_option maxHeartbeats 6400000 in
set_option maxRecDepth 100000 in
theorem lexJoins_any (s t : ByteArray) (hs : s.size ≤ 140737488351232) (ht : t.size ≤ 140737488351232) (w : World) (hH : Has w) :
    Calls Tryd.prog 5 #[.string s, .string t] w fun e w' => e = .returned (.bool true) ∧ Below w.heap.size w w' := by
  have CA := Lib.hid (fun w hh => alive_any w hh)
  by_cases hbig : 65536 ≤ s.size + t.size
  · have i1 : (65536 : Int) ≤ (s.size : Int) + (t.size : Int) := by omega
    clear hbig
    go_enter Tryd.func5, Tryd.ntmps5
    go_wp2_with fail
    refine (CA.out _ hH).mono ?_
    rintro e w1 ⟨rfl, hb⟩
    go_wp2_with fail
    go_returns
    exact ⟨rfl, hb⟩
  have i1 : ¬ (65536 : Int) ≤ (s.size : Int) + (t.size : Int) := by omega
  have C1 := Lib.hid (tokens_any s (by omega) w hH)
  have C2 := Lib.hid (fun w' hh => tokens_any t (by omega) w' hh)
  have hz : (s ++ ⟨#[10]⟩ ++ t : ByteArray).size = s.size + 1 + t.size := by simp [ByteArray.size_append]; rfl
  have C3 := Lib.hid (fun w' hh => tokens_any (s ++ ⟨#[10]⟩ ++ t) (by omega) w' hh)
  have hd : (s ++ ⟨#[10]⟩ ++ t : ByteArray).data.toList = s.data.toList ++ 10 :: t.data.toList := by simp
  rw [hd, join_all] at C3
  have CF := Lib.hid (fun w => refFeeds_any s (by omega) w)
  have hfl : lf s.data.toList ≤ 65536 := by
    have h1 : lf s.data.toList ≤ s.data.toList.length := List.countP_le_length
    have h2 : s.data.toList.length = s.size := Array.length_toList
    omega
  rw [lf_feeds] at CF
  have hlines2 := LexPlain.lexA_lines t.data.toList.length t.data.toList 0 (Nat.le_refl _)
  have hft : lf t.data.toList ≤ 65536 := by
    have h1 : lf t.data.toList ≤ t.data.toList.length := List.countP_le_length
    have h2 : t.data.toList.length = t.size := Array.length_toList
    omega
  have hl1 := fun ts h => (LexPlain.spells_len s.data.toList.length s.data.toList 0 ts (Nat.le_refl _) h).2
  have hl2 := fun ts h => (LexPlain.spells_len t.data.toList.length t.data.toList 0 ts (Nat.le_refl _) h).2
  have hz1 : s.data.toList.length = s.size := Array.length_toList
  have hz2 : t.data.toList.length = t.size := Array.length_toList
  clear hz hd
  generalize lf s.data.toList = F at C3 CF hfl
  cases ho : lexA 0 s.data.toList with
  | inl e1 =>
    rw [ho] at C1 C3
    simp only at C3
    clear ho hl1 hl2 hlines2 hz1 hz2
    go_enter Tryd.func5, Tryd.ntmps5
    go_wp2_with fail
    refine C1.out.mono ?_
    rintro e w1 ⟨he, hb1⟩
    obtain rfl : e = .returned (.tuple #[.slice none 0 0, .int .i64 e1, .int .i64 6]) := he
    have HB1 := Lib.hid hb1
    have HH1 := Lib.hid (hH.next hb1)
    clear hb1
    go_wp2_with fail
    refine (C2.out _ HH1.out).mono ?_
    rintro e w2 ⟨he, hb2⟩
    obtain ⟨vv, ll, kk, rfl⟩ := tokEnd_form he
    have HB2 := Lib.hid (HB1.out.thens hb2)
    have HH2 := Lib.hid (hH.next HB2.out)
    clear hb2 he
    go_wp2_with fail
    refine (C3.out _ HH2.out).mono ?_
    rintro e w3 ⟨he, hb3⟩
    obtain rfl : e = .returned (.tuple #[.slice none 0 0, .int .i64 e1, .int .i64 6]) := he
    have HB3 := Lib.hid (HB2.out.thens hb3)
    have HH3 := Lib.hid (hH.next HB3.out)
    clear hb3
    go_wp2_with fail
    refine (CF.out _).mono ?_
    rintro e w4 ⟨rfl, rfl⟩
    go_wp2_with fail
    refine (CA.out _ HH3.out).mono ?_
    rintro e w5 ⟨rfl, hb⟩
    go_wp2_with fail
    go_returns
    exact ⟨rfl, HB3.out.thens hb⟩
  | inr ts =>
    rw [ho] at C1 C3
    simp only at C3
    have hn := hl1 ts ho
    clear ho hl1
    cases ho2 : lexA 0 t.data.toList with
    | inl e2 =>
      rw [ho2] at C2 C3 hlines2
      simp only at C3
      have hle : e2 ≤ 65536 := by have := hlines2.2; omega
      clear ho2 hl2 hlines2 hz1 hz2
      go_enter Tryd.func5, Tryd.ntmps5
      go_wp2_with fail
      refine C1.out.mono ?_
      rintro e w1 ⟨⟨v, rfl, hown⟩, hb1⟩
      have HB1 := Lib.hid hb1
      have HH1 := Lib.hid (hH.next hb1)
      clear hb1 hown
      go_wp2_with fail
      refine (C2.out _ HH1.out).mono ?_
      rintro e w2 ⟨he, hb2⟩
      obtain rfl : e = .returned (.tuple #[.slice none 0 0, .int .i64 e2, .int .i64 6]) := he
      have HB2 := Lib.hid (HB1.out.thens hb2)
      have HH2 := Lib.hid (hH.next HB2.out)
      clear hb2
      go_wp2_with fail
      refine (C3.out _ HH2.out).mono ?_
      rintro e w3 ⟨he, hb3⟩
      obtain rfl : e = .returned (.tuple #[.slice none 0 0, .int .i64 (e2 + (F + 1) : Nat), .int .i64 6]) := he
      have HB3 := Lib.hid (HB2.out.thens hb3)
      have HH3 := Lib.hid (hH.next HB3.out)
      have j1 : (((e2 + (F + 1) : Nat) : Int) == (e2 : Int) + ((F : Int) + 1)) = true := by rw [beq_iff_eq]; omega
      clear hb3
      go_wp2_with fail
      refine (CF.out _).mono ?_
      rintro e w4 ⟨rfl, rfl⟩
      go_wp2_with fail
      refine (CA.out _ HH3.out).mono ?_
      rintro e w5 ⟨rfl, hb⟩
      go_wp2_with fail
      go_returns
      exact ⟨rfl, HB3.out.thens hb⟩
    | inr us =>
      rw [ho2] at C2 C3 hlines2
      simp only at C3
      have hm := hl2 us ho2
      have hall : Hid (∀ t ∈ us, t.line ≤ 1000000) := Lib.hid (fun t ht => by
        obtain ⟨i, hi, rfl⟩ := List.getElem_of_mem ht
        have := lines_at hlines2 i hi
        omega)
      have hn' : ts.length ≤ 65536 := by omega
      have hm' : us.length ≤ 65536 := by omega
      clear ho2 hl2 hlines2 hz1 hz2 hn hm
      go_enter Tryd.func5, Tryd.ntmps5
      go_wp2_with fail
      refine C1.out.mono ?_
      rintro e w1 ⟨⟨v1, rfl, hown1⟩, hb1⟩
      have HO1 := Lib.hid hown1
      have HB1 := Lib.hid hb1
      have HH1 := Lib.hid (hH.next hb1)
      clear hb1 hown1
      go_wp2_with fail
      refine (C2.out _ HH1.out).mono ?_
      rintro e w2 ⟨⟨v2, rfl, hown2⟩, hb2⟩
      have HO1 := Lib.hid (own_below HO1.out hb2)
      have HO2 := Lib.hid hown2
      have HB2 := Lib.hid (HB1.out.thens hb2)
      have HH2 := Lib.hid (hH.next HB2.out)
      clear hb2 hown2
      go_wp2_with fail
      refine (C3.out _ HH2.out).mono ?_
      rintro e w3 ⟨⟨v3, rfl, hown3⟩, hb3⟩
      have HO1 := Lib.hid (own_below HO1.out hb3)
      have HO2 := Lib.hid (own_below HO2.out hb3)
      have HO3 := Lib.hid hown3
      have HB3 := Lib.hid (HB2.out.thens hb3)
      have HH3 := Lib.hid (hH.next HB3.out)
      clear hb3 hown3
      go_wp2_with fail
      refine (CF.out _).mono ?_
      rintro e w4 ⟨rfl, rfl⟩
      have CT := Lib.hid (twin_any ts (by omega) w3 HO1.out)
      go_wp2_with fail
      refine CT.out.mono ?_
      rintro e w5 ⟨⟨g, rfl, hg, hr⟩, hb5⟩
      have HO2 := Lib.hid (own_below HO2.out hb5)
      have HR := Lib.hid hr
      have HB5 := Lib.hid (HB3.out.thens hb5)
      have HG := Lib.hid hb5
      have CL := Lib.hid (later_any us (by omega) (F + 1) (by omega) hall.out w5 HO2.out)
      clear hb5 hr
      go_wp2_with fail
      refine CL.out.mono ?_
      rintro e w6 ⟨⟨g2, rfl, hg2, hr2⟩, hb6⟩
      have HR := Lib.hid (HR.out.below hb6)
      have HG6 := Lib.hid (HG.out.thens hb6)
      obtain ⟨v7, w7, hap, hown7, hb7⟩ := append_rows (B := w3.heap.size) ts (us.map (upLine (· + (F + 1)))) rfl (List.length_map _).symm (by omega) (by omega) w6 HR.out (by simpa using hr2) hg HG6.out.size 25
      have HAP := Lib.hid hap
      have HG7 := Lib.hid (HG6.out.trans hb7)
      have HB7 := Lib.hid (HB3.out.thens HG7.out)
      have HH7 := Lib.hid (hH.next HB7.out)
      have CS := Lib.hid (same_any (ts ++ us.map (upLine (· + (F + 1)))) (by simp; omega) w7 (own_below HO3.out HG7.out) hown7)
      clear hb6 hr2 hb7 hown7 hap
      go_wp2_with (at_builtin; refine wpList_append_run _ _ _ _ (by rfl) (by rfl) _ _ _ (by rfl) (by rfl) HAP.out ?_)
      refine CS.out.mono ?_
      rintro e w8 ⟨rfl, hb8⟩
      have HB8 := Lib.hid (HB7.out.thens hb8)
      have HH8 := Lib.hid (hH.next HB8.out)
      clear hb8
      go_wp2_with fail
      refine (CA.out _ HH8.out).mono ?_
      rintro e w9 ⟨rfl, hb⟩
      go_wp2_with fail
      go_returns
      exact ⟨rfl, HB8.out.thens hb⟩
end Go.Proofs.YteinadddmcicoaaDoor
