/- The law LexSpells answers true. -/
import Derived.Test.YteinadddmcicoaaDoorLexLater
import Derived.Test.YteinadddmcicoaaDoorLexAlive
import Derived.Test.YteinadddmcicoaaDoorLexLinesP
namespace Go.Proofs.YteinadddmcicoaaDoor
open Go.RowKit Go.Shelf
open LexPlain (Tok lexA spell spells AllOk quoteL quoteF quoteB)

theorem quoteF_ge : ∀ s : List UInt8, s.length ≤ (quoteF s).length
  | [] => Nat.zero_le _
  | c :: s => by
    have h1 := quoteF_ge s
    have h2 := (LexPlain.quoteB_le c).2
    have e : quoteF (c :: s) = quoteB c ++ quoteF s := rfl
    rw [e, List.length_append, List.length_cons]
    omega
theorem spell_ge (k : Nat) (s : List UInt8) : s.length ≤ (spell k s).length := by
  unfold spell
  split
  · simp
  · split
    · have := quoteF_ge s
      unfold quoteL
      simp only [List.length_cons, List.length_append]
      omega
    · exact Nat.le_refl _
theorem spells_take (ts : List Tok) (k : Nat) (h : k < ts.length) : spells (ts.take (k + 1)) = spells (ts.take k) ++ (spell ts[k].kind ts[k].s ++ [32]) := by
  unfold spells
  rw [List.take_succ_eq_append_getElem h, List.flatMap_append]
  simp
theorem spells_part (ts : List Tok) (k : Nat) : (spells (ts.take k)).length ≤ (spells ts).length := by
  have h : spells ts = spells (ts.take k) ++ spells (ts.drop k) := by
    unfold spells
    rw [← List.flatMap_append, List.take_append_drop]
  rw [h, List.length_append]
  omega
theorem spell_part (ts : List Tok) (k : Nat) (h : k < ts.length) : (spells (ts.take k)).length + (spell ts[k].kind ts[k].s).length + 1 ≤ (spells ts).length := by
  have h1 := spells_part ts (k + 1)
  rw [spells_take ts k h] at h1
  simp only [List.length_append, List.length_cons, List.length_nil] at h1
  omega
theorem kind_le {k : Nat} {s : List UInt8} {v : Int} (h : LexPlain.TokOk k s v) : k ≤ 200 := by
  rcases h with h | h | h | h | h | h <;> omega

set_option maxHeartbeats 6400000 in
set_option maxRecDepth 100000 in
theorem lexSpells_any (s : ByteArray) (hs : s.size ≤ 140737488351232) (w : World) (hH : Has w) :
    Calls Tryd.prog 6 #[.string s] w fun e w' => e = .returned (.bool true) ∧ Below w.heap.size w w' := by
  have CA := Lib.hid (fun w hh => alive_any w hh)
  by_cases hbig : 65536 < s.size
  · have C1 := Lib.hid (tokens_long s hbig (by omega) w)
    clear hs hbig
    go_enter Tryd.func6, Tryd.ntmps6
    go_wp2_with fail
    refine C1.out.mono ?_
    rintro e w1 ⟨rfl, rfl⟩
    go_wp2_with fail
    refine (CA.out _ hH).mono ?_
    rintro e w1 ⟨rfl, hb⟩
    go_wp2_with fail
    go_returns
    exact ⟨rfl, hb⟩
  have C1 := Lib.hid (tokens_any s (by omega) w hH)
  have hz : s.data.toList.length = s.size := Array.length_toList
  cases ho : lexA 0 s.data.toList with
  | inl at' =>
    rw [ho] at C1
    clear ho hs hbig hz
    go_enter Tryd.func6, Tryd.ntmps6
    go_wp2_with fail
    refine C1.out.mono ?_
    rintro e w1 ⟨he, hb1⟩
    obtain rfl : e = .returned (.tuple #[.slice none 0 0, .int .i64 at', .int .i64 6]) := he
    have HB1 := Lib.hid hb1
    have HH1 := Lib.hid (hH.next hb1)
    clear hb1
    go_wp2_with fail
    refine (CA.out _ HH1.out).mono ?_
    rintro e w3 ⟨rfl, hb⟩
    go_wp2_with fail
    go_returns
    exact ⟨rfl, HB1.out.thens hb⟩
  | inr ts =>
    have hall : Hid (AllOk ts) := by
      have hlines := LexPlain.lexA_lines s.data.toList.length s.data.toList 0 (Nat.le_refl _)
      rw [ho] at hlines
      exact Lib.hid (LexPlain.LinesOk.all hlines)
    have hlenS := LexPlain.spells_len s.data.toList.length s.data.toList 0 ts (Nat.le_refl _) ho
    rw [ho] at C1
    clear ho
    by_cases h8 : 8192 < s.size
    · clear hs hbig hz hlenS
      go_enter Tryd.func6, Tryd.ntmps6
      go_wp2_with fail
      refine C1.out.mono ?_
      rintro e w1 ⟨⟨v, rfl, hown⟩, hb1⟩
      have HB1 := Lib.hid hb1
      have HH1 := Lib.hid (hH.next hb1)
      clear hb1 hown
      go_wp2_with fail
      refine (CA.out _ HH1.out).mono ?_
      rintro e w3 ⟨rfl, hb⟩
      go_wp2_with fail
      go_returns
      exact ⟨rfl, HB1.out.thens hb⟩
    have hsp : (spells ts).length ≤ 65536 := by omega
    have hn : ts.length ≤ 8192 := by omega
    have hsz : (⟨(spells ts).toArray⟩ : ByteArray).size ≤ 65536 := by show (spells ts).toArray.size ≤ _; rw [List.size_toArray]; exact hsp
    have C2 := Lib.hid (fun w' hh => tokens_any ⟨(spells ts).toArray⟩ hsz w' hh)
    rw [show (⟨(spells ts).toArray⟩ : ByteArray).data.toList = spells ts from rfl, LexPlain.lexA_spells 0 ts hall.out] at C2
    clear hs hbig hz hlenS hsz
    go_enter Tryd.func6, Tryd.ntmps6
    go_wp2_with fail
    refine C1.out.mono ?_
    rintro e w1 ⟨⟨v, rfl, hown⟩, hb1⟩
    have HB1 := Lib.hid hb1
    have HH1 := Lib.hid (hH.next hb1)
    have HT := Lib.hid (tokAt_of hown)
    have CT := Lib.hid (twin_any ts (by omega) w1 hown)
    obtain ⟨a, cap, rfl⟩ := own_form hown
    clear hb1 hown
    go_wp2_with fail
    refine CT.out.mono ?_
    rintro e w2 ⟨⟨g, rfl, hg, hr⟩, hb2⟩
    have HR := Lib.hid hr
    have HB2 := Lib.hid hb2
    clear hr hb2
    go_wp2_with fail
    go_loopw [6, 8] (fun vt vi wr => ∃ k : Nat, vt = .string ⟨(spells (ts.take k)).toArray⟩ ∧ vi = .int .i64 k ∧ k ≤ ts.length ∧ Hid (RowOf wr g ((partUp (fun _ => 0) k ts).flatMap tokCells) ((ts.length + 2) * 4) ∧ Below w1.heap.size w1 wr)) (fun _ vi _ => ts.length - (intOf vi).toNat)
    case atStart => exact ⟨0, rfl, rfl, by omega, Lib.hid ⟨by rw [partUp_zero]; exact HR.out, HB2.out⟩⟩
    case round =>
      obtain ⟨k, rfl, rfl, hk, hr⟩ := hrel
      rename_i wr
      by_cases hkn : k < ts.length
      · obtain ⟨g0, c', hv, _, _, hat⟩ := HT.out (by omega)
        injection hv with e1 e2 e3
        subst e1
        clear e2 e3
        obtain ⟨p0, p1, p2, p3⟩ := hat k hkn
        have q0 := cell_later hr.out.2 p0
        have q1 := cell_later hr.out.2 p1
        have q2 := cell_later hr.out.2 p2
        have q3 := cell_later hr.out.2 p3
        have hsk := spell_part ts k hkn
        have hsl := spell_ge ts[k].kind ts[k].s
        have CS := Lib.hid (spelt_any ts[k].kind (kind_le (hall.out ts[k] (List.getElem_mem hkn))) ts[k].s (by omega) ts[k].n ts[k].line wr)
        have HU := Lib.hid (fun w' (h : RowOf w' g ((partUp (fun _ => 0) k ts).flatMap tokCells) ((ts.length + 2) * 4)) => up_row (fun _ => 0) ts k hkn h)
        have HC := Lib.hid (partUp_line (fun _ => 0) ts k hkn)
        have HST := Lib.hid (spells_take ts k hkn)
        clear p0 p1 p2 p3 hat
        generalize ts[k] = t at q0 q1 q2 q3 hsk hsl CS HU HC HST
        obtain ⟨kd, S, N, L⟩ := t
        simp only at q0 q1 q2 q3 hsk hsl CS HU HC HST
        go_wp2_with fail
        refine CS.out.mono ?_
        rintro e w3 ⟨rfl, hb3⟩
        have HR3 := Lib.hid (hr.out.1.below hb3)
        have HB3 := Lib.hid (hr.out.2.trans (hb3.mono hr.out.2.size))
        have hc := HR3.out.at (k * 4 + 3) _ HC.out
        have hf := HR3.out.frozen (k * 4 + 3)
        clear hb3 q0 q1 q2 q3
        go_wp2_with fail
        go_roundw
        case rel => exact ⟨k + 1, congrArg Value.string (by rw [HST.out]; apply ByteArray.ext; simp), by go_num, by omega, Lib.hid ⟨HU.out _ HR3.out _ (by rfl), HB3.out.setCell (p := ⟨g, k * 4 + 3, none⟩) hg _⟩⟩
        case measure => simp [intOf]; omega
      · have hkk : k = ts.length := by omega
        subst hkk
        have HRE := Lib.hid (show RowOf wr g ((ts.map (upLine fun _ => 0)).flatMap tokCells) ((ts.length + 2) * 4) by have := hr.out.1; rw [partUp_all] at this; exact this)
        have HBE := Lib.hid (HB1.out.thens hr.out.2)
        have C2' := Lib.hid (C2.out wr (hH.next HBE.out))
        rw [List.take_length] 
        go_wp2_with fail
        refine C2'.out.mono ?_
        rintro e w4 ⟨⟨v4, rfl, hown4⟩, hb4⟩
        have HOW := Lib.hid ((HRE.out.below hb4).owns (B := w1.heap.size) (n := ts.length) hg (by rw [len4, List.length_map]) (by omega) (by unfold maxLen; omega))
        have hlm : (ts.map (upLine fun _ => 0)).length = ts.length := List.length_map _
        have CS := Lib.hid (same_any (ts.map (upLine fun _ => 0)) (by omega) w4 hown4 (by rw [hlm]; exact HOW.out))
        have HB4 := Lib.hid (HBE.out.thens hb4)
        have HH4 := Lib.hid (hH.next HB4.out)
        clear hown4 hb4 hlm
        go_wp2_with fail
        refine CS.out.mono ?_
        rintro e w5 ⟨rfl, hb5⟩
        have HB5 := Lib.hid (HB4.out.thens hb5)
        have HH5 := Lib.hid (hH.next HB5.out)
        clear hb5
        go_wp2_with fail
        refine (CA.out _ HH5.out).mono ?_
        rintro e w6 ⟨rfl, hb6⟩
        go_wp2_with fail
        go_returns
        exact ⟨rfl, HB5.out.thens hb6⟩
end Go.Proofs.YteinadddmcicoaaDoor
