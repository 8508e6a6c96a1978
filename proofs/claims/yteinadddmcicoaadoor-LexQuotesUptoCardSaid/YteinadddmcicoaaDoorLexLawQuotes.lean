/- The law LexQuotes answers true, for texts of at most 2^20 bytes. -/
import Derived.Test.YteinadddmcicoaaDoorLexRefQuote
import Derived.Test.YteinadddmcicoaaDoorLexAlive
import Derived.Test.YteinadddmcicoaaDoorLexSpellsP
namespace Go.Proofs.YteinadddmcicoaaDoor
open Go.RowKit Go.Shelf
open LexPlain (Tok lexA quoteL)

set_option maxHeartbeats 6400000 in
set_option maxRecDepth 100000 in
theorem lexQuotes_any (s : ByteArray) (hs : s.size ≤ 1048576) (w : World) (hH : Has w) :
    Calls Tryd.prog 4 #[.string s] w fun e w' => e = .returned (.bool true) ∧ Below w.heap.size w w' := by
  have CQ := Lib.hid (quote_any s (by omega) w)
  have CR := Lib.hid (fun w' => refQuote_any s (by omega) w')
  have CA := Lib.hid (fun w hh => alive_any w hh)
  have hT : lexA 0 (quoteL s.data.toList) = .inr [⟨5, s.data.toList, 0, 0⟩] := LexPlain.lexA_q _
  obtain ⟨q, hq⟩ : ∃ q : ByteArray, q = ⟨(quoteL s.data.toList).toArray⟩ := ⟨_, rfl⟩
  rw [← hq] at CQ CR
  have hql : q.data.toList = quoteL s.data.toList := by rw [hq]
  rw [← hql] at hT
  clear hql hq
  by_cases hbig : 65536 < q.size
  · have i1 : (65536 : Int) < (q.size : Int) := by omega
    clear hbig hT
    go_enter Tryd.func4, Tryd.ntmps4
    go_wp2_with fail
    refine CQ.out.mono ?_
    rintro e w1 ⟨rfl, hb1⟩
    have HB1 := Lib.hid hb1
    clear hb1
    go_wp2_with fail
    refine (CR.out _).mono ?_
    rintro e w2 ⟨rfl, hb2⟩
    have HB2 := Lib.hid (HB1.out.thens hb2)
    clear hb2
    go_wp2_with fail
    refine (CA.out _ (hH.next HB2.out)).mono ?_
    rintro e w3 ⟨rfl, hb3⟩
    go_wp2_with fail
    go_returns
    exact ⟨rfl, HB2.out.thens hb3⟩
  · have i1 : ¬ (65536 : Int) < (q.size : Int) := by omega
    have CT := Lib.hid (fun w' hh => tokens_any q (by omega) w' hh)
    rw [hT] at CT
    have hself : (⟨s.data.toList.toArray⟩ : ByteArray) = s := rfl
    clear hbig hT
    go_enter Tryd.func4, Tryd.ntmps4
    go_wp2_with fail
    refine CQ.out.mono ?_
    rintro e w1 ⟨rfl, hb1⟩
    have HB1 := Lib.hid hb1
    clear hb1
    go_wp2_with fail
    refine (CR.out _).mono ?_
    rintro e w2 ⟨rfl, hb2⟩
    have HB2 := Lib.hid (HB1.out.thens hb2)
    clear hb2
    go_wp2_with fail
    refine (CT.out _ (hH.next HB2.out)).mono ?_
    rintro e w3 ⟨⟨v, rfl, hown⟩, hb3⟩
    have HB3 := Lib.hid (HB2.out.thens hb3)
    obtain ⟨g, cap, rfl, hg, hl, hc⟩ := row_cells hown (by simp)
    have q0 := hc 0 _ rfl
    have q1 : w3.cell? ⟨g, 1, none⟩ = some (.string s) := hc 1 _ rfl
    have q2 := hc 2 _ rfl
    have q3 := hc 3 _ rfl
    clear hb3 hown hc hself
    go_wp2_with fail
    refine (CA.out _ (hH.next HB3.out)).mono ?_
    rintro e w4 ⟨rfl, hb4⟩
    go_wp2_with fail
    go_returns
    exact ⟨rfl, HB3.out.thens hb4⟩
end Go.Proofs.YteinadddmcicoaaDoor
