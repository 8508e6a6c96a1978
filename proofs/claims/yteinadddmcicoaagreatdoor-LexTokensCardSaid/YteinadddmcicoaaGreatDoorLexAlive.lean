/- The laws' small test: alive. -/
import Derived.Test.YteinadddmcicoaaGreatDoorLexAll
import Derived.Test.YteinadddmcicoaaGreatDoorLexQuote
namespace Go.Proofs.YteinadddmcicoaaGreatDoor
open Go.RowKit Go.Shelf
open LexPlain (Tok)

def aliveT : List UInt8 := [36, 97, 61, 62, 39, 98, 92, 120, 48, 48, 39, 32, 47, 47, 32, 120, 10, 110, 117, 108, 108]
def aliveL : List Tok := [⟨3, [97], 0, 0⟩, ⟨6, [61, 62], 0, 0⟩, ⟨5, [98, 0], 0, 0⟩, ⟨2, [110, 117, 108, 108], 0, 1⟩]
theorem alive_one : LexPlain.lexA 0 aliveT = .inr aliveL := by kernel_rfl
theorem alive_two : LexPlain.lexA 0 [97, 10, 35] = .inl 1 := by kernel_rfl
theorem alive_quote : LexPlain.quoteL [39] = [39, 92, 39, 39] := by kernel_rfl

theorem row_cells {w : World} {B : Nat} {e : TypeId} {size : Nat} {v : Value} {n : Nat} {xs : List Value} (h : w.ownsRow B e size v n xs) (hn : 0 < n) :
    ∃ g cap, v = .slice (some ⟨g, 0, none⟩) n cap ∧ B ≤ g ∧ g < w.heap.size ∧ ∀ j u, xs[j]? = some u → w.cell? ⟨g, j, none⟩ = some u := by
  obtain ⟨g, cap, hv, hg, hl⟩ := h.form hn
  refine ⟨g, cap, hv, hg, hl, fun j u hj => ?_⟩
  have := World.ownsRow.cells h (g := g) (by rw [hv]; rfl) j u hj
  by_cases h0 : j = 0
  · subst h0; exact this
  · simpa [Addr.add, h0] using this

set_option maxHeartbeats 3200000 in
set_option maxRecDepth 100000 in
theorem alive_any (w : World) (hH : Has w) : Calls Tryz.prog 9 #[] w fun e w' => e = .returned (.bool true) ∧ Below w.heap.size w w' := by
  have C1 := Lib.hid (tokens_any ⟨aliveT.toArray⟩ (by decide) w hH)
  rw [show (⟨aliveT.toArray⟩ : ByteArray).data.toList = aliveT from rfl, alive_one] at C1
  have C2 := Lib.hid (fun w' hh => tokens_any ⟨#[97, 10, 35]⟩ (by decide) w' hh)
  rw [show (⟨#[97, 10, 35]⟩ : ByteArray).data.toList = [97, 10, 35] from rfl, alive_two] at C2
  have C3 := Lib.hid (fun w' => quote_any ⟨#[39]⟩ (by decide) w')
  rw [show (⟨#[39]⟩ : ByteArray).data.toList = [39] from rfl, alive_quote] at C3
  go_enter Tryz.func9, Tryz.ntmps9
  go_wp2_with fail
  refine C1.out.mono ?_
  rintro e w1 ⟨⟨v, rfl, hown⟩, hb1⟩
  obtain ⟨g, cap, rfl, hg, hl, hc⟩ := row_cells hown (by decide)
  have q0 := hc 0 _ rfl
  have q1 := hc 1 _ rfl
  have q5 := hc 5 _ rfl
  have q9 := hc 9 _ rfl
  have q12 := hc 12 _ rfl
  have q15 := hc 15 _ rfl
  clear hown hc
  have HB1 := Lib.hid hb1
  have HH1 := Lib.hid (hH.next hb1)
  clear hb1
  go_wp2_with fail
  refine (C2.out _ HH1.out).mono ?_
  rintro e w2 ⟨he, hb2⟩
  obtain rfl : e = .returned (.tuple #[.slice none 0 0, .int .i64 1, .int .i64 6]) := he
  have r0 := cell_later hb2 q0
  have r1 := cell_later hb2 q1
  have r5 := cell_later hb2 q5
  have r9 := cell_later hb2 q9
  have r12 := cell_later hb2 q12
  have r15 := cell_later hb2 q15
  clear q0 q1 q5 q9 q12 q15
  have HB2 := Lib.hid (HB1.out.thens hb2)
  clear hb2
  go_wp2_with fail
  refine (C3.out _).mono ?_
  rintro e w3 ⟨rfl, hb3⟩
  have HB3 := Lib.hid (HB2.out.thens hb3)
  clear hb3
  go_wp2_with fail
  go_returns
  exact ⟨rfl, HB3.out⟩
end Go.Proofs.YteinadddmcicoaaGreatDoor
