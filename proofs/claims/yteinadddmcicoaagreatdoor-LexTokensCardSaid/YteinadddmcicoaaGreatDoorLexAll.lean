/- Walks over layer 2's Tokens. -/
import Derived.Test.YteinadddmcicoaaGreatDoorLexNext2
import Derived.Test.YteinadddmcicoaaGreatDoorLexNext3
namespace Go.Proofs.YteinadddmcicoaaGreatDoor
open Go.RowKit Go.Shelf
open LexPlain (Tok)

theorem next_any (B b : Nat) (s : ByteArray) (line : Nat) (ts : List Tok) (w : World) (h : Scan B b s line ts false w) (hB : B ≤ w.heap.size) (hl : line ≤ 1000000) (hs : s.size ≤ 1000000) (hts : ts.length ≤ 1000000) (hH : HasB B w) (hpos : 0 < s.size) :
    Calls Tryz.prog 10 #[.pointer (some ⟨b, 0, none⟩)] w fun e w' => e = .returned (.tuple #[]) ∧ After B b line s ts (LexPlain.step s.data.toList) w' ∧ Below B w w' := by
  by_cases h10 : s[0].toNat = 10
  · exact next_lf B b s line ts w h hB hl hs hpos h10
  by_cases hb : s[0].toNat = 32 ∨ s[0].toNat = 9 ∨ s[0].toNat = 13
  · exact next_blank B b s line ts w h hB hl hs hpos hb
  have hnb : NoBlank s hpos := ⟨h10, by omega, by omega, by omega⟩
  by_cases hsl : s[0].toNat = 47 ∧ ((s.data.toList.drop 1).head?.map (·.toNat)) = some 47
  · exact next_remark B b s line ts w h hB hl hs hpos hnb hsl
  cases hh : LexPlain.headB s[0] with
  | true => exact next_word B b s line ts w h hB hl hs hts hH hpos hnb hsl hh
  | false =>
    by_cases h36 : s[0].toNat = 36
    · exact next_dollar B b s line ts w h hB hl hs hts hH hpos hnb hsl hh h36
    cases hd : LexPlain.digitB s[0] with
    | true => exact next_number B b s line ts w h hB hl hs hts hH hpos hnb hsl hh h36 hd
    | false =>
      by_cases h39 : s[0].toNat = 39
      · exact next_text B b s line ts w h hB hl hs hts hH hpos hnb hsl hh h39
      · exact next_sign B b s line ts w h hB hl hs hts hH hpos hnb hsl hh h36 hd h39

def joinL (ts : List Tok) : Sum Nat (List Tok) → Sum Nat (List Tok)
  | .inl e => .inl e
  | .inr us => .inr (ts ++ us)

theorem feeds_le {l : List UInt8} {o : Option (Nat × List UInt8 × Int)} {n f : Nat} (h : LexPlain.step l = some (o, n, f)) : f ≤ n := by
  have hp := LexPlain.step_pos h
  have : f ≤ 1 := by
    unfold LexPlain.step at h
    split at h
    · cases h
    · repeat' split at h
      all_goals first | (cases h; omega) | cases h
  omega

/-- How things stand ahead of a round of Tokens' loop. -/
def AInv (s : ByteArray) (w : World) (t : ByteArray) (line : Nat) (ts : List Tok) (wr : World) : Prop :=
  Scan w.heap.size w.heap.size t line ts false wr ∧ Below w.heap.size w wr ∧ ts.length + t.size ≤ s.size ∧ line + t.size ≤ s.size ∧ LexPlain.lexA 0 s.data.toList = joinL ts (LexPlain.lexA line t.data.toList)

theorem AInv.start (s : ByteArray) (w : World) : AInv s w s 0 [] (w.alloc (.cells #[.string s, .int .i64 0, .slice none 0 0, .bool false] 68)) := by
  refine ⟨⟨Nat.le_refl _, .slice none 0 0, Blk.new _ _ _, World.ownsRow_nil _ _ _ _⟩, (Below.refl _ w).alloc (Nat.le_refl _) _, by simp, by simp, ?_⟩
  cases LexPlain.lexA 0 s.data.toList with
  | inl e => rfl
  | inr us => rfl

/-- Behind one step that was not bad, or that was. -/
def ANext (s : ByteArray) (w : World) (sz : Nat) (w1 : World) : Prop :=
  (∃ t' line' ts', AInv s w t' line' ts' w1 ∧ t'.size < sz) ∨ (∃ line', LexPlain.lexA 0 s.data.toList = .inl line' ∧ ScanBad w.heap.size w.heap.size line' w1 ∧ Below w.heap.size w w1)

theorem AInv.next {s : ByteArray} {w : World} {t : ByteArray} {line : Nat} {ts : List Tok} {wr w1 : World} (h : AInv s w t line ts wr) (hpos : 0 < t.size) (ha : After w.heap.size w.heap.size line t ts (LexPlain.step t.data.toList) w1) (hb : Below w.heap.size wr w1) : ANext s w t.size w1 := by
  obtain ⟨h1, h2, h3, h4, h5⟩ := h
  have hz : t.data.toList.length = t.size := Array.length_toList
  have hne : t.data.toList ≠ [] := fun he => by rw [he] at hz; simp at hz; omega
  rw [LexPlain.lexA_step line hne] at h5
  cases hst : LexPlain.step t.data.toList with
  | none =>
    rw [hst] at ha h5
    exact .inr ⟨line, h5, ha, h2.trans hb⟩
  | some x =>
    obtain ⟨o, n, f⟩ := x
    have hp := LexPlain.step_pos hst
    have hf := feeds_le hst
    rw [hst] at ha h5
    have hsz : (t.extract n t.size).size = t.size - n := by rw [ByteArray.size_extract]; omega
    cases o with
    | none =>
      refine .inl ⟨t.extract n t.size, line + f, ts, ⟨ha, h2.trans hb, by omega, by omega, ?_⟩, by omega⟩
      rw [rest_extract]; exact h5
    | some y =>
      obtain ⟨k, S, N⟩ := y
      refine .inl ⟨t.extract n t.size, line, ts ++ [(⟨k, S, N, line⟩ : Tok)], ⟨(show Scan w.heap.size w.heap.size (t.extract n t.size) line (ts ++ [(⟨k, S, N, line⟩ : Tok)]) false w1 from ha), h2.trans hb, by rw [List.length_append]; simp; omega, by omega, ?_⟩, by omega⟩
      rw [rest_extract, h5]
      simp only
      cases LexPlain.lexA line (t.data.toList.drop n) with
      | inl e => rfl
      | inr us => simp [joinL]

/-- What Tokens gives back. -/
def TokEnd (B : Nat) (o : Sum Nat (List Tok)) (e : Ending) (w' : World) : Prop :=
  match o with
  | .inl at' => e = .returned (.tuple #[.slice none 0 0, .int .i64 at', .int .i64 6])
  | .inr ts => ∃ v, e = .returned (.tuple #[v, .int .i64 0, .int .i64 0]) ∧ w'.ownsRow B 71 4 v ts.length (ts.flatMap tokCells)
theorem tokEnd_bad {B : Nat} {o : Sum Nat (List Tok)} {w' : World} {at' : Nat} (h : o = .inl at') : TokEnd B o (.returned (.tuple #[.slice none 0 0, .int .i64 at', .int .i64 6])) w' := by subst h; rfl
theorem tokEnd_ok {B : Nat} {o : Sum Nat (List Tok)} {w' : World} {ts : List Tok} {v : Value} (h : o = .inr ts) (hv : w'.ownsRow B 71 4 v ts.length (ts.flatMap tokCells)) : TokEnd B o (.returned (.tuple #[v, .int .i64 0, .int .i64 0])) w' := by subst h; exact ⟨v, rfl, hv⟩

theorem tokens_long (s : ByteArray) (hs : 65536 < s.size) (hs2 : s.size ≤ 9223372036854775807) (w : World) :
    Calls Tryz.prog 4 #[.string s] w fun e w' => e = .returned (.tuple #[.slice none 0 0, .int .i64 0, .int .i64 3]) ∧ w = w' := by
  go_enter Tryz.func4, Tryz.ntmps4
  go_wp2
  go_returns
  exact ⟨rfl, rfl⟩

set_option maxHeartbeats 3200000 in
set_option maxRecDepth 100000 in
theorem tokens_any (s : ByteArray) (hs : s.size ≤ 65536) (w : World) (hH : Has w) :
    Calls Tryz.prog 4 #[.string s] w fun e w' => TokEnd w.heap.size (LexPlain.lexA 0 s.data.toList) e w' ∧ Below w.heap.size w w' := by
  have HST := Lib.hid (AInv.start s w)
  have HHB := Lib.hid hH.toB
  generalize ho : LexPlain.lexA 0 s.data.toList = o
  have HO := Lib.hid ho
  clear ho
  go_enter Tryz.func4, Tryz.ntmps4
  go_wp2
  go_loopw [12] (fun _ wr => ∃ (t : ByteArray) (line : Nat) (ts : List Tok), AInv s w t line ts wr) (fun _ wr => strSize ((wr.cell? ⟨w.heap.size, 0, none⟩).getD .nilIface))
  case atStart => exact ⟨s, 0, [], HST.out⟩
  case round =>
    obtain ⟨t, line, ts, hr⟩ := hrel
    rename_i wr
    have HR := Lib.hid hr
    clear hr
    have hb := HR.out.2.1.size
    have h3 := HR.out.2.2.1
    have h4 := HR.out.2.2.2.1
    obtain ⟨hlt, c0, c1, c3, f0, f1, f3⟩ := HR.out.1.cells
    by_cases h0 : t.size = 0
    · have z1 := ba_is_empty t h0
      have z2 := ba_empty t h0
      obtain ⟨v, hblk, hown⟩ := HR.out.1.2
      have c2 : wr.cell? ⟨w.heap.size, 2, none⟩ = some v := hblk.cell 2
      have hN : Hid (LexPlain.lexA 0 s.data.toList = .inr ts) := Lib.hid (by rw [HR.out.2.2.2.2, z2]; simp [LexPlain.lexA_nil, joinL])
      have HV := Lib.hid hown
      clear hown hblk h0 z2
      go_wp2_with fail
      go_returns
      exact ⟨tokEnd_ok (HO.out.symm.trans hN.out) HV.out, HR.out.2.1⟩
    · have z1 := ba_not_empty t h0
      have hpos : 0 < t.size := by omega
      have CN := Lib.hid (next_any w.heap.size w.heap.size t line ts wr HR.out.1 hb (by omega) (by omega) (by omega) (HHB.out.next HR.out.2.1) hpos)
      go_wp2_with fail
      refine CN.out.mono ?_
      rintro e w1 ⟨rfl, ha, hb1⟩
      rcases HR.out.next hpos ha hb1 with ⟨t', line', ts', hi, hlt'⟩ | ⟨line', hI, hbad, hbw⟩
      · have HI := Lib.hid hi
        clear hi ha hb1
        obtain ⟨k1, k2, k3, k4, k5, k6, k7⟩ := HI.out.1.cells
        go_wp2_with fail
        go_roundw
        case rel => exact ⟨t', line', ts', HI.out⟩
        case measure => rw [k2, c0]; exact hlt'
      · have HBW := Lib.hid hbw
        have HII := Lib.hid hI
        clear hI ha hb1 hbw
        obtain ⟨s', ts', hsc⟩ := hbad
        obtain ⟨k1, k2, k3, k4, k5, k6, k7⟩ := hsc.cells
        clear hsc
        go_wp2_with fail
        go_region
        all_goals
          go_wp2_with fail
          go_returns
          exact ⟨tokEnd_bad (HO.out.symm.trans HII.out), HBW.out.drew⟩
end Go.Proofs.YteinadddmcicoaaGreatDoor
