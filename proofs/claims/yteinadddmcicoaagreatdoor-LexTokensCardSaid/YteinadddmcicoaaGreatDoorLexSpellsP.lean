/- A text quoted, and tokens spelled out: what the scanner makes of them; no program in this text. -/
import Derived.Test.YteinadddmcicoaaGreatDoorLexJoinsP
import Derived.Test.YteinadddmcicoaaGreatDoorLexQuoteP
namespace Go.Proofs.YteinadddmcicoaaGreatDoor.LexPlain
open Go.Lib Go.RowKit

theorem hexV_hexD : ∀ d : Fin 16, hexV (hexD d.val) = some d.val := by decide +kernel
theorem charF_q (c : UInt8) (rest : List UInt8) : charF (quoteB c ++ rest) = some (c, (quoteB c).length) := by
  unfold quoteB
  by_cases h1 : c.toNat = 39 ∨ c.toNat = 92
  · rw [if_pos h1]
    show charF (92 :: c :: rest) = some (c, 2)
    unfold charF; simp only; rw [if_neg (by decide), if_pos (by decide), if_pos h1]
  · rw [if_neg h1]
    by_cases h2 : c.toNat < 32 ∨ 126 < c.toNat
    · rw [if_pos h2]
      show charF (92 :: 120 :: hexD (c.toNat / 16) :: hexD (c.toNat % 16) :: rest) = some (c, 4)
      have hc := c.toNat_lt
      have e1 := hexV_hexD ⟨c.toNat / 16, by omega⟩
      have e2 := hexV_hexD ⟨c.toNat % 16, by omega⟩
      simp only at e1 e2
      unfold charF; simp only; rw [if_neg (by decide), if_pos (by decide), if_neg (by decide), if_neg (by decide), if_pos (by decide), e1, e2]
      simp only
      have e3 : c.toNat / 16 * 16 + c.toNat % 16 = c.toNat := by omega
      rw [e3, UInt8.ofNat_toNat]
    · rw [if_neg h2]
      show charF (c :: rest) = some (c, 1)
      unfold charF; simp only; rw [if_neg (by omega), if_neg (by omega)]
theorem quoteB_head (c : UInt8) (rest : List UInt8) : quoteB c ++ rest ≠ [] ∧ ¬ ((quoteB c ++ rest).head?.map (·.toNat)) = some 39 := by
  unfold quoteB
  by_cases h1 : c.toNat = 39 ∨ c.toNat = 92
  · rw [if_pos h1]; exact ⟨by simp, by simp⟩
  · rw [if_neg h1]
    by_cases h2 : c.toNat < 32 ∨ 126 < c.toNat
    · rw [if_pos h2]; exact ⟨by simp, by simp⟩
    · rw [if_neg h2]; exact ⟨by simp, by simp; omega⟩
theorem textL_q (rest : List UInt8) : ∀ s : List UInt8, textL (quoteF s ++ 39 :: rest) = some (s, (quoteF s).length + 1)
  | [] => textL_end rest 39 rfl
  | c :: r => by
    have e : quoteF (c :: r) ++ 39 :: rest = quoteB c ++ (quoteF r ++ 39 :: rest) := by simp [quoteF]
    have e2 : (quoteF (c :: r)).length = (quoteB c).length + (quoteF r).length := by simp [quoteF]
    obtain ⟨h1, h2⟩ := quoteB_head c (quoteF r ++ 39 :: rest)
    rw [e, textL_step h1 h2, charF_q]
    simp only
    rw [List.drop_left, textL_q rest r, e2]
    simp; omega
theorem step_q (s rest : List UInt8) : step (quoteL s ++ rest) = some (some (5, s, 0), (quoteL s).length, 0) := by
  have e : quoteL s ++ rest = 39 :: (quoteF s ++ 39 :: rest) := by simp [quoteL]
  have e2 : (quoteL s).length = 1 + ((quoteF s).length + 1) := by simp [quoteL]; omega
  rw [e, step_text 39 _ (by decide) (by decide) (by intro h; exact absurd h.1 (by decide)) (by decide) (by decide) (by decide) (by decide), textL_q, e2]
theorem lexA_q (s : List UInt8) : lexA 0 (quoteL s) = .inr [⟨5, s, 0, 0⟩] := by
  have h := step_q s []
  rw [List.append_nil] at h
  rw [lexA_step 0 (l := quoteL s) (by simp [quoteL]), h]
  simp only
  rw [List.drop_length, lexA_nil]

/-- A token as it is spelled out. -/
def spell (k : Nat) (s : List UInt8) : List UInt8 := if k = 3 then 36 :: s else if k = 5 then quoteL s else s
def spells (ts : List Tok) : List UInt8 := ts.flatMap (fun t => spell t.kind t.s ++ [32])

theorem span_stop (p : UInt8 → Bool) (h32 : p 32 = false) (rest : List UInt8) : ∀ s : List UInt8, s.all p = true → spanL p (s ++ 32 :: rest) = s.length
  | [], _ => spanL_stop p 32 rest h32
  | c :: r, h => by
    rw [List.all_cons, Bool.and_eq_true] at h
    rw [List.cons_append, spanL_cons p c _ h.1, span_stop p h32 rest r h.2, List.length_cons]
    omega
theorem words_part : wordsL.all (fun w => w.all partB && ((w.head?.map headB).getD false)) = true := by decide +kernel
theorem head_facts {c : UInt8} (h : headB c = true) : ¬ c.toNat = 10 ∧ ¬ (c.toNat = 32 ∨ c.toNat = 9 ∨ c.toNat = 13) ∧ ¬ c.toNat = 47 := by
  unfold headB at h
  simp at h
  omega
theorem digit_facts {c : UInt8} (h : digitB c = true) : ¬ c.toNat = 10 ∧ ¬ (c.toNat = 32 ∨ c.toNat = 9 ∨ c.toNat = 13) ∧ ¬ c.toNat = 47 ∧ headB c = false ∧ ¬ c.toNat = 36 := by
  unfold digitB at h
  simp at h
  refine ⟨by omega, by omega, by omega, ?_, by omega⟩
  unfold headB
  simp
  omega
theorem sign_facts : signsL.all (fun w => match w with | [] => false | c :: _ => c.toNat != 10 && c.toNat != 32 && c.toNat != 9 && c.toNat != 13 && c.toNat != 47 && !headB c && c.toNat != 36 && !digitB c && c.toNat != 39) = true := by decide +kernel

theorem no_blank_sign {w : List UInt8} (h : (32 : UInt8) ∈ w) : signsL.contains w = false := by
  cases hx : signsL.contains w with
  | false => rfl
  | true =>
    have := List.all_eq_true.1 signs_clean w (by simpa using hx)
    simp only [Bool.and_eq_true, Bool.not_eq_true'] at this
    have h2 := this.1.1
    rw [List.contains_iff_mem.2 h] at h2
    cases h2
theorem signL_sep (rest : List UInt8) : ∀ s : List UInt8, s ∈ signsL → signL (s ++ 32 :: rest) = s.length
  | [], h => by exact absurd h (by decide)
  | [x], h => by
    have h1 : signsL.contains [x] = true := by simpa using h
    have h3 : signsL.contains (([x] ++ 32 :: rest).take 3) = false := no_blank_sign (by simp)
    have h2 : signsL.contains (([x] ++ 32 :: rest).take 2) = false := no_blank_sign (by simp)
    unfold signL
    rw [h3, h2]
    show (if false = true then _ else if false = true then _ else if signsL.contains [x] = true then 1 else 0) = 1
    simp only [if_pos h1]; rfl
  | [x, y], h => by
    have h1 : signsL.contains [x, y] = true := by simpa using h
    have h3 : signsL.contains (([x, y] ++ 32 :: rest).take 3) = false := no_blank_sign (by simp)
    unfold signL
    rw [h3]
    show (if false = true then _ else if signsL.contains [x, y] = true then 2 else _) = 2
    simp only [if_pos h1]; rfl
  | [x, y, z], h => by
    have h1 : signsL.contains [x, y, z] = true := by simpa using h
    unfold signL
    show (if signsL.contains [x, y, z] = true then 3 else _) = 3
    simp only [if_pos h1]
  | x :: y :: z :: u :: r, h => by
    have := List.all_eq_true.1 signs_clean _ h
    simp at this

theorem step_spell {k : Nat} {s : List UInt8} {v : Int} (h : TokOk k s v) (rest : List UInt8) : step (spell k s ++ 32 :: rest) = some (some (k, s, v), (spell k s).length, 0) := by
  have p32 : partB 32 = false := by decide
  have d32 : digitB 32 = false := by decide
  rcases h with ⟨rfl, hn, rfl⟩ | ⟨rfl, hw, rfl⟩ | ⟨rfl, hn, rfl⟩ | ⟨rfl, hx, hne, hd⟩ | ⟨rfl, rfl⟩ | ⟨rfl, hs, rfl⟩
  · show step (s ++ 32 :: rest) = some (some (1, s, 0), s.length, 0)
    have hn' := hn
    unfold isName at hn'
    simp only [Bool.and_eq_true] at hn'
    obtain ⟨⟨⟨⟨_, _⟩, hh⟩, hp⟩, hnw⟩ := hn'
    cases s with
    | nil => simp at hh
    | cons c r =>
      have hc : headB c = true := by simpa using hh
      obtain ⟨f1, f2, f3⟩ := head_facts hc
      have hsp := span_stop partB p32 rest (c :: r) hp
      rw [List.cons_append] at hsp ⊢
      rw [step_head c _ f1 f2 (fun hx => f3 hx.1) hc, hsp, ← List.cons_append, List.take_left]
      rw [if_neg (by simpa using hnw), if_pos hn]
  · show step (s ++ 32 :: rest) = some (some (2, s, 0), s.length, 0)
    have hm := List.all_eq_true.1 words_part s (List.contains_iff_mem.1 hw)
    rw [Bool.and_eq_true] at hm
    cases s with
    | nil => simp at hm
    | cons c r =>
      have hc : headB c = true := by simpa using hm.2
      obtain ⟨f1, f2, f3⟩ := head_facts hc
      have hsp := span_stop partB p32 rest (c :: r) hm.1
      rw [List.cons_append] at hsp ⊢
      rw [step_head c _ f1 f2 (fun hx => f3 hx.1) hc, hsp, ← List.cons_append, List.take_left]
      rw [if_pos hw]
  · show step (36 :: (s ++ 32 :: rest)) = some (some (3, s, 0), s.length + 1, 0)
    have hn' := hn
    unfold isName at hn'
    simp only [Bool.and_eq_true] at hn'
    obtain ⟨⟨⟨⟨_, _⟩, hh⟩, hp⟩, hnw⟩ := hn'
    have hsp := span_stop partB p32 rest s hp
    rw [step_dollar 36 _ (by decide) (by decide) (fun hx => absurd hx.1 (by decide)) (by decide) (by decide), hsp, List.take_left, if_pos hn, Nat.add_comm]
  · obtain ⟨u, hu, hv⟩ := hx
    show step (s ++ 32 :: rest) = some (some (4, s, v), s.length, 0)
    rw [hv]
    clear hv
    cases s with
    | nil => exact absurd rfl hne
    | cons c r =>
      have hc : digitB c = true := by rw [List.all_cons, Bool.and_eq_true] at hd; exact hd.1
      obtain ⟨f1, f2, f3, f4, f5⟩ := digit_facts hc
      have hsp := span_stop digitB d32 rest (c :: r) hd
      rw [List.cons_append] at hsp ⊢
      rw [step_digit c _ f1 f2 (fun hx => f3 hx.1) f4 f5 hc, hsp, ← List.cons_append, List.take_left, hu]
  · exact step_q s (32 :: rest)
  · show step (s ++ 32 :: rest) = some (some (6, s, 0), s.length, 0)
    have hf := List.all_eq_true.1 sign_facts s hs
    have hl := signL_sep rest s hs
    cases s with
    | nil => simp at hf
    | cons c r =>
      simp only [Bool.and_eq_true, bne_iff_ne, ne_eq, Bool.not_eq_true'] at hf
      obtain ⟨⟨⟨⟨⟨⟨⟨⟨g1, g2⟩, g3⟩, g4⟩, g5⟩, g6⟩, g7⟩, g8⟩, g9⟩ := hf
      rw [List.cons_append] at hl ⊢
      rw [step_sign c _ g1 (by omega) (fun hx => g5 hx.1) g6 g7 g8 g9, hl, if_neg (by simp), ← List.cons_append, List.take_left]

def AllOk (ts : List Tok) : Prop := ∀ t ∈ ts, TokOk t.kind t.s t.n
theorem LinesOk.all {hi : Nat} : ∀ {ts : List Tok} {lo : Nat}, LinesOk lo hi ts → AllOk ts
  | [], _, _ => fun t ht => by cases ht
  | t :: ts, lo, ⟨_, _, h3, h4⟩ => fun x hx => by
    rcases List.mem_cons.1 hx with rfl | hx
    · exact h3
    · exact h4.all x hx
theorem lexA_spells (line : Nat) : ∀ ts : List Tok, AllOk ts → lexA line (spells ts) = .inr (ts.map (fun t => { t with line := line }))
  | [], _ => rfl
  | t :: ts, h => by
    have hs := step_spell (h t (by simp)) (spells ts)
    have e : spells (t :: ts) = spell t.kind t.s ++ 32 :: spells ts := by simp [spells]
    have e32 : step (32 :: spells ts) = some (none, 1, 0) := by unfold step; simp only; rw [if_neg (by decide), if_pos (by decide)]
    rw [e, lexA_step line (l := spell t.kind t.s ++ 32 :: spells ts) (by simp), hs]
    simp only
    rw [List.drop_left, lexA_step line (l := 32 :: spells ts) (by simp), e32]
    simp only [Nat.add_zero]
    rw [show (32 :: spells ts).drop 1 = spells ts from rfl, lexA_spells line ts (fun x hx => h x (by simp [hx]))]
    rfl

theorem step_len {l s : List UInt8} {k n f : Nat} {v : Int} (h : step l = some (some (k, s, v), n, f)) : (spell k s).length + 1 ≤ 8 * n := by
  have hp := step_pos h
  unfold step at h
  cases l with
  | nil => cases h
  | cons c r =>
    simp only at h
    split at h
    · cases h
    · split at h
      · cases h
      · split at h
        · cases h
        · split at h
          · split at h
            · cases h
              have : (spell 2 ((c :: r).take (spanL partB (c :: r)))).length ≤ spanL partB (c :: r) := List.length_take_le _ _
              omega
            · split at h
              · cases h
                have : (spell 1 ((c :: r).take (spanL partB (c :: r)))).length ≤ spanL partB (c :: r) := List.length_take_le _ _
                omega
              · cases h
          · split at h
            · split at h
              · cases h
                have : (r.take (spanL partB r)).length ≤ spanL partB r := List.length_take_le _ _
                have e : (spell 3 (r.take (spanL partB r))).length = (r.take (spanL partB r)).length + 1 := rfl
                omega
              · cases h
            · split at h
              · split at h
                · cases h
                  have : (spell 4 ((c :: r).take (spanL digitB (c :: r)))).length ≤ spanL digitB (c :: r) := List.length_take_le _ _
                  omega
                · cases h
              · split at h
                · split at h
                  · rename_i bs m ht
                    cases h
                    have h1 := textL_le ht
                    have h2 := quoteF_le s
                    have e : (spell 5 s).length = (quoteF s).length + 2 := by simp [spell, quoteL]
                    omega
                  · cases h
                · split at h
                  · cases h
                  · cases h
                    have : (spell 6 ((c :: r).take (signL (c :: r)))).length ≤ signL (c :: r) := List.length_take_le _ _
                    omega
theorem spells_len : ∀ (g : Nat) (l : List UInt8) (line : Nat) (ts : List Tok), l.length ≤ g → lexA line l = .inr ts → (spells ts).length ≤ 8 * l.length ∧ ts.length ≤ l.length
  | g, [], line, ts, _, h => by
    rw [lexA_nil] at h
    cases h
    exact ⟨by simp [spells], by simp⟩
  | 0, c :: r, line, ts, hl, h => by simp at hl
  | g + 1, c :: r, line, ts, hl, h => by
    rw [lexA_step line (l := c :: r) (by simp)] at h
    cases hs : step (c :: r) with
    | none => rw [hs] at h; cases h
    | some x =>
      obtain ⟨o, n, f⟩ := x
      have hp := step_pos hs
      have hd : ((c :: r).drop n).length = (c :: r).length - n := List.length_drop
      rw [hs] at h
      cases o with
      | none =>
        have ih := spells_len g _ _ _ (by omega) h
        omega
      | some y =>
        obtain ⟨k, s, v⟩ := y
        have hsl := step_len hs
        simp only at h
        cases hx : lexA line ((c :: r).drop n) with
        | inl e => rw [hx] at h; cases h
        | inr us =>
          rw [hx] at h
          cases h
          have ih := spells_len g _ _ _ (by omega) hx
          have e : (spells ((⟨k, s, v, line⟩ : Tok) :: us)).length = (spell k s).length + 1 + (spells us).length := by simp [spells]; omega
          simp only [List.length_cons] at *
          omega
end Go.Proofs.YteinadddmcicoaaGreatDoor.LexPlain
