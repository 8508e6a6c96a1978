/- The book's lists of tokens: three marks are put behind each. -/
import Derived.Test.YteinadddmcicoaaGreatDoorBookFill
namespace Go.Proofs.YteinadddmcicoaaGreatDoor
open Go.RowKit Go.Shelf

def upd {α : Type} (f : Nat → α) (i : Nat) (x : α) : Nat → α := fun j => if j = i then x else f j
theorem upd_same {α : Type} (f : Nat → α) (i : Nat) (x : α) : upd f i x i = x := if_pos rfl
theorem upd_other {α : Type} (f : Nat → α) {i j : Nat} (x : α) (h : j ≠ i) : upd f i x j = f j := if_neg h

/-- Both rows hold nothing but marks. -/
def HeldM (B b : Nat) (vt : Value) (vs : Nat → Value) (ns : Nat → Nat) (w : World) : Prop := HeldS B b vt vs ns (fun k => marks (ns k) k) w

theorem HeldM.grow {B b gt ct n cap gg cap1 H : Nat} {a : Option Addr} {vs : Nat → Value} {ns : Nat → Nat} {i : Nat} {w w1 : World} (h : HeldM B b (.slice (some ⟨gt, 0, none⟩) 2 ct) vs ns w) (hi : i < 2) (hv : vs i = .slice a n cap) (hn : ns i = n)
    (hown : w1.ownsRow B 71 4 (.slice (some ⟨gg, 0, none⟩) (n + 1) cap1) (n + 1) (marks n i ++ markC i)) (hgrow : w.grownBy w1 (Value.slice a n cap).ownBlock) (hat : (Value.slice a n cap).ownBlock = some gg ∨ gg = H) (hH : w.heap.size = H) :
    HeldM B b (.slice (some ⟨gt, 0, none⟩) 2 ct) (upd vs i (.slice (some ⟨gg, 0, none⟩) (n + 1) cap1)) (upd ns i (n + 1)) (w1.setCell ⟨gt, i * 2, none⟩ (.slice (some ⟨gg, 0, none⟩) (n + 1) cap1)) := by
  obtain ⟨h1, h2, h3, h4, h5⟩ := h
  have hi4 := h4 i hi
  rw [← hv] at hgrow hat
  have hgb : gt ≠ b := fun e => own_blk_ne h3 h1 (by decide) (by rw [← e]; rfl)
  have e1 : Blk w1 b 62 (BookC 2 (.slice (some ⟨gt, 0, none⟩) 2 ct)) := Blk.grown h1 hgrow (Ne.symm (own_blk_ne hi4 h1 (by decide)))
  have e3 : w1.ownsRow B 90 2 (.slice (some ⟨gt, 0, none⟩) 2 ct) 2 [vs 0, .int .i64 (0 : Nat), vs 1, .int .i64 (1 : Nat)] := own_kept h3 fun g hg hlt => hgrow.block g hlt (fun e => own_apart hi4 h3 (by decide) g e.symm hg)
  have e5 : ∀ k, k < 2 → k ≠ i → w1.ownsRow B 71 4 (vs k) (ns k) (marks (ns k) k) := fun k hk hki => own_kept (h4 k hk) fun g hg hlt => hgrow.block g hlt (fun e => h5 k i hk hi hki g hg e.symm)
  have hno : ∀ k, k < 2 → k ≠ i → (vs k).ownBlock ≠ some gg := fun k hk hki e => by
    rcases hat with hat | hat
    · exact h5 k i hk hi hki gg e hat
    · have := ((h4 k hk).lt gg e).2
      omega
  refine ⟨e1.far (p := ⟨gt, i * 2, none⟩) (fun e => hgb e.symm) _, h2, ?_, fun k hk => ?_, fun k j hk hj hkj g hg => ?_⟩
  · have := own_set e3 (i * 2) (.slice (some ⟨gg, 0, none⟩) (n + 1) cap1)
    match i, hi with
    | 0, _ => exact this
    | 1, _ => exact this
  · by_cases hki : k = i
    · subst hki
      show World.ownsRow _ _ _ _ _ _ (marks (upd ns k (n + 1) k) k)
      rw [upd_same, upd_same, marks_succ]
      exact own_set_ne hown (a := ⟨gt, k * 2, none⟩) (fun e => own_apart hown e3 (by decide) gt e rfl) _
    · show World.ownsRow _ _ _ _ _ _ (marks (upd ns i (n + 1) k) k)
      rw [upd_other _ _ hki, upd_other _ _ hki]
      exact own_set_ne (e5 k hk hki) (a := ⟨gt, i * 2, none⟩) (fun e => own_apart (e5 k hk hki) e3 (by decide) gt e rfl) _
  · by_cases hki : k = i
    · subst hki
      rw [upd_same] at hg
      have hgg : gg = g := by simpa [Value.ownBlock] using hg
      subst hgg
      rw [upd_other _ _ (Ne.symm hkj)]
      exact hno j hj (Ne.symm hkj)
    · rw [upd_other _ _ hki] at hg
      by_cases hji : j = i
      · subst hji
        rw [upd_same]
        intro e
        have hgg : gg = g := by simpa [Value.ownBlock] using e
        subst hgg
        exact hno k hk hki hg
      · rw [upd_other _ _ hji]
        exact h5 k j hk hj hkj g hg

/-- Rows below i have three tokens more, row i has j more. -/
def grownN (ns : Nat → Nat) (i j : Nat) : Nat → Nat := fun k => if k < i then ns k + 3 else if k = i then ns k + j else ns k
theorem grownN_zero (ns : Nat → Nat) (k : Nat) : grownN ns 0 0 k = ns k := by
  unfold grownN; rw [if_neg (by omega)]; split <;> rfl
theorem grownN_next (ns : Nat → Nat) (i j k : Nat) : grownN ns i (j + 1) k = upd (grownN ns i j) i (ns i + j + 1) k := by
  unfold grownN upd
  by_cases h : k = i
  · subst h; rw [if_neg (by omega), if_pos rfl, if_pos rfl]; omega
  · simp only [if_neg h]
theorem grownN_end (ns : Nat → Nat) (i k : Nat) : grownN ns (i + 1) 0 k = grownN ns i 3 k := by
  unfold grownN
  by_cases h1 : k < i
  · rw [if_pos (by omega), if_pos h1]
  · by_cases h2 : k = i
    · rw [if_pos (by omega), if_neg h1, if_pos h2]
    · rw [if_neg (by omega), if_neg h1, if_neg h2]; split <;> rfl
theorem HeldM.congr {B b : Nat} {vt : Value} {vs : Nat → Value} {ns ms : Nat → Nat} {w : World} (h : HeldM B b vt vs ns w) (he : ∀ k, ms k = ns k) : HeldM B b vt vs ms w := by
  have : ms = ns := funext he
  rw [this]; exact h

theorem step_call1 {P : Program} {ops : Array Oper} {a : Act} {w : World} {K : Act → World → Prop} {Q : Exit → Act → World → Prop} {E : Prop} {d : Option Tmp} {n : Nat} {t ty : TypeId} {f : FuncId} {pos : String} {after : Array Edge} {u : Value}
    {fn : Func} (hf : P.funcs[f]? = some fn) (hn : (fn.name == "runtime.NumGoroutine") = false) (hb : fn.body.isNone = false) (hx : a.eval (.tmp n) = u) (h : Calls P f #[u] w fun e w' => ∃ v, e = .returned v ∧ K (a.put d v) w') :
    if Region.wanted { dst := d, op := .call { callee := .value (.func f), args := #[.tmp n], argTypes := #[t] }, type := ty, pos := pos, after := after, guard := none } (yielded ops a.tmps) = true then
      Oper.wp P { dst := d, op := .call { callee := .value (.func f), args := #[.tmp n], argTypes := #[t] }, type := ty, pos := pos, after := after, guard := none } a w K Q else E := by
  rw [if_pos (by simp [Region.wanted])]
  have hn' : ¬ fn.name = "runtime.NumGoroutine" := by simpa using hn
  have hb' : fn.body ≠ none := by intro e; rw [e] at hb; cases hb
  have hcf : ∀ xs, (callFunc f xs).run P w = .ok (.enter f xs) w := fun xs => by
    simp [callFunc, go_sem, hf, hn', hb']
  have hx' : a.tmps[n]?.getD undef = u := by simpa [go_sem] using hx
  clear hf hn hb hn' hb' hx
  go_simp
  refine Calls.mono (R := fun e w' => ∃ v, e = .returned v ∧ K (a.put d v) w') h ?_
  rintro e w' ⟨v, rfl, hk⟩
  exact hk

set_option maxHeartbeats 6400000 in
set_option maxRecDepth 100000 in
theorem growToken_any (B b : Nat) (vt : Value) (vs : Nat → Value) (ns : Nat → Nat) (w : World) (h : HeldM B b vt vs ns w) (hB : B ≤ w.heap.size) (hns : ∀ i, i < 2 → ns i ≤ 1000000) :
    Calls Tryz.prog 50 #[.pointer (some ⟨b, 0, none⟩)] w fun e w' => e = .returned (.tuple #[]) ∧ (∃ vs', HeldM B b vt vs' (fun i => ns i + 3) w') ∧ Below B w w' := by
  obtain ⟨i0, hi0, hz0, hz1, hz2⟩ := info_parts infoTok
  have HN := Lib.hid hns
  obtain ⟨gt, ct, rfl, -⟩ := HeldS.form h
  have c6 : w.cell? ⟨b, 6, none⟩ = some (.slice (some ⟨gt, 0, none⟩) 2 ct) := (h.1.cell 6).trans rfl
  have HS := Lib.hid (h.congr (ms := grownN ns 0 0) (fun k => grownN_zero ns k))
  clear hns h
  go_enter Tryz.func50, Tryz.ntmps50
  go_wp2_with fail
  go_loopw [10] (fun vi wr => ∃ i : Nat, vi = .int .i64 i ∧ i ≤ 2 ∧ Hid ((∃ vs', HeldM B b (.slice (some ⟨gt, 0, none⟩) 2 ct) vs' (grownN ns i 0) wr) ∧ Below B w wr)) (fun vi _ => 2 - (intOf vi).toNat)
  case atStart => exact ⟨0, rfl, by omega, Lib.hid ⟨⟨vs, HS.out⟩, Below.refl _ _⟩⟩
  case round =>
    obtain ⟨i, rfl, hi, hr⟩ := hrel
    by_cases hi2 : i < 2
    · obtain ⟨vs1, hh1⟩ := hr.out.1
      have d6 : wr.cell? ⟨b, 6, none⟩ = some (.slice (some ⟨gt, 0, none⟩) 2 ct) := (hh1.1.cell 6).trans rfl
      have hni := HN.out i hi2
      have hiI : (i : Int) < 2 := by omega
      clear hh1
      go_wp2_with fail
      go_loopw [4] (fun vk w2 => ∃ k : Nat, vk = .int .i64 k ∧ k ≤ 3 ∧ Hid ((∃ vs', HeldM B b (.slice (some ⟨gt, 0, none⟩) 2 ct) vs' (grownN ns i k) w2) ∧ Below B w w2)) (fun vk _ => 3 - (intOf vk).toNat)
      case atStart => exact ⟨0, rfl, by omega, hr⟩
      case round =>
        obtain ⟨k, rfl, hk, hr2⟩ := hrel
        by_cases hkn : k < 3
        · obtain ⟨vs2, hh2⟩ := hr2.out.1
          obtain ⟨gt', ct', hv, hcs⟩ := HeldS.form hh2
          injection hv with e1 e2 e3
          injection e1 with e1
          injection e1 with e1
          subst e1
          obtain ⟨q0, q1⟩ := hcs i hi2
          have hrow : wr.ownsRow B 71 4 (vs2 i) (grownN ns i k i) (marks (grownN ns i k i) i) := hh2.2.2.2.1 i hi2
          have hgn : grownN ns i k i = ns i + k := by unfold grownN; rw [if_neg (by omega), if_pos rfl]
          obtain ⟨a, cap, hvi⟩ := own_form hrow
          rw [hvi] at q0
          obtain ⟨n, hnn⟩ : ∃ n, n = grownN ns i k i := ⟨_, rfl⟩
          rw [← hnn] at q0 hvi hrow
          rw [hvi] at hrow
          have hn2 : n ≤ 1000003 := by omega
          have HROW := Lib.hid hrow
          have HH := Lib.hid hh2
          have HVI := Lib.hid hvi
          have HNN := Lib.hid hnn
          have HGN := Lib.hid hgn
          have hfz : wr.frozen? ⟨gt, i * 2, none⟩ = false := own_frozen hh2.2.2.1 _
          have hgl : gt < wr.heap.size := (hh2.2.2.1.lt gt rfl).2
          have CM := Lib.hid (fun w' => mark_any i (by omega) w')
          have hBgt : Hid (B ≤ gt) := Lib.hid (hh2.2.2.1.lt gt rfl).1
          have hbw : Hid (B ≤ wr.heap.size) := Lib.hid (Nat.le_trans hB hr2.out.2.size)
          have hag : Hid ((Value.slice a n cap).ownBlock ≠ some gt) := Lib.hid (fun e => own_apart hrow hh2.2.2.1 (by decide) gt e rfl)
          clear e3 hcs hrow hh2 hvi hnn hgn
          go_wp2_with fail
          go_region_law
            (first
              | (refine step_call1 Tryz.func137 (by kernel_rfl) (by kernel_rfl) (by rfl) ?_; refine (CM.out _).mono ?_; rintro e w3 ⟨rfl, hb3⟩; refine ⟨_, rfl, ?_⟩
                 have m0 : w3.cell? ⟨gt, i * 2, none⟩ = some (.slice a n cap) := cell_later hb3 (by simpa using q0)
                 have m1 : w3.cell? ⟨gt, i * 2 + 1, none⟩ = some (.int .i64 i) := cell_later hb3 (by simpa using q1)
                 have x0 : w3.frozen? ⟨gt, i * 2, none⟩ = false := (hb3.frozen (p := ⟨gt, i * 2, none⟩) (by simpa using hgl)).trans (by simpa using hfz)
                 have HB := Lib.hid (show Below wr.heap.size wr w3 from (Below.refl _ wr).drew.trans hb3)
                 have hgl3 : gt < w3.heap.size := Nat.lt_of_lt_of_le hgl HB.out.size
                 have HR3 := Lib.hid (own_below2 HROW.out HB.out))
              | (refine step_append_lies _ (by rfl) _ _ _ (by rfl) B 71 i0 _ 4 40 Tryz.underlying22 hi0 hz0 hz1 hz2 rfl (by omega) (.slice a n cap) n (marks n i) (by rfl) (HR3.out.alloc _) ⟨w3.heap.size, 0, none⟩ 1 1 (markC i) (by rfl) (by rfl)
                  (World.news_of_block (cs := #[.int .u8 0, .string ⟨#[]⟩, .int .i64 0, .int .i64 (-1000 - (i : Int))]) (t := 71) (fr := (0, 0)) (heap_alloc_new w3 _)) (by intro u hu; simp [markC] at hu; rcases hu with rfl | rfl | rfl | rfl <;> rfl)
                  (by omega) (by unfold maxLen; omega) (by omega) (by have := hbw.out; have := HB.out.size; simp; omega) (w3.heap.size + 1) (by simp) ?_; intro gg cap1 w4 hown4 hgrow hat hlt4
                 have k1 : w4.cell? ⟨gt, i * 2, none⟩ = some (.slice a n cap) := by rw [hgrow.cell_far _ (by simp; omega) (Ne.symm hag.out)]; go_simp
                 have k2 : w4.frozen? ⟨gt, i * 2, none⟩ = false := by rw [hgrow.frozen_far _ (by simp; omega) (Ne.symm hag.out)]; go_simp
                 have k3 : w4.cell? ⟨gt, i * 2 + 1, none⟩ = some (.int .i64 i) := by rw [hgrow.cell_far _ (by simp; omega) (Ne.symm hag.out)]; go_simp))
          all_goals
            have HM := Lib.hid (HeldM.grow (H := w3.heap.size + 1) ((HeldS.below HH.out HB.out).below ((Below.refl _ w3).alloc (Nat.le_refl _) (.cells #[.int .u8 0, .string ⟨#[]⟩, .int .i64 0, .int .i64 (-1000 - (i : Int))] 71))) hi2 HVI.out HNN.out.symm hown4 hgrow hat (by simp))
            have HB4 := Lib.hid (((hr2.out.2.trans (HB.out.mono hbw.out)).alloc (Nat.le_trans hbw.out HB.out.size) (.cells #[.int .u8 0, .string ⟨#[]⟩, .int .i64 0, .int .i64 (-1000 - (i : Int))] 71)).grown hgrow (by have := hbw.out; have := HB.out.size; simp; omega) (fun q hq => (HR3.out.lt q hq).1))
            clear hown4 hgrow hat
            go_wp2_with fail
            go_roundw
          all_goals first
            | (simp [intOf]; omega; done)
            | skip
          all_goals exact ⟨k + 1, by go_num, by omega, Lib.hid ⟨⟨_, HM.out.congr fun j => by rw [grownN_next, HNN.out, HGN.out]⟩, HB4.out.setCell (p := ⟨gt, i * 2, none⟩) hBgt.out _⟩⟩
        · have hkk : k = 3 := by omega
          subst hkk
          go_wp2_with fail
          go_roundw
          case rel => exact ⟨i + 1, by go_num, by omega, Lib.hid ⟨hr2.out.1.imp fun vs' h => h.congr (fun j => grownN_end ns i j), hr2.out.2⟩⟩
          case measure => simp [intOf]; omega
    · have hii : i = 2 := by omega
      subst hii
      go_wp2_with fail
      go_returns
      exact ⟨rfl, hr.out.1.imp fun vs' h => ⟨h.1, h.2.1, h.2.2.1, fun j hj => by have := h.2.2.2.1 j hj; have e : grownN ns 2 0 j = ns j + 3 := if_pos hj; simp only [e] at this; exact this, h.2.2.2.2⟩, hr.out.2⟩
end Go.Proofs.YteinadddmcicoaaGreatDoor
