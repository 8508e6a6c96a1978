/- Walks over layer 2's scanner: text. -/
import Derived.Test.YteinadddmcicoaaGreatDoorLexTextP
import Derived.Test.YteinadddmcicoaaGreatDoorLexNumber2
namespace Go.Proofs.YteinadddmcicoaaGreatDoor
open Go.RowKit Go.Shelf
open LexPlain (Tok hexV charF textL textL_step textL_nil textL_end)

def TextEnd (B b line : Nat) (s : ByteArray) (ts : List Tok) (o : Option (List UInt8 × Nat)) (w' : World) : Prop :=
  match o with
  | none => ScanBad B b line w'
  | some (bs, m) => Scan B b (s.extract (1 + m) s.size) line (ts ++ [⟨5, bs, 0, line⟩]) false w'

def strSize : Value → Nat
  | .string t => t.size
  | _ => 0

theorem drop_extract (t : ByteArray) (n : Nat) : (t.extract n t.size).data.toList = t.data.toList.drop n := by
  have hz : t.data.toList.length = t.size := Array.length_toList
  simp only [ByteArray.data_extract, Array.toList_extract, List.extract_eq_take_drop]
  exact List.take_of_length_le (by rw [List.length_drop]; omega)
theorem drop_at (t : ByteArray) (i : Nat) (h : i < t.size) : t.data.toList.drop i = t[i] :: t.data.toList.drop (i + 1) := by
  have hz : t.data.toList.length = t.size := Array.length_toList
  exact List.drop_eq_getElem_cons (l := t.data.toList) (i := i) (by omega)
theorem list_cons (t : ByteArray) (h : 0 < t.size) : t.data.toList = t[0] :: t.data.toList.drop 1 := drop_at t 0 h
theorem list_cons2 (t : ByteArray) (h : 1 < t.size) : t.data.toList = t[0] :: t[1] :: t.data.toList.drop 2 := by
  have h1 := list_cons t (by omega)
  rw [drop_at t 1 h] at h1
  exact h1
theorem list_cons4 (t : ByteArray) (h : 3 < t.size) : t.data.toList = t[0] :: t[1] :: t[2] :: t[3] :: t.data.toList.drop 4 := by
  have h1 := list_cons2 t (by omega)
  rw [drop_at t 2 (by omega), drop_at t 3 h] at h1
  exact h1

theorem pre2 (t : ByteArray) (x : UInt8) (h : 0 < t.size) (h0 : t[0].toNat = 92) (w : World) (q : Bool) (hq : (∃ hh : 1 < t.size, t[1].toNat = x.toNat) ↔ q = true) :
    Calls Tryz.prog 114 #[.string t, .string ⟨#[92, x]⟩] w fun e w' => e = .returned (.bool q) ∧ w = w' := by
  refine (Tryz.strings_HasPrefix t ⟨#[92, x]⟩ w).mono ?_
  rintro e w' ⟨rfl, rfl⟩
  refine ⟨ret_bool ?_, rfl⟩
  have e0 : t[0] = 92 := UInt8.toNat.inj h0
  unfold Lib.hasPrefix
  rw [Bool.eq_iff_iff, ← hq]
  by_cases h1 : 1 < t.size
  · rw [list_cons2 t h1, e0]
    simp only [List.isPrefixOf, Bool.and_true, beq_self_eq_true, Bool.true_and, beq_iff_eq]
    exact ⟨fun hh => ⟨h1, by rw [hh]⟩, fun ⟨_, hh⟩ => (UInt8.toNat.inj hh).symm⟩
  · have : t.data.toList.length = t.size := Array.length_toList
    have hd : t.data.toList.drop 1 = [] := List.drop_eq_nil_of_le (by omega)
    rw [list_cons t h, hd, e0]
    simp only [List.isPrefixOf, Bool.and_false, Bool.false_eq_true, false_iff]
    exact fun ⟨hh, _⟩ => h1 hh

theorem lower_any2 (B : Nat) (t : ByteArray) (w : World) (hH : HasB B w) (hs : t.size ≤ 1000000) :
    Calls Tryz.prog 207 #[.string t] w fun e w' => e = .returned (.string ⟨(Lib.toLowerD t.data.toList).toArray⟩) ∧ Below w.heap.size w w' :=
  Tryz.strings_ToLower_any t w (by omega) hH.has.case hH.has.utf8
theorem wbyte (B b : Nat) (acc : List UInt8) (c : UInt8) (w : World) (h : Lib.IsBuilderF 353 5 B b (Lib.byteCells acc) w) (hlen : acc.length ≤ 1000000) (hBw : B ≤ w.heap.size) (cv : Int) (hc : cv = c.toNat) :
    Calls Tryz.prog 199 #[.pointer (some ⟨b, 0, none⟩), .int .u8 cv] w fun e w' => e = .returned .nilIface ∧ Lib.IsBuilderF 353 5 B b (Lib.byteCells (acc ++ [c])) w' ∧ Below B w w' := by
  subst hc
  refine (Any.Builder_WriteByte_k { Tryz.lays159 with } Tryz.Builder_Extra_159 B b (Lib.byteCells acc) c.toNat w h (by rw [Lib.byteCells_length]; omega) hBw).mono ?_
  rintro e w' ⟨rfl, h1, h2, -⟩
  exact ⟨rfl, .inr (by rw [← byteCells_snoc]; exact h1), h2⟩

/-- How things stand ahead of a round of text's loop: of the rest t, with acc gathered. -/
def TInv (s : ByteArray) (L : List UInt8) (w : World) (acc : List UInt8) (t : ByteArray) (wr : World) : Prop :=
  acc.length + t.size + 1 ≤ s.size ∧ textL L = comb acc (s.size - 1 - t.size) (textL t.data.toList) ∧ Lib.IsBuilderF 353 5 w.heap.size w.heap.size (Lib.byteCells acc) wr ∧ Below w.heap.size w wr
theorem TInv.below {s : ByteArray} {L : List UInt8} {w : World} {acc : List UInt8} {t : ByteArray} {wr w1 : World} (h : TInv s L w acc t wr) (hb : Below wr.heap.size wr w1) : TInv s L w acc t w1 :=
  ⟨h.1, h.2.1, IsB.below h.2.2.1 hb, h.2.2.2.trans (hb.mono h.2.2.2.size)⟩
theorem TInv.start (s : ByteArray) (L : List UInt8) (w : World) (hL : s.data.toList.drop 1 = L) (hs : 1 ≤ s.size) : TInv s L w [] (s.extract 1 s.size) (w.alloc (.cells #[.pointer none, .slice none 0 0] 353)) := by
  refine ⟨by rw [ByteArray.size_extract]; simp; omega, ?_, Lib.IsBuilderF.of (Lib.fresh_isBuilder 353 5 w), (Below.refl w.heap.size w).alloc (Nat.le_refl _) _⟩
  rw [drop_extract, hL, ByteArray.size_extract]
  cases textL L with
  | none => rfl
  | some x => obtain ⟨bs, k⟩ := x; simp [comb]
theorem TInv.next {s : ByteArray} {L : List UInt8} {w : World} {acc : List UInt8} {t : ByteArray} {wr w1 : World} (h : TInv s L w acc t wr) {c : UInt8} {n : Nat} (hn : 1 ≤ n) (hnt : n ≤ t.size) (hc : charF t.data.toList = some (c, n)) (h39 : ¬ (t.data.toList.head?.map (·.toNat)) = some 39)
    (hb : Lib.IsBuilderF 353 5 w.heap.size w.heap.size (Lib.byteCells (acc ++ [c])) w1) (hbw : Below w.heap.size wr w1) : TInv s L w (acc ++ [c]) (t.extract n t.size) w1 := by
  have hz : t.data.toList.length = t.size := Array.length_toList
  have hne : t.data.toList ≠ [] := fun he => by rw [he] at hz; simp at hz; omega
  refine ⟨by rw [ByteArray.size_extract]; have := h.1; simp; omega, ?_, hb, h.2.2.2.trans hbw⟩
  rw [drop_extract, comb_step h.2.1 hne h39 hc, ByteArray.size_extract]
  congr 1
  have := h.1
  omega
theorem TInv.write {s : ByteArray} {L : List UInt8} {w : World} {acc : List UInt8} {t : ByteArray} {wr : World} (h : TInv s L w acc t wr) (hs : s.size ≤ 1000000) (c : UInt8) (n : Nat) (hn : 1 ≤ n) (hnt : n ≤ t.size) (hc : charF t.data.toList = some (c, n)) (h39 : ¬ (t.data.toList.head?.map (·.toNat)) = some 39) (cv : Int) (hcv : cv = c.toNat) :
    Calls Tryz.prog 199 #[.pointer (some ⟨w.heap.size, 0, none⟩), .int .u8 cv] wr fun e w' => e = .returned .nilIface ∧ TInv s L w (acc ++ [c]) (t.extract n t.size) w' := by
  refine (wbyte w.heap.size w.heap.size acc c wr h.2.2.1 (by have := h.1; omega) h.2.2.2.size cv hcv).mono ?_
  rintro e w' ⟨rfl, h1, h2⟩
  exact ⟨rfl, h.next hn hnt hc h39 h1 h2⟩
end Go.Proofs.YteinadddmcicoaaGreatDoor
