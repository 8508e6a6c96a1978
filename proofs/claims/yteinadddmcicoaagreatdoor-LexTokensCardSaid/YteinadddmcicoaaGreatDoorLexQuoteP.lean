/- A text as it stands in a program, as a function on bytes; no program in this text. -/
import Derived.Test.YteinadddmcicoaaGreatDoorLexStep
namespace Go.Proofs.YteinadddmcicoaaGreatDoor.LexPlain
open Go.Lib Go.RowKit

def hexD (d : Nat) : UInt8 := if d < 10 then UInt8.ofNat (48 + d) else UInt8.ofNat (87 + d)
def quoteB (c : UInt8) : List UInt8 := if c.toNat = 39 ∨ c.toNat = 92 then [92, c] else if c.toNat < 32 ∨ 126 < c.toNat then [92, 120, hexD (c.toNat / 16), hexD (c.toNat % 16)] else [c]
def quoteF (l : List UInt8) : List UInt8 := l.flatMap quoteB
def quoteL (l : List UInt8) : List UInt8 := 39 :: (quoteF l ++ [39])

theorem quoteB_le (c : UInt8) : (quoteB c).length ≤ 4 ∧ 1 ≤ (quoteB c).length := by
  unfold quoteB
  split
  · simp
  · split <;> simp
theorem quoteF_le : ∀ l, (quoteF l).length ≤ 4 * l.length
  | [] => by simp [quoteF]
  | c :: r => by
    have := quoteF_le r
    have := (quoteB_le c).1
    simp [quoteF] at *
    omega
theorem quoteF_snoc (l : List UInt8) (c : UInt8) : quoteF (l ++ [c]) = quoteF l ++ quoteB c := by simp [quoteF]
end Go.Proofs.YteinadddmcicoaaGreatDoor.LexPlain
