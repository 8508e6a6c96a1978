/- The book of lists: what its block holds, and the rows of tokens that it knows. -/
import Derived.Test.YteinadddmcicoaaGreatDoorLexLists
namespace Go.Proofs.YteinadddmcicoaaGreatDoor
open Go.RowKit Go.Shelf

/-- The book's cells: n lists are known, and v is the list of those of tokens. -/
def BookC (n : Nat) (v : Value) : Array Value := #[.int .i64 n, .slice none 0 0, .slice none 0 0, .slice none 0 0, .slice none 0 0, .slice none 0 0, v,
  .slice none 0 0, .slice none 0 0, .slice none 0 0, .slice none 0 0, .slice none 0 0, .slice none 0 0, .slice none 0 0,
  .slice none 0 0, .slice none 0 0, .slice none 0 0, .slice none 0 0, .slice none 0 0, .slice none 0 0, .slice none 0 0,
  .slice none 0 0, .slice none 0 0, .slice none 0 0, .slice none 0 0, .slice none 0 0, .slice none 0 0, .slice none 0 0,
  .slice none 0 0, .slice none 0 0, .slice none 0 0, .slice none 0 0, .slice none 0 0, .slice none 0 0, .slice none 0 0]
theorem BookC.size (n : Nat) (v : Value) : (BookC n v).size = 35 := rfl
end Go.Proofs.YteinadddmcicoaaGreatDoor
