/-
  No cell of these rows narrows 'for every input' (looked for: loops, veiled, ifaces, maps, wideKeys, modest, calm, conditions, laid).
  DERIVED. THE GIVEN ROWS OF THIS SEAT. 8 by the template 'for every input the law returns true; each argument reads behind the call as it read before'; 0 by the template 'total and deterministic' (their statements: YthfnmighhoighaaTotals.lean).
  GIVEN WITH THE SEED: the statements are not yours to turn. If you find one false, say at which input.
  Laid BY PROGRAM, IN A SANDBOX (cutbox-rows.mjs): the forced cells as the released guide's own fill.sh prints them over the translation 06f67d83674b7ebc… (all of the seat's roots in one cut). By AI agents, Wed Nov 11 2026. No macro, syntax, notation, axiom, sorry.
-/
import Derived.Test.YthfnmighhoighaaChecked
import GoSem.Claim
import GoSem.ClaimJoined
import GoSem.ClaimMapViews
import Derived.JoinedTies
import Derived.KernelRfl
namespace Go.Proofs.Ythfnmighhoighaa
/- THE CELL 'sum', in the pinned program and in every row, IS THE sha256 OF THE DUMP (.gsa) THAT YthfnmighhoighaaProg.lean LOADS. Nothing in Lean hashes anything: it is a label: what it is worth is what the hold of that sum in a sandbox is worth. -/
noncomputable def Try.pinned : Pinned := { name := "ythfnmighhoighaa", sum := "06f67d83674b7ebcf284b4a10e2850869aa0b2a29d1e0db8939049796b1577e6", checked := Try.checked }
namespace Rows
def none {H : Type} : Left H := { results := [], args := [] }

/-- 'musterlaw07.ShapeChecks': WHATEVER THE INPUT: true; the input reads as it did. -/
def shapeChecksSpec : ChangeSpec := { name := "shapeChecks", fn := fun _ => fun
  | [d] => { results := [.lit (.bool true)], args := [d] }
  | _ => none }
def shapeChecksRow : OpenClaim := { program := "ythfnmighhoighaa", sum := "06f67d83674b7ebcf284b4a10e2850869aa0b2a29d1e0db8939049796b1577e6", func := "muster/musterlaw07.ShapeChecks", spec := "shapeChecks", unfollowed := true, recurses := true, apart := false }
def ShapeChecksSaid : Prop := shapeChecksRow.holds Try.pinned (OpenSpec.ofChange shapeChecksSpec)

/-- ITS FALSE NEIGHBOUR: 'it returns false'. Refute it at one input. -/
def shapeChecksWrong : ChangeSpec := { name := "shapeChecks", fn := fun _ => fun
  | [d] => { results := [.lit (.bool false)], args := [d] }
  | _ => none }
def ShapeChecksWrongFalsely : Prop := shapeChecksRow.holds Try.pinned (OpenSpec.ofChange shapeChecksWrong)

/-- 'musterlaw07.ShapeTurns': WHATEVER THE INPUT: true; the input reads as it did. -/
def shapeTurnsSpec : ChangeSpec := { name := "shapeTurns", fn := fun _ => fun
  | [d1, d2, d3] => { results := [.lit (.bool true)], args := [d1, d2, d3] }
  | _ => none }
def shapeTurnsRow : OpenClaim := { program := "ythfnmighhoighaa", sum := "06f67d83674b7ebcf284b4a10e2850869aa0b2a29d1e0db8939049796b1577e6", func := "muster/musterlaw07.ShapeTurns", spec := "shapeTurns", unfollowed := true, recurses := true, apart := false }
def ShapeTurnsSaid : Prop := shapeTurnsRow.holds Try.pinned (OpenSpec.ofChange shapeTurnsSpec)

/-- ITS FALSE NEIGHBOUR: 'it returns false'. Refute it at one input. -/
def shapeTurnsWrong : ChangeSpec := { name := "shapeTurns", fn := fun _ => fun
  | [d1, d2, d3] => { results := [.lit (.bool false)], args := [d1, d2, d3] }
  | _ => none }
def ShapeTurnsWrongFalsely : Prop := shapeTurnsRow.holds Try.pinned (OpenSpec.ofChange shapeTurnsWrong)

/-- 'musterlaw07.ShapeOptions': WHATEVER THE INPUT: true; the input reads as it did. -/
def shapeOptionsSpec : ChangeSpec := { name := "shapeOptions", fn := fun _ => fun
  | [d] => { results := [.lit (.bool true)], args := [d] }
  | _ => none }
def shapeOptionsRow : OpenClaim := { program := "ythfnmighhoighaa", sum := "06f67d83674b7ebcf284b4a10e2850869aa0b2a29d1e0db8939049796b1577e6", func := "muster/musterlaw07.ShapeOptions", spec := "shapeOptions", unfollowed := true, recurses := true, apart := false }
def ShapeOptionsSaid : Prop := shapeOptionsRow.holds Try.pinned (OpenSpec.ofChange shapeOptionsSpec)

/-- ITS FALSE NEIGHBOUR: 'it returns false'. Refute it at one input. -/
def shapeOptionsWrong : ChangeSpec := { name := "shapeOptions", fn := fun _ => fun
  | [d] => { results := [.lit (.bool false)], args := [d] }
  | _ => none }
def ShapeOptionsWrongFalsely : Prop := shapeOptionsRow.holds Try.pinned (OpenSpec.ofChange shapeOptionsWrong)

/-- 'musterlaw07.ShapeWalls': WHATEVER THE INPUT: true; the input reads as it did. -/
def shapeWallsSpec : ChangeSpec := { name := "shapeWalls", fn := fun _ => fun
  | [d1, d2] => { results := [.lit (.bool true)], args := [d1, d2] }
  | _ => none }
def shapeWallsRow : OpenClaim := { program := "ythfnmighhoighaa", sum := "06f67d83674b7ebcf284b4a10e2850869aa0b2a29d1e0db8939049796b1577e6", func := "muster/musterlaw07.ShapeWalls", spec := "shapeWalls", unfollowed := true, recurses := true, apart := false }
def ShapeWallsSaid : Prop := shapeWallsRow.holds Try.pinned (OpenSpec.ofChange shapeWallsSpec)

/-- ITS FALSE NEIGHBOUR: 'it returns false'. Refute it at one input. -/
def shapeWallsWrong : ChangeSpec := { name := "shapeWalls", fn := fun _ => fun
  | [d1, d2] => { results := [.lit (.bool false)], args := [d1, d2] }
  | _ => none }
def ShapeWallsWrongFalsely : Prop := shapeWallsRow.holds Try.pinned (OpenSpec.ofChange shapeWallsWrong)

/-- 'musterlaw19.BookTurns': WHATEVER THE INPUT: true; the input reads as it did. -/
def bookTurnsSpec : ChangeSpec := { name := "bookTurns", fn := fun _ => fun
  | [d1, d2, d3] => { results := [.lit (.bool true)], args := [d1, d2, d3] }
  | _ => none }
def bookTurnsRow : OpenClaim := { program := "ythfnmighhoighaa", sum := "06f67d83674b7ebcf284b4a10e2850869aa0b2a29d1e0db8939049796b1577e6", func := "muster/musterlaw19.BookTurns", spec := "bookTurns", unfollowed := true, recurses := true, apart := false }
def BookTurnsSaid : Prop := bookTurnsRow.holds Try.pinned (OpenSpec.ofChange bookTurnsSpec)

/-- ITS FALSE NEIGHBOUR: 'it returns false'. Refute it at one input. -/
def bookTurnsWrong : ChangeSpec := { name := "bookTurns", fn := fun _ => fun
  | [d1, d2, d3] => { results := [.lit (.bool false)], args := [d1, d2, d3] }
  | _ => none }
def BookTurnsWrongFalsely : Prop := bookTurnsRow.holds Try.pinned (OpenSpec.ofChange bookTurnsWrong)

/-- 'musterlaw19.BookTaken': WHATEVER THE INPUT: true; the input reads as it did. -/
def bookTakenSpec : ChangeSpec := { name := "bookTaken", fn := fun _ => fun
  | [d1, d2, d3] => { results := [.lit (.bool true)], args := [d1, d2, d3] }
  | _ => none }
def bookTakenRow : OpenClaim := { program := "ythfnmighhoighaa", sum := "06f67d83674b7ebcf284b4a10e2850869aa0b2a29d1e0db8939049796b1577e6", func := "muster/musterlaw19.BookTaken", spec := "bookTaken", unfollowed := true, recurses := true, apart := false }
def BookTakenSaid : Prop := bookTakenRow.holds Try.pinned (OpenSpec.ofChange bookTakenSpec)

/-- ITS FALSE NEIGHBOUR: 'it returns false'. Refute it at one input. -/
def bookTakenWrong : ChangeSpec := { name := "bookTaken", fn := fun _ => fun
  | [d1, d2, d3] => { results := [.lit (.bool false)], args := [d1, d2, d3] }
  | _ => none }
def BookTakenWrongFalsely : Prop := bookTakenRow.holds Try.pinned (OpenSpec.ofChange bookTakenWrong)

/-- 'musterlaw19.BookTakes': WHATEVER THE INPUT: true; the input reads as it did. -/
def bookTakesSpec : ChangeSpec := { name := "bookTakes", fn := fun _ => fun
  | [d1, d2, d3] => { results := [.lit (.bool true)], args := [d1, d2, d3] }
  | _ => none }
def bookTakesRow : OpenClaim := { program := "ythfnmighhoighaa", sum := "06f67d83674b7ebcf284b4a10e2850869aa0b2a29d1e0db8939049796b1577e6", func := "muster/musterlaw19.BookTakes", spec := "bookTakes", unfollowed := true, recurses := true, apart := false }
def BookTakesSaid : Prop := bookTakesRow.holds Try.pinned (OpenSpec.ofChange bookTakesSpec)

/-- ITS FALSE NEIGHBOUR: 'it returns false'. Refute it at one input. -/
def bookTakesWrong : ChangeSpec := { name := "bookTakes", fn := fun _ => fun
  | [d1, d2, d3] => { results := [.lit (.bool false)], args := [d1, d2, d3] }
  | _ => none }
def BookTakesWrongFalsely : Prop := bookTakesRow.holds Try.pinned (OpenSpec.ofChange bookTakesWrong)

/-- 'musterlaw19.BookPast': WHATEVER THE INPUT: true; the input reads as it did. -/
def bookPastSpec : ChangeSpec := { name := "bookPast", fn := fun _ => fun
  | [d1, d2, d3] => { results := [.lit (.bool true)], args := [d1, d2, d3] }
  | _ => none }
def bookPastRow : OpenClaim := { program := "ythfnmighhoighaa", sum := "06f67d83674b7ebcf284b4a10e2850869aa0b2a29d1e0db8939049796b1577e6", func := "muster/musterlaw19.BookPast", spec := "bookPast", unfollowed := true, recurses := true, apart := false }
def BookPastSaid : Prop := bookPastRow.holds Try.pinned (OpenSpec.ofChange bookPastSpec)

/-- ITS FALSE NEIGHBOUR: 'it returns false'. Refute it at one input. -/
def bookPastWrong : ChangeSpec := { name := "bookPast", fn := fun _ => fun
  | [d1, d2, d3] => { results := [.lit (.bool false)], args := [d1, d2, d3] }
  | _ => none }
def BookPastWrongFalsely : Prop := bookPastRow.holds Try.pinned (OpenSpec.ofChange bookPastWrong)

/- THE SECOND FORM. 'bulk': how many values and letters a reading holds, each counted each time it is reached (what is shared counts as often as it is met; a slice's spare places count too). A statement '..UptoSaid' is the law's where the arguments, and the package variables that the reading takes, are together of bulk at most 1048576: NARROWER than '..Said'. Prove '..Said' where nothing that the law and all that it calls make is longer than what came in: it says more and counts as full. Else prove '..UptoSaid'. A law counts once. -/
mutual
def uptoBulk {H : Type} : DataW H → Nat
  | .lit (.string bytes) => bytes.length + 1
  | .lit _ => 1
  | .nil => 1
  | .ptr d => uptoBulk d + 1
  | .slice elems spare => uptoBulkAll elems + uptoBulkAll spare + 1
  | .agg parts => uptoBulkAll parts + 1
  | .iface _ d => uptoBulk d + 1
  | .map entries => uptoBulkEntries entries + 1
  | .held _ => 1
def uptoBulkAll {H : Type} : List (DataW H) → Nat
  | [] => 0
  | d :: r => uptoBulk d + uptoBulkAll r
def uptoBulkEntries {H : Type} : List (Lit × DataW H) → Nat
  | [] => 0
  | x :: r => uptoBulkEntry x + uptoBulkEntries r
def uptoBulkEntry {H : Type} : Lit × DataW H → Nat
  | (.string bytes, d) => bytes.length + uptoBulk d + 1
  | (_, d) => uptoBulk d + 1
 end
def uptoSmall : (H : Type) → List (DataW H) → Bool := fun _ ds => decide (uptoBulkAll ds ≤ 1048576)
def OpenSpec.upto (s : _root_.Go.ChangeSpec) : _root_.Go.OpenSpec := { _root_.Go.OpenSpec.ofChange s with cond := some uptoSmall }

/-- 'musterlaw07.ShapeChecks', WHERE WHAT IT READS IS OF BULK AT MOST 1048576: true; the input reads as it did. -/
def shapeChecksUptoRow : OpenClaim := { program := "ythfnmighhoighaa", sum := "06f67d83674b7ebcf284b4a10e2850869aa0b2a29d1e0db8939049796b1577e6", func := "muster/musterlaw07.ShapeChecks", spec := "shapeChecks", unfollowed := true, recurses := true, apart := false, narrowed := true }
def ShapeChecksUptoSaid : Prop := shapeChecksUptoRow.holds Try.pinned (OpenSpec.upto shapeChecksSpec)

/-- 'musterlaw07.ShapeTurns', WHERE WHAT IT READS IS OF BULK AT MOST 1048576: true; the input reads as it did. -/
def shapeTurnsUptoRow : OpenClaim := { program := "ythfnmighhoighaa", sum := "06f67d83674b7ebcf284b4a10e2850869aa0b2a29d1e0db8939049796b1577e6", func := "muster/musterlaw07.ShapeTurns", spec := "shapeTurns", unfollowed := true, recurses := true, apart := false, narrowed := true }
def ShapeTurnsUptoSaid : Prop := shapeTurnsUptoRow.holds Try.pinned (OpenSpec.upto shapeTurnsSpec)

/-- 'musterlaw07.ShapeOptions', WHERE WHAT IT READS IS OF BULK AT MOST 1048576: true; the input reads as it did. -/
def shapeOptionsUptoRow : OpenClaim := { program := "ythfnmighhoighaa", sum := "06f67d83674b7ebcf284b4a10e2850869aa0b2a29d1e0db8939049796b1577e6", func := "muster/musterlaw07.ShapeOptions", spec := "shapeOptions", unfollowed := true, recurses := true, apart := false, narrowed := true }
def ShapeOptionsUptoSaid : Prop := shapeOptionsUptoRow.holds Try.pinned (OpenSpec.upto shapeOptionsSpec)

/-- 'musterlaw07.ShapeWalls', WHERE WHAT IT READS IS OF BULK AT MOST 1048576: true; the input reads as it did. -/
def shapeWallsUptoRow : OpenClaim := { program := "ythfnmighhoighaa", sum := "06f67d83674b7ebcf284b4a10e2850869aa0b2a29d1e0db8939049796b1577e6", func := "muster/musterlaw07.ShapeWalls", spec := "shapeWalls", unfollowed := true, recurses := true, apart := false, narrowed := true }
def ShapeWallsUptoSaid : Prop := shapeWallsUptoRow.holds Try.pinned (OpenSpec.upto shapeWallsSpec)

/-- 'musterlaw19.BookTurns', WHERE WHAT IT READS IS OF BULK AT MOST 1048576: true; the input reads as it did. -/
def bookTurnsUptoRow : OpenClaim := { program := "ythfnmighhoighaa", sum := "06f67d83674b7ebcf284b4a10e2850869aa0b2a29d1e0db8939049796b1577e6", func := "muster/musterlaw19.BookTurns", spec := "bookTurns", unfollowed := true, recurses := true, apart := false, narrowed := true }
def BookTurnsUptoSaid : Prop := bookTurnsUptoRow.holds Try.pinned (OpenSpec.upto bookTurnsSpec)

/-- 'musterlaw19.BookTaken', WHERE WHAT IT READS IS OF BULK AT MOST 1048576: true; the input reads as it did. -/
def bookTakenUptoRow : OpenClaim := { program := "ythfnmighhoighaa", sum := "06f67d83674b7ebcf284b4a10e2850869aa0b2a29d1e0db8939049796b1577e6", func := "muster/musterlaw19.BookTaken", spec := "bookTaken", unfollowed := true, recurses := true, apart := false, narrowed := true }
def BookTakenUptoSaid : Prop := bookTakenUptoRow.holds Try.pinned (OpenSpec.upto bookTakenSpec)

/-- 'musterlaw19.BookTakes', WHERE WHAT IT READS IS OF BULK AT MOST 1048576: true; the input reads as it did. -/
def bookTakesUptoRow : OpenClaim := { program := "ythfnmighhoighaa", sum := "06f67d83674b7ebcf284b4a10e2850869aa0b2a29d1e0db8939049796b1577e6", func := "muster/musterlaw19.BookTakes", spec := "bookTakes", unfollowed := true, recurses := true, apart := false, narrowed := true }
def BookTakesUptoSaid : Prop := bookTakesUptoRow.holds Try.pinned (OpenSpec.upto bookTakesSpec)

/-- 'musterlaw19.BookPast', WHERE WHAT IT READS IS OF BULK AT MOST 1048576: true; the input reads as it did. -/
def bookPastUptoRow : OpenClaim := { program := "ythfnmighhoighaa", sum := "06f67d83674b7ebcf284b4a10e2850869aa0b2a29d1e0db8939049796b1577e6", func := "muster/musterlaw19.BookPast", spec := "bookPast", unfollowed := true, recurses := true, apart := false, narrowed := true }
def BookPastUptoSaid : Prop := bookPastUptoRow.holds Try.pinned (OpenSpec.upto bookPastSpec)

end Rows
end Go.Proofs.Ythfnmighhoighaa
