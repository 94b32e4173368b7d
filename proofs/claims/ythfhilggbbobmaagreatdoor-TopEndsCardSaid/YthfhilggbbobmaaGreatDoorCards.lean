/-
  DERIVED. GIVEN WITH THE SEED: THE CARDS: each row of YthfhilggbbobmaaGreatDoorRows.lean that lists a variable, with what it lists TIED to the program's text (the seventh form; the later family's looks); each row that meets fmt, with fmt's text TOLD by the authors' own Lean function (tested against real Go, not proved from fmt's source: count such statements apart). THE CARD IS WHAT COUNTS. Prove the row's statement (the work); the ties are given (YthfhilggbbobmaaGreatDoorTie.lean); close each card by the builder's one call (the guide's Derived/Test/ToyasCard.lean, 'card_holds'). Laid BY PROGRAM, IN A SANDBOX (cutbox-door.mjs). By AI agents, Wed Nov 11 2026. No macro, syntax, notation, axiom, sorry.
-/
import Derived.Test.YthfhilggbbobmaaGreatDoorRows
import GoSem.ClaimSeven
namespace Go.Proofs.YthfhilggbbobmaaGreatDoor
namespace Rows

/-- THE TIED CARD OF 'mustertop.TopEnds'. -/
def topEndsCard : Claim7 := { stood := { row := topEndsRow, standIns := [], harness := (true, "d98e4358a04c19b7526e3e2d62fa75e614bceaf15d73b82c9c8c2ae2db4efc22"), looks := true }, kinds := [], alts := [], laidByText := true, laidKinds := [.data, .data, .data, .sentinel, .sentinel], laidTests := true, laidLooks := .later }
def TopEndsCardSaid : Prop := Claim7.holds Tryz.pinned (.plain (OpenSpec.ofChange topEndsSpec)) topEndsCard

/-- THE TIED CARD OF 'mustertop.TopKilled'. -/
def topKilledCard : Claim7 := { stood := { row := topKilledRow, standIns := [], harness := (true, "d98e4358a04c19b7526e3e2d62fa75e614bceaf15d73b82c9c8c2ae2db4efc22"), looks := true }, kinds := [], alts := [], laidByText := true, laidKinds := [.data, .data, .data, .sentinel, .sentinel], laidTests := true, laidLooks := .later }
def TopKilledCardSaid : Prop := Claim7.holds Tryz.pinned (.plain (OpenSpec.ofChange topKilledSpec)) topKilledCard

/-- THE SECOND FORM's CARD OF 'mustertop.TopEnds'. -/
def topEndsUptoCard : Claim7 := { stood := { row := topEndsUptoRow, standIns := [], harness := (true, "d98e4358a04c19b7526e3e2d62fa75e614bceaf15d73b82c9c8c2ae2db4efc22"), looks := true }, kinds := [], alts := [], laidByText := true, laidKinds := [.data, .data, .data, .sentinel, .sentinel], laidTests := true, laidLooks := .later }
def TopEndsUptoCardSaid : Prop := Claim7.holds Tryz.pinned (.plain (OpenSpec.upto topEndsSpec)) topEndsUptoCard

/-- THE SECOND FORM's CARD OF 'mustertop.TopKilled'. -/
def topKilledUptoCard : Claim7 := { stood := { row := topKilledUptoRow, standIns := [], harness := (true, "d98e4358a04c19b7526e3e2d62fa75e614bceaf15d73b82c9c8c2ae2db4efc22"), looks := true }, kinds := [], alts := [], laidByText := true, laidKinds := [.data, .data, .data, .sentinel, .sentinel], laidTests := true, laidLooks := .later }
def TopKilledUptoCardSaid : Prop := Claim7.holds Tryz.pinned (.plain (OpenSpec.upto topKilledSpec)) topKilledUptoCard
end Rows
end Go.Proofs.YthfhilggbbobmaaGreatDoor
