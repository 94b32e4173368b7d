/-
  No cell of these rows narrows 'for every input' (looked for: loops, veiled, ifaces, maps, wideKeys, modest, calm, conditions, laid).
  DERIVED. THE GIVEN ROWS OF THIS SEAT. 9 by the template 'for every input the law returns true; each argument reads behind the call as it read before'; 0 by the template 'total and deterministic' (their statements: YtdamocjbkdknaaaTotals.lean).
  GIVEN WITH THE SEED: the statements are not yours to turn. If you find one false, say at which input.
  Laid BY PROGRAM, IN A SANDBOX (cutbox-rows.mjs): the forced cells as the released guide's own fill.sh prints them over the translation f1221a6679be0f77… (all of the seat's roots in one cut). By AI agents, Wed Nov 11 2026. No macro, syntax, notation, axiom, sorry.
-/
import Derived.Test.YtdamocjbkdknaaaChecked
import GoSem.Claim
import GoSem.ClaimJoined
import GoSem.ClaimMapViews
import Derived.JoinedTies
import Derived.KernelRfl
namespace Go.Proofs.Ytdamocjbkdknaaa
/- THE CELL 'sum', in the pinned program and in every row, IS THE sha256 OF THE DUMP (.gsa) THAT YtdamocjbkdknaaaProg.lean LOADS. Nothing in Lean hashes anything: it is a label: what it is worth is what the hold of that sum in a sandbox is worth. -/
noncomputable def Try.pinned : Pinned := { name := "ytdamocjbkdknaaa", sum := "f1221a6679be0f7741d523e38a5c6472024cc6fade353c3e8a29fccfa3e90010", checked := Try.checked }
namespace Rows
def none {H : Type} : Left H := { results := [], args := [] }

/-- 'musterlaw12.FleetLooks': WHATEVER THE INPUT: true; the input reads as it did. -/
def fleetLooksSpec : ChangeSpec := { name := "fleetLooks", fn := fun _ => fun
  | [d1, d2, d3] => { results := [.lit (.bool true)], args := [d1, d2, d3] }
  | _ => none }
def fleetLooksRow : OpenClaim := { program := "ytdamocjbkdknaaa", sum := "f1221a6679be0f7741d523e38a5c6472024cc6fade353c3e8a29fccfa3e90010", func := "muster/musterlaw12.FleetLooks", spec := "fleetLooks", unfollowed := true, recurses := true, apart := false }
def FleetLooksSaid : Prop := fleetLooksRow.holds Try.pinned (OpenSpec.ofChange fleetLooksSpec)

/-- ITS FALSE NEIGHBOUR: 'it returns false'. Refute it at one input. -/
def fleetLooksWrong : ChangeSpec := { name := "fleetLooks", fn := fun _ => fun
  | [d1, d2, d3] => { results := [.lit (.bool false)], args := [d1, d2, d3] }
  | _ => none }
def FleetLooksWrongFalsely : Prop := fleetLooksRow.holds Try.pinned (OpenSpec.ofChange fleetLooksWrong)

/-- 'musterlaw12.FleetDoes': WHATEVER THE INPUT: true; the input reads as it did. -/
def fleetDoesSpec : ChangeSpec := { name := "fleetDoes", fn := fun _ => fun
  | [d1, d2, d3] => { results := [.lit (.bool true)], args := [d1, d2, d3] }
  | _ => none }
def fleetDoesRow : OpenClaim := { program := "ytdamocjbkdknaaa", sum := "f1221a6679be0f7741d523e38a5c6472024cc6fade353c3e8a29fccfa3e90010", func := "muster/musterlaw12.FleetDoes", spec := "fleetDoes", unfollowed := true, recurses := true, apart := false }
def FleetDoesSaid : Prop := fleetDoesRow.holds Try.pinned (OpenSpec.ofChange fleetDoesSpec)

/-- ITS FALSE NEIGHBOUR: 'it returns false'. Refute it at one input. -/
def fleetDoesWrong : ChangeSpec := { name := "fleetDoes", fn := fun _ => fun
  | [d1, d2, d3] => { results := [.lit (.bool false)], args := [d1, d2, d3] }
  | _ => none }
def FleetDoesWrongFalsely : Prop := fleetDoesRow.holds Try.pinned (OpenSpec.ofChange fleetDoesWrong)

/-- 'musterlaw12.FleetEpochs': WHATEVER THE INPUT: true; the input reads as it did. -/
def fleetEpochsSpec : ChangeSpec := { name := "fleetEpochs", fn := fun _ => fun
  | [d1, d2] => { results := [.lit (.bool true)], args := [d1, d2] }
  | _ => none }
def fleetEpochsRow : OpenClaim := { program := "ytdamocjbkdknaaa", sum := "f1221a6679be0f7741d523e38a5c6472024cc6fade353c3e8a29fccfa3e90010", func := "muster/musterlaw12.FleetEpochs", spec := "fleetEpochs", unfollowed := true, recurses := true, apart := false }
def FleetEpochsSaid : Prop := fleetEpochsRow.holds Try.pinned (OpenSpec.ofChange fleetEpochsSpec)

/-- ITS FALSE NEIGHBOUR: 'it returns false'. Refute it at one input. -/
def fleetEpochsWrong : ChangeSpec := { name := "fleetEpochs", fn := fun _ => fun
  | [d1, d2] => { results := [.lit (.bool false)], args := [d1, d2] }
  | _ => none }
def FleetEpochsWrongFalsely : Prop := fleetEpochsRow.holds Try.pinned (OpenSpec.ofChange fleetEpochsWrong)

/-- 'musterlaw12.FleetOnce': WHATEVER THE INPUT: true; the input reads as it did. -/
def fleetOnceSpec : ChangeSpec := { name := "fleetOnce", fn := fun _ => fun
  | [d1, d2, d3] => { results := [.lit (.bool true)], args := [d1, d2, d3] }
  | _ => none }
def fleetOnceRow : OpenClaim := { program := "ytdamocjbkdknaaa", sum := "f1221a6679be0f7741d523e38a5c6472024cc6fade353c3e8a29fccfa3e90010", func := "muster/musterlaw12.FleetOnce", spec := "fleetOnce", unfollowed := true, recurses := true, apart := false }
def FleetOnceSaid : Prop := fleetOnceRow.holds Try.pinned (OpenSpec.ofChange fleetOnceSpec)

/-- ITS FALSE NEIGHBOUR: 'it returns false'. Refute it at one input. -/
def fleetOnceWrong : ChangeSpec := { name := "fleetOnce", fn := fun _ => fun
  | [d1, d2, d3] => { results := [.lit (.bool false)], args := [d1, d2, d3] }
  | _ => none }
def FleetOnceWrongFalsely : Prop := fleetOnceRow.holds Try.pinned (OpenSpec.ofChange fleetOnceWrong)

/-- 'musterlaw12.FleetSets': WHATEVER THE INPUT: true; the input reads as it did. -/
def fleetSetsSpec : ChangeSpec := { name := "fleetSets", fn := fun _ => fun
  | [d1, d2] => { results := [.lit (.bool true)], args := [d1, d2] }
  | _ => none }
def fleetSetsRow : OpenClaim := { program := "ytdamocjbkdknaaa", sum := "f1221a6679be0f7741d523e38a5c6472024cc6fade353c3e8a29fccfa3e90010", func := "muster/musterlaw12.FleetSets", spec := "fleetSets", unfollowed := true, recurses := true, apart := false }
def FleetSetsSaid : Prop := fleetSetsRow.holds Try.pinned (OpenSpec.ofChange fleetSetsSpec)

/-- ITS FALSE NEIGHBOUR: 'it returns false'. Refute it at one input. -/
def fleetSetsWrong : ChangeSpec := { name := "fleetSets", fn := fun _ => fun
  | [d1, d2] => { results := [.lit (.bool false)], args := [d1, d2] }
  | _ => none }
def FleetSetsWrongFalsely : Prop := fleetSetsRow.holds Try.pinned (OpenSpec.ofChange fleetSetsWrong)

/-- 'musterlaw13.AllocEach': WHATEVER THE INPUT: true; the input reads as it did. -/
def allocEachSpec : ChangeSpec := { name := "allocEach", fn := fun _ => fun
  | [d1, d2, d3] => { results := [.lit (.bool true)], args := [d1, d2, d3] }
  | _ => none }
def allocEachRow : OpenClaim := { program := "ytdamocjbkdknaaa", sum := "f1221a6679be0f7741d523e38a5c6472024cc6fade353c3e8a29fccfa3e90010", func := "muster/musterlaw13.AllocEach", spec := "allocEach", unfollowed := true, recurses := true, apart := false }
def AllocEachSaid : Prop := allocEachRow.holds Try.pinned (OpenSpec.ofChange allocEachSpec)

/-- ITS FALSE NEIGHBOUR: 'it returns false'. Refute it at one input. -/
def allocEachWrong : ChangeSpec := { name := "allocEach", fn := fun _ => fun
  | [d1, d2, d3] => { results := [.lit (.bool false)], args := [d1, d2, d3] }
  | _ => none }
def AllocEachWrongFalsely : Prop := allocEachRow.holds Try.pinned (OpenSpec.ofChange allocEachWrong)

/-- 'musterlaw13.AllocGrants': WHATEVER THE INPUT: true; the input reads as it did. -/
def allocGrantsSpec : ChangeSpec := { name := "allocGrants", fn := fun _ => fun
  | [d1, d2, d3] => { results := [.lit (.bool true)], args := [d1, d2, d3] }
  | _ => none }
def allocGrantsRow : OpenClaim := { program := "ytdamocjbkdknaaa", sum := "f1221a6679be0f7741d523e38a5c6472024cc6fade353c3e8a29fccfa3e90010", func := "muster/musterlaw13.AllocGrants", spec := "allocGrants", unfollowed := true, recurses := true, apart := false }
def AllocGrantsSaid : Prop := allocGrantsRow.holds Try.pinned (OpenSpec.ofChange allocGrantsSpec)

/-- ITS FALSE NEIGHBOUR: 'it returns false'. Refute it at one input. -/
def allocGrantsWrong : ChangeSpec := { name := "allocGrants", fn := fun _ => fun
  | [d1, d2, d3] => { results := [.lit (.bool false)], args := [d1, d2, d3] }
  | _ => none }
def AllocGrantsWrongFalsely : Prop := allocGrantsRow.holds Try.pinned (OpenSpec.ofChange allocGrantsWrong)

/-- 'musterlaw13.AllocLowest': WHATEVER THE INPUT: true; the input reads as it did. -/
def allocLowestSpec : ChangeSpec := { name := "allocLowest", fn := fun _ => fun
  | [d1, d2] => { results := [.lit (.bool true)], args := [d1, d2] }
  | _ => none }
def allocLowestRow : OpenClaim := { program := "ytdamocjbkdknaaa", sum := "f1221a6679be0f7741d523e38a5c6472024cc6fade353c3e8a29fccfa3e90010", func := "muster/musterlaw13.AllocLowest", spec := "allocLowest", unfollowed := true, recurses := true, apart := false }
def AllocLowestSaid : Prop := allocLowestRow.holds Try.pinned (OpenSpec.ofChange allocLowestSpec)

/-- ITS FALSE NEIGHBOUR: 'it returns false'. Refute it at one input. -/
def allocLowestWrong : ChangeSpec := { name := "allocLowest", fn := fun _ => fun
  | [d1, d2] => { results := [.lit (.bool false)], args := [d1, d2] }
  | _ => none }
def AllocLowestWrongFalsely : Prop := allocLowestRow.holds Try.pinned (OpenSpec.ofChange allocLowestWrong)

/-- 'musterlaw13.AllocApart': WHATEVER THE INPUT: true; the input reads as it did. -/
def allocApartSpec : ChangeSpec := { name := "allocApart", fn := fun _ => fun
  | [d1, d2, d3] => { results := [.lit (.bool true)], args := [d1, d2, d3] }
  | _ => none }
def allocApartRow : OpenClaim := { program := "ytdamocjbkdknaaa", sum := "f1221a6679be0f7741d523e38a5c6472024cc6fade353c3e8a29fccfa3e90010", func := "muster/musterlaw13.AllocApart", spec := "allocApart", unfollowed := true, recurses := true, apart := false }
def AllocApartSaid : Prop := allocApartRow.holds Try.pinned (OpenSpec.ofChange allocApartSpec)

/-- ITS FALSE NEIGHBOUR: 'it returns false'. Refute it at one input. -/
def allocApartWrong : ChangeSpec := { name := "allocApart", fn := fun _ => fun
  | [d1, d2, d3] => { results := [.lit (.bool false)], args := [d1, d2, d3] }
  | _ => none }
def AllocApartWrongFalsely : Prop := allocApartRow.holds Try.pinned (OpenSpec.ofChange allocApartWrong)

/- THE SECOND FORM. 'bulk': how many values and letters a reading holds, each counted each time it is reached (what is shared counts as often as it is met; a slice's spare places count too). A statement '..UptoSaid' is the law's where the arguments, and the package variables that the reading takes, are together of bulk at most 1048576: NARROWER than '..Said'. Prove '..Said' where nothing that the law and all that it calls make is longer than what came in: it says more and counts as full. Else prove '..UptoSaid'. A law counts once. -/
mutual
def uptoBulk {H : Type} : DataW H → Nat
  | .lit (.string bytes) => bytes.length + 1
  | .lit _ => 1
  | .nil => 1
  | .ptr d => uptoBulk d + 1
  | .slice elems spare => uptoBulkAll elems + uptoBulkAll spare + 1
  | .agg parts => uptoBulkAll parts + 1
  | .iface _ d => uptoBulk d + 1
  | .map entries => uptoBulkEntries entries + 1
  | .held _ => 1
def uptoBulkAll {H : Type} : List (DataW H) → Nat
  | [] => 0
  | d :: r => uptoBulk d + uptoBulkAll r
def uptoBulkEntries {H : Type} : List (Lit × DataW H) → Nat
  | [] => 0
  | x :: r => uptoBulkEntry x + uptoBulkEntries r
def uptoBulkEntry {H : Type} : Lit × DataW H → Nat
  | (.string bytes, d) => bytes.length + uptoBulk d + 1
  | (_, d) => uptoBulk d + 1
 end
def uptoSmall : (H : Type) → List (DataW H) → Bool := fun _ ds => decide (uptoBulkAll ds ≤ 1048576)
def OpenSpec.upto (s : _root_.Go.ChangeSpec) : _root_.Go.OpenSpec := { _root_.Go.OpenSpec.ofChange s with cond := some uptoSmall }

/-- 'musterlaw12.FleetLooks', WHERE WHAT IT READS IS OF BULK AT MOST 1048576: true; the input reads as it did. -/
def fleetLooksUptoRow : OpenClaim := { program := "ytdamocjbkdknaaa", sum := "f1221a6679be0f7741d523e38a5c6472024cc6fade353c3e8a29fccfa3e90010", func := "muster/musterlaw12.FleetLooks", spec := "fleetLooks", unfollowed := true, recurses := true, apart := false, narrowed := true }
def FleetLooksUptoSaid : Prop := fleetLooksUptoRow.holds Try.pinned (OpenSpec.upto fleetLooksSpec)

/-- 'musterlaw12.FleetDoes', WHERE WHAT IT READS IS OF BULK AT MOST 1048576: true; the input reads as it did. -/
def fleetDoesUptoRow : OpenClaim := { program := "ytdamocjbkdknaaa", sum := "f1221a6679be0f7741d523e38a5c6472024cc6fade353c3e8a29fccfa3e90010", func := "muster/musterlaw12.FleetDoes", spec := "fleetDoes", unfollowed := true, recurses := true, apart := false, narrowed := true }
def FleetDoesUptoSaid : Prop := fleetDoesUptoRow.holds Try.pinned (OpenSpec.upto fleetDoesSpec)

/-- 'musterlaw12.FleetEpochs', WHERE WHAT IT READS IS OF BULK AT MOST 1048576: true; the input reads as it did. -/
def fleetEpochsUptoRow : OpenClaim := { program := "ytdamocjbkdknaaa", sum := "f1221a6679be0f7741d523e38a5c6472024cc6fade353c3e8a29fccfa3e90010", func := "muster/musterlaw12.FleetEpochs", spec := "fleetEpochs", unfollowed := true, recurses := true, apart := false, narrowed := true }
def FleetEpochsUptoSaid : Prop := fleetEpochsUptoRow.holds Try.pinned (OpenSpec.upto fleetEpochsSpec)

/-- 'musterlaw12.FleetOnce', WHERE WHAT IT READS IS OF BULK AT MOST 1048576: true; the input reads as it did. -/
def fleetOnceUptoRow : OpenClaim := { program := "ytdamocjbkdknaaa", sum := "f1221a6679be0f7741d523e38a5c6472024cc6fade353c3e8a29fccfa3e90010", func := "muster/musterlaw12.FleetOnce", spec := "fleetOnce", unfollowed := true, recurses := true, apart := false, narrowed := true }
def FleetOnceUptoSaid : Prop := fleetOnceUptoRow.holds Try.pinned (OpenSpec.upto fleetOnceSpec)

/-- 'musterlaw12.FleetSets', WHERE WHAT IT READS IS OF BULK AT MOST 1048576: true; the input reads as it did. -/
def fleetSetsUptoRow : OpenClaim := { program := "ytdamocjbkdknaaa", sum := "f1221a6679be0f7741d523e38a5c6472024cc6fade353c3e8a29fccfa3e90010", func := "muster/musterlaw12.FleetSets", spec := "fleetSets", unfollowed := true, recurses := true, apart := false, narrowed := true }
def FleetSetsUptoSaid : Prop := fleetSetsUptoRow.holds Try.pinned (OpenSpec.upto fleetSetsSpec)

/-- 'musterlaw13.AllocEach', WHERE WHAT IT READS IS OF BULK AT MOST 1048576: true; the input reads as it did. -/
def allocEachUptoRow : OpenClaim := { program := "ytdamocjbkdknaaa", sum := "f1221a6679be0f7741d523e38a5c6472024cc6fade353c3e8a29fccfa3e90010", func := "muster/musterlaw13.AllocEach", spec := "allocEach", unfollowed := true, recurses := true, apart := false, narrowed := true }
def AllocEachUptoSaid : Prop := allocEachUptoRow.holds Try.pinned (OpenSpec.upto allocEachSpec)

/-- 'musterlaw13.AllocGrants', WHERE WHAT IT READS IS OF BULK AT MOST 1048576: true; the input reads as it did. -/
def allocGrantsUptoRow : OpenClaim := { program := "ytdamocjbkdknaaa", sum := "f1221a6679be0f7741d523e38a5c6472024cc6fade353c3e8a29fccfa3e90010", func := "muster/musterlaw13.AllocGrants", spec := "allocGrants", unfollowed := true, recurses := true, apart := false, narrowed := true }
def AllocGrantsUptoSaid : Prop := allocGrantsUptoRow.holds Try.pinned (OpenSpec.upto allocGrantsSpec)

/-- 'musterlaw13.AllocLowest', WHERE WHAT IT READS IS OF BULK AT MOST 1048576: true; the input reads as it did. -/
def allocLowestUptoRow : OpenClaim := { program := "ytdamocjbkdknaaa", sum := "f1221a6679be0f7741d523e38a5c6472024cc6fade353c3e8a29fccfa3e90010", func := "muster/musterlaw13.AllocLowest", spec := "allocLowest", unfollowed := true, recurses := true, apart := false, narrowed := true }
def AllocLowestUptoSaid : Prop := allocLowestUptoRow.holds Try.pinned (OpenSpec.upto allocLowestSpec)

/-- 'musterlaw13.AllocApart', WHERE WHAT IT READS IS OF BULK AT MOST 1048576: true; the input reads as it did. -/
def allocApartUptoRow : OpenClaim := { program := "ytdamocjbkdknaaa", sum := "f1221a6679be0f7741d523e38a5c6472024cc6fade353c3e8a29fccfa3e90010", func := "muster/musterlaw13.AllocApart", spec := "allocApart", unfollowed := true, recurses := true, apart := false, narrowed := true }
def AllocApartUptoSaid : Prop := allocApartUptoRow.holds Try.pinned (OpenSpec.upto allocApartSpec)

end Rows
end Go.Proofs.Ytdamocjbkdknaaa
