/-
  No cell of these rows narrows 'for every input' (looked for: loops, veiled, ifaces, maps, wideKeys, modest, calm, conditions, laid).
  DERIVED. THE GIVEN ROWS OF THIS SEAT. 9 by the template 'for every input the law returns true; each argument reads behind the call as it read before'; 0 by the template 'total and deterministic' (their statements: YtmjjbodglbdadaaTotals.lean).
  GIVEN WITH THE SEED: the statements are not yours to turn. If you find one false, say at which input.
  Laid BY PROGRAM, IN A SANDBOX (cutbox-rows.mjs): the forced cells as the released guide's own fill.sh prints them over the translation 3f0cca3857a63915… (all of the seat's roots in one cut). By AI agents, Wed Nov 11 2026. No macro, syntax, notation, axiom, sorry.
-/
import Derived.Test.YtmjjbodglbdadaaChecked
import GoSem.Claim
import GoSem.ClaimJoined
import GoSem.ClaimMapViews
import Derived.JoinedTies
import Derived.KernelRfl
namespace Go.Proofs.Ytmjjbodglbdadaa
/- THE CELL 'sum', in the pinned program and in every row, IS THE sha256 OF THE DUMP (.gsa) THAT YtmjjbodglbdadaaProg.lean LOADS. Nothing in Lean hashes anything: it is a label: what it is worth is what the hold of that sum in a sandbox is worth. -/
noncomputable def Try.pinned : Pinned := { name := "ytmjjbodglbdadaa", sum := "3f0cca3857a63915d91f20e4aa23daf7cd1c5ae0e196d67000f9dc9502381095", checked := Try.checked }
namespace Rows
def none {H : Type} : Left H := { results := [], args := [] }

/-- 'musterlaw10.ProfileLooks': WHATEVER THE INPUT: true; the input reads as it did. -/
def profileLooksSpec : ChangeSpec := { name := "profileLooks", fn := fun _ => fun
  | [d1, d2, d3] => { results := [.lit (.bool true)], args := [d1, d2, d3] }
  | _ => none }
def profileLooksRow : OpenClaim := { program := "ytmjjbodglbdadaa", sum := "3f0cca3857a63915d91f20e4aa23daf7cd1c5ae0e196d67000f9dc9502381095", func := "muster/musterlaw10.ProfileLooks", spec := "profileLooks", unfollowed := true, recurses := true, apart := false }
def ProfileLooksSaid : Prop := profileLooksRow.holds Try.pinned (OpenSpec.ofChange profileLooksSpec)

/-- ITS FALSE NEIGHBOUR: 'it returns false'. Refute it at one input. -/
def profileLooksWrong : ChangeSpec := { name := "profileLooks", fn := fun _ => fun
  | [d1, d2, d3] => { results := [.lit (.bool false)], args := [d1, d2, d3] }
  | _ => none }
def ProfileLooksWrongFalsely : Prop := profileLooksRow.holds Try.pinned (OpenSpec.ofChange profileLooksWrong)

/-- 'musterlaw10.ProfileAdds': WHATEVER THE INPUT: true; the input reads as it did. -/
def profileAddsSpec : ChangeSpec := { name := "profileAdds", fn := fun _ => fun
  | [d1, d2, d3] => { results := [.lit (.bool true)], args := [d1, d2, d3] }
  | _ => none }
def profileAddsRow : OpenClaim := { program := "ytmjjbodglbdadaa", sum := "3f0cca3857a63915d91f20e4aa23daf7cd1c5ae0e196d67000f9dc9502381095", func := "muster/musterlaw10.ProfileAdds", spec := "profileAdds", unfollowed := true, recurses := true, apart := false }
def ProfileAddsSaid : Prop := profileAddsRow.holds Try.pinned (OpenSpec.ofChange profileAddsSpec)

/-- ITS FALSE NEIGHBOUR: 'it returns false'. Refute it at one input. -/
def profileAddsWrong : ChangeSpec := { name := "profileAdds", fn := fun _ => fun
  | [d1, d2, d3] => { results := [.lit (.bool false)], args := [d1, d2, d3] }
  | _ => none }
def ProfileAddsWrongFalsely : Prop := profileAddsRow.holds Try.pinned (OpenSpec.ofChange profileAddsWrong)

/-- 'musterlaw10.ProfileOrder': WHATEVER THE INPUT: true; the input reads as it did. -/
def profileOrderSpec : ChangeSpec := { name := "profileOrder", fn := fun _ => fun
  | [d1, d2, d3] => { results := [.lit (.bool true)], args := [d1, d2, d3] }
  | _ => none }
def profileOrderRow : OpenClaim := { program := "ytmjjbodglbdadaa", sum := "3f0cca3857a63915d91f20e4aa23daf7cd1c5ae0e196d67000f9dc9502381095", func := "muster/musterlaw10.ProfileOrder", spec := "profileOrder", unfollowed := true, recurses := true, apart := false }
def ProfileOrderSaid : Prop := profileOrderRow.holds Try.pinned (OpenSpec.ofChange profileOrderSpec)

/-- ITS FALSE NEIGHBOUR: 'it returns false'. Refute it at one input. -/
def profileOrderWrong : ChangeSpec := { name := "profileOrder", fn := fun _ => fun
  | [d1, d2, d3] => { results := [.lit (.bool false)], args := [d1, d2, d3] }
  | _ => none }
def ProfileOrderWrongFalsely : Prop := profileOrderRow.holds Try.pinned (OpenSpec.ofChange profileOrderWrong)

/-- 'musterlaw10.ProfileBack': WHATEVER THE INPUT: true; the input reads as it did. -/
def profileBackSpec : ChangeSpec := { name := "profileBack", fn := fun _ => fun
  | [d1, d2, d3] => { results := [.lit (.bool true)], args := [d1, d2, d3] }
  | _ => none }
def profileBackRow : OpenClaim := { program := "ytmjjbodglbdadaa", sum := "3f0cca3857a63915d91f20e4aa23daf7cd1c5ae0e196d67000f9dc9502381095", func := "muster/musterlaw10.ProfileBack", spec := "profileBack", unfollowed := true, recurses := true, apart := false }
def ProfileBackSaid : Prop := profileBackRow.holds Try.pinned (OpenSpec.ofChange profileBackSpec)

/-- ITS FALSE NEIGHBOUR: 'it returns false'. Refute it at one input. -/
def profileBackWrong : ChangeSpec := { name := "profileBack", fn := fun _ => fun
  | [d1, d2, d3] => { results := [.lit (.bool false)], args := [d1, d2, d3] }
  | _ => none }
def ProfileBackWrongFalsely : Prop := profileBackRow.holds Try.pinned (OpenSpec.ofChange profileBackWrong)

/-- 'musterlaw10.ProfileLeast': WHATEVER THE INPUT: true; the input reads as it did. -/
def profileLeastSpec : ChangeSpec := { name := "profileLeast", fn := fun _ => fun
  | [d1, d2, d3] => { results := [.lit (.bool true)], args := [d1, d2, d3] }
  | _ => none }
def profileLeastRow : OpenClaim := { program := "ytmjjbodglbdadaa", sum := "3f0cca3857a63915d91f20e4aa23daf7cd1c5ae0e196d67000f9dc9502381095", func := "muster/musterlaw10.ProfileLeast", spec := "profileLeast", unfollowed := true, recurses := true, apart := false }
def ProfileLeastSaid : Prop := profileLeastRow.holds Try.pinned (OpenSpec.ofChange profileLeastSpec)

/-- ITS FALSE NEIGHBOUR: 'it returns false'. Refute it at one input. -/
def profileLeastWrong : ChangeSpec := { name := "profileLeast", fn := fun _ => fun
  | [d1, d2, d3] => { results := [.lit (.bool false)], args := [d1, d2, d3] }
  | _ => none }
def ProfileLeastWrongFalsely : Prop := profileLeastRow.holds Try.pinned (OpenSpec.ofChange profileLeastWrong)

/-- 'musterlaw11.FitLooks': WHATEVER THE INPUT: true; the input reads as it did. -/
def fitLooksSpec : ChangeSpec := { name := "fitLooks", fn := fun _ => fun
  | [d1, d2] => { results := [.lit (.bool true)], args := [d1, d2] }
  | _ => none }
def fitLooksRow : OpenClaim := { program := "ytmjjbodglbdadaa", sum := "3f0cca3857a63915d91f20e4aa23daf7cd1c5ae0e196d67000f9dc9502381095", func := "muster/musterlaw11.FitLooks", spec := "fitLooks", unfollowed := true, recurses := true, apart := false }
def FitLooksSaid : Prop := fitLooksRow.holds Try.pinned (OpenSpec.ofChange fitLooksSpec)

/-- ITS FALSE NEIGHBOUR: 'it returns false'. Refute it at one input. -/
def fitLooksWrong : ChangeSpec := { name := "fitLooks", fn := fun _ => fun
  | [d1, d2] => { results := [.lit (.bool false)], args := [d1, d2] }
  | _ => none }
def FitLooksWrongFalsely : Prop := fitLooksRow.holds Try.pinned (OpenSpec.ofChange fitLooksWrong)

/-- 'musterlaw11.FitBest': WHATEVER THE INPUT: true; the input reads as it did. -/
def fitBestSpec : ChangeSpec := { name := "fitBest", fn := fun _ => fun
  | [d1, d2, d3] => { results := [.lit (.bool true)], args := [d1, d2, d3] }
  | _ => none }
def fitBestRow : OpenClaim := { program := "ytmjjbodglbdadaa", sum := "3f0cca3857a63915d91f20e4aa23daf7cd1c5ae0e196d67000f9dc9502381095", func := "muster/musterlaw11.FitBest", spec := "fitBest", unfollowed := true, recurses := true, apart := false }
def FitBestSaid : Prop := fitBestRow.holds Try.pinned (OpenSpec.ofChange fitBestSpec)

/-- ITS FALSE NEIGHBOUR: 'it returns false'. Refute it at one input. -/
def fitBestWrong : ChangeSpec := { name := "fitBest", fn := fun _ => fun
  | [d1, d2, d3] => { results := [.lit (.bool false)], args := [d1, d2, d3] }
  | _ => none }
def FitBestWrongFalsely : Prop := fitBestRow.holds Try.pinned (OpenSpec.ofChange fitBestWrong)

/-- 'musterlaw11.FitFirst': WHATEVER THE INPUT: true; the input reads as it did. -/
def fitFirstSpec : ChangeSpec := { name := "fitFirst", fn := fun _ => fun
  | [d1, d2, d3] => { results := [.lit (.bool true)], args := [d1, d2, d3] }
  | _ => none }
def fitFirstRow : OpenClaim := { program := "ytmjjbodglbdadaa", sum := "3f0cca3857a63915d91f20e4aa23daf7cd1c5ae0e196d67000f9dc9502381095", func := "muster/musterlaw11.FitFirst", spec := "fitFirst", unfollowed := true, recurses := true, apart := false }
def FitFirstSaid : Prop := fitFirstRow.holds Try.pinned (OpenSpec.ofChange fitFirstSpec)

/-- ITS FALSE NEIGHBOUR: 'it returns false'. Refute it at one input. -/
def fitFirstWrong : ChangeSpec := { name := "fitFirst", fn := fun _ => fun
  | [d1, d2, d3] => { results := [.lit (.bool false)], args := [d1, d2, d3] }
  | _ => none }
def FitFirstWrongFalsely : Prop := fitFirstRow.holds Try.pinned (OpenSpec.ofChange fitFirstWrong)

/-- 'musterlaw11.FitKept': WHATEVER THE INPUT: true; the input reads as it did. -/
def fitKeptSpec : ChangeSpec := { name := "fitKept", fn := fun _ => fun
  | [d1, d2, d3] => { results := [.lit (.bool true)], args := [d1, d2, d3] }
  | _ => none }
def fitKeptRow : OpenClaim := { program := "ytmjjbodglbdadaa", sum := "3f0cca3857a63915d91f20e4aa23daf7cd1c5ae0e196d67000f9dc9502381095", func := "muster/musterlaw11.FitKept", spec := "fitKept", unfollowed := true, recurses := true, apart := false }
def FitKeptSaid : Prop := fitKeptRow.holds Try.pinned (OpenSpec.ofChange fitKeptSpec)

/-- ITS FALSE NEIGHBOUR: 'it returns false'. Refute it at one input. -/
def fitKeptWrong : ChangeSpec := { name := "fitKept", fn := fun _ => fun
  | [d1, d2, d3] => { results := [.lit (.bool false)], args := [d1, d2, d3] }
  | _ => none }
def FitKeptWrongFalsely : Prop := fitKeptRow.holds Try.pinned (OpenSpec.ofChange fitKeptWrong)

/- THE SECOND FORM. 'bulk': how many values and letters a reading holds, each counted each time it is reached (what is shared counts as often as it is met; a slice's spare places count too). A statement '..UptoSaid' is the law's where the arguments, and the package variables that the reading takes, are together of bulk at most 1048576: NARROWER than '..Said'. Prove '..Said' where nothing that the law and all that it calls make is longer than what came in: it says more and counts as full. Else prove '..UptoSaid'. A law counts once. -/
mutual
def uptoBulk {H : Type} : DataW H → Nat
  | .lit (.string bytes) => bytes.length + 1
  | .lit _ => 1
  | .nil => 1
  | .ptr d => uptoBulk d + 1
  | .slice elems spare => uptoBulkAll elems + uptoBulkAll spare + 1
  | .agg parts => uptoBulkAll parts + 1
  | .iface _ d => uptoBulk d + 1
  | .map entries => uptoBulkEntries entries + 1
  | .held _ => 1
def uptoBulkAll {H : Type} : List (DataW H) → Nat
  | [] => 0
  | d :: r => uptoBulk d + uptoBulkAll r
def uptoBulkEntries {H : Type} : List (Lit × DataW H) → Nat
  | [] => 0
  | x :: r => uptoBulkEntry x + uptoBulkEntries r
def uptoBulkEntry {H : Type} : Lit × DataW H → Nat
  | (.string bytes, d) => bytes.length + uptoBulk d + 1
  | (_, d) => uptoBulk d + 1
 end
def uptoSmall : (H : Type) → List (DataW H) → Bool := fun _ ds => decide (uptoBulkAll ds ≤ 1048576)
def OpenSpec.upto (s : _root_.Go.ChangeSpec) : _root_.Go.OpenSpec := { _root_.Go.OpenSpec.ofChange s with cond := some uptoSmall }

/-- 'musterlaw10.ProfileLooks', WHERE WHAT IT READS IS OF BULK AT MOST 1048576: true; the input reads as it did. -/
def profileLooksUptoRow : OpenClaim := { program := "ytmjjbodglbdadaa", sum := "3f0cca3857a63915d91f20e4aa23daf7cd1c5ae0e196d67000f9dc9502381095", func := "muster/musterlaw10.ProfileLooks", spec := "profileLooks", unfollowed := true, recurses := true, apart := false, narrowed := true }
def ProfileLooksUptoSaid : Prop := profileLooksUptoRow.holds Try.pinned (OpenSpec.upto profileLooksSpec)

/-- 'musterlaw10.ProfileAdds', WHERE WHAT IT READS IS OF BULK AT MOST 1048576: true; the input reads as it did. -/
def profileAddsUptoRow : OpenClaim := { program := "ytmjjbodglbdadaa", sum := "3f0cca3857a63915d91f20e4aa23daf7cd1c5ae0e196d67000f9dc9502381095", func := "muster/musterlaw10.ProfileAdds", spec := "profileAdds", unfollowed := true, recurses := true, apart := false, narrowed := true }
def ProfileAddsUptoSaid : Prop := profileAddsUptoRow.holds Try.pinned (OpenSpec.upto profileAddsSpec)

/-- 'musterlaw10.ProfileOrder', WHERE WHAT IT READS IS OF BULK AT MOST 1048576: true; the input reads as it did. -/
def profileOrderUptoRow : OpenClaim := { program := "ytmjjbodglbdadaa", sum := "3f0cca3857a63915d91f20e4aa23daf7cd1c5ae0e196d67000f9dc9502381095", func := "muster/musterlaw10.ProfileOrder", spec := "profileOrder", unfollowed := true, recurses := true, apart := false, narrowed := true }
def ProfileOrderUptoSaid : Prop := profileOrderUptoRow.holds Try.pinned (OpenSpec.upto profileOrderSpec)

/-- 'musterlaw10.ProfileBack', WHERE WHAT IT READS IS OF BULK AT MOST 1048576: true; the input reads as it did. -/
def profileBackUptoRow : OpenClaim := { program := "ytmjjbodglbdadaa", sum := "3f0cca3857a63915d91f20e4aa23daf7cd1c5ae0e196d67000f9dc9502381095", func := "muster/musterlaw10.ProfileBack", spec := "profileBack", unfollowed := true, recurses := true, apart := false, narrowed := true }
def ProfileBackUptoSaid : Prop := profileBackUptoRow.holds Try.pinned (OpenSpec.upto profileBackSpec)

/-- 'musterlaw10.ProfileLeast', WHERE WHAT IT READS IS OF BULK AT MOST 1048576: true; the input reads as it did. -/
def profileLeastUptoRow : OpenClaim := { program := "ytmjjbodglbdadaa", sum := "3f0cca3857a63915d91f20e4aa23daf7cd1c5ae0e196d67000f9dc9502381095", func := "muster/musterlaw10.ProfileLeast", spec := "profileLeast", unfollowed := true, recurses := true, apart := false, narrowed := true }
def ProfileLeastUptoSaid : Prop := profileLeastUptoRow.holds Try.pinned (OpenSpec.upto profileLeastSpec)

/-- 'musterlaw11.FitLooks', WHERE WHAT IT READS IS OF BULK AT MOST 1048576: true; the input reads as it did. -/
def fitLooksUptoRow : OpenClaim := { program := "ytmjjbodglbdadaa", sum := "3f0cca3857a63915d91f20e4aa23daf7cd1c5ae0e196d67000f9dc9502381095", func := "muster/musterlaw11.FitLooks", spec := "fitLooks", unfollowed := true, recurses := true, apart := false, narrowed := true }
def FitLooksUptoSaid : Prop := fitLooksUptoRow.holds Try.pinned (OpenSpec.upto fitLooksSpec)

/-- 'musterlaw11.FitBest', WHERE WHAT IT READS IS OF BULK AT MOST 1048576: true; the input reads as it did. -/
def fitBestUptoRow : OpenClaim := { program := "ytmjjbodglbdadaa", sum := "3f0cca3857a63915d91f20e4aa23daf7cd1c5ae0e196d67000f9dc9502381095", func := "muster/musterlaw11.FitBest", spec := "fitBest", unfollowed := true, recurses := true, apart := false, narrowed := true }
def FitBestUptoSaid : Prop := fitBestUptoRow.holds Try.pinned (OpenSpec.upto fitBestSpec)

/-- 'musterlaw11.FitFirst', WHERE WHAT IT READS IS OF BULK AT MOST 1048576: true; the input reads as it did. -/
def fitFirstUptoRow : OpenClaim := { program := "ytmjjbodglbdadaa", sum := "3f0cca3857a63915d91f20e4aa23daf7cd1c5ae0e196d67000f9dc9502381095", func := "muster/musterlaw11.FitFirst", spec := "fitFirst", unfollowed := true, recurses := true, apart := false, narrowed := true }
def FitFirstUptoSaid : Prop := fitFirstUptoRow.holds Try.pinned (OpenSpec.upto fitFirstSpec)

/-- 'musterlaw11.FitKept', WHERE WHAT IT READS IS OF BULK AT MOST 1048576: true; the input reads as it did. -/
def fitKeptUptoRow : OpenClaim := { program := "ytmjjbodglbdadaa", sum := "3f0cca3857a63915d91f20e4aa23daf7cd1c5ae0e196d67000f9dc9502381095", func := "muster/musterlaw11.FitKept", spec := "fitKept", unfollowed := true, recurses := true, apart := false, narrowed := true }
def FitKeptUptoSaid : Prop := fitKeptUptoRow.holds Try.pinned (OpenSpec.upto fitKeptSpec)

end Rows
end Go.Proofs.Ytmjjbodglbdadaa
