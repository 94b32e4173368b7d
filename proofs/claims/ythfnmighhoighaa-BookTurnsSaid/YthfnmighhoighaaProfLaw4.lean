/-
  ProfileLooks: the law's walk.
-/
import Derived.Test.YthfnmighhoighaaProfLaw
import Derived.Test.YthfnmighhoighaaProfRef
namespace Go.Proofs.Ythfnmighhoighaa.ProfW
open Go.RowKit Mem Prof
set_option linter.unusedVariables false

theorem Drew.below {r : Value} {w w' : World} {e : Ending} (h : Drew r w e w') : e = .returned r ∧ Below w.heap.size w w' := by
  obtain ⟨he, m, rfl⟩ := h
  exact ⟨he, below_drewN (Below.refl _ _) m⟩
end Go.Proofs.Ythfnmighhoighaa.ProfW
