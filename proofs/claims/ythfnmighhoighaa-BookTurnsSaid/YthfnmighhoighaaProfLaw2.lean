/-
  ProfileBack, ProfileLeast: the laws' walks.
-/
import Derived.Test.YthfnmighhoighaaProfLaw
namespace Go.Proofs.Ythfnmighhoighaa.ProfW
open Go.RowKit Mem Prof
set_option linter.unusedVariables false

theorem now_bd {p : List Stp} (h : Chk p) (t : Int) (ht : 0 ≤ t) : -1000000 ≤ now p t ∧ now p t ≤ 1000000 := by
  obtain ⟨s, hs, _, e, _⟩ := h.nf.up.now_spec t ht
  rw [e]
  exact ⟨h.lo s hs, h.hi s hs⟩
theorem atT_bd (p : List Stp) (t : Int) : -1000000 ≤ atT p t ∧ atT p t ≤ 1000000 := by
  unfold atT
  split
  · rename_i h
    exact now_bd (chk_of h.1) t (by have := h.2; simp [tickB] at this; exact this.1)
  · omega
end Go.Proofs.Ythfnmighhoighaa.ProfW
