/-
  The earliest room, plainly, part 2: what FitFirst says.
-/
import Derived.Test.YtmjjbodglbdadaaFitPlain
namespace Go.Proofs.Ytmjjbodglbdadaa.Prof
set_option linter.unusedVariables false

theorem fits_neg {p : List Stp} {t l n : Int} (h : t < 0) : fitsT p t l n = false := by
  have : atB t l = false := by simp [atB]; omega
  simp [fitsT, this]
theorem earl_some {p : List Stp} {a l n x : Int} (h : earl p a l n = some x) : fitsT p x l n = true ∧ a ≤ x ∧ 0 ≤ x ∧ ∀ y, a ≤ y → y < x → fitsT p y l n = false := by
  have hE := earl_is p a l n
  rw [h] at hE
  obtain ⟨h1, h2, h3⟩ := hE
  refine ⟨h2, by omega, by omega, fun y g1 g2 => ?_⟩
  rcases Int.lt_or_le y 0 with hy | hy
  · exact fits_neg hy
  · exact h3 y (by omega) g2
theorem earl_none {p : List Stp} {a l n : Int} (h : earl p a l n = none) (y : Int) (hy : a ≤ y) : fitsT p y l n = false := by
  have hE := earl_is p a l n
  rw [h] at hE
  rcases Int.lt_or_le y 0 with h0 | h0
  · exact fits_neg h0
  · exact hE y (by omega)
theorem earl_of {p : List Stp} {a l n y : Int} (hy : a ≤ y) (h : fitsT p y l n = true) : ∃ x, earl p a l n = some x ∧ x ≤ y := by
  cases he : earl p a l n with
  | none => have := earl_none he y hy; rw [h] at this; cases this
  | some x =>
    refine ⟨x, rfl, ?_⟩
    rcases Int.lt_or_le y x with hlt | hge
    · have := (earl_some he).2.2.2 y hy hlt; rw [h] at this; cases this
    · exact hge
theorem fits_less {p : List Stp} {x l n l' n' : Int} (h : fitsT p x l n = true) (h1 : 1 ≤ l') (h2 : l' ≤ l) (h3 : 1 ≤ n') (h4 : n' ≤ n) : fitsT p x l' n' = true := by
  obtain ⟨hc, ha⟩ := fits_ask h
  obtain ⟨q1, q2, q3, q4⟩ := ask_iff.1 ha
  obtain ⟨g0, g1, g2⟩ := (fits_iff hc ha).1 h
  have ha' : askB l' n' = true := ask_iff.2 ⟨h3, by omega, h1, by omega⟩
  exact (fits_iff hc ha').2 ⟨g0, by omega, fun t k1 k2 => by have := g2 t k1 (by omega); omega⟩
end Go.Proofs.Ytmjjbodglbdadaa.Prof
