/-
  Arguments of the laws on profiles, opened: steps, spans.
-/
import Derived.Test.YthfnmighhoighaaProf
import Derived.ProofKit
import Derived.OpenShut
import Derived.Lib.SmallJoins
namespace Go.Proofs.Ythfnmighhoighaa.ProfW
open Go.ChangeShapes Go.WideShapes Go.ChangeAt Go.RowKit Go.Deep Mem Prof
set_option linter.unusedVariables false

section
variable {H : Type} {enc : TypeId × Value → H} {w : World} {base : Nat} {spare : Nat → Bool} {held : Bool}
theorem open_hdr {P : Program} {t e : TypeId} {a0 : Option Addr} {len0 cap0 : Nat} {d : DataW H} {p : List MemPlace} (ht : P.underlying t = some (.slice e))
    (h : DataW.Trod enc P w base spare held t (.slice a0 len0 cap0) d p) : len0 ≤ cap0 ∧ (a0 = none → cap0 = 0) := by
  obtain ⟨fuel, hf⟩ := h
  rcases open_slice ht hf with ⟨hcs, _⟩ | ⟨a, len, cap, m, n, D, Pl, hcs, _, hl, hm, hmm, _, hi⟩
  · simp [Value.cells] at hcs
    obtain ⟨rfl, rfl, rfl⟩ := hcs
    exact ⟨Nat.le_refl _, fun _ => rfl⟩
  · simp [Value.cells] at hcs
    obtain ⟨rfl, rfl, rfl⟩ := hcs
    exact ⟨hl, fun h => by cases h⟩
/-- a slice of steps that came in -/
structure ArgS (w : World) (A : Option Addr) (n c : Nat) (p : List Stp) : Prop where
  st : Steps w A n p
  max : n ≤ maxLen
  le : n ≤ c
  bare : A = none → c = 0
theorem open_steps {a0 : Option Addr} {len0 cap0 : Nat} {d : DataW H} {p : List MemPlace} (h : DataW.Trod enc Try.prog w base spare held 56 (.slice a0 len0 cap0) d p) :
    ∃ l, ArgS w a0 len0 cap0 l := by
  obtain ⟨hm, rows, hrows, hf⟩ := open_rows Try.underlying56 Try.underlying77 (by kernel_rfl) (by kernel_rfl) (by decide) h
  obtain ⟨h1, h2⟩ := open_hdr Try.underlying56 h
  obtain ⟨l, rfl, _⟩ := exists_map stpRow (fun _ => True) rows (fun r hr => by
    obtain ⟨v0, v1, rfl⟩ := list2 (hrows.each r hr)
    obtain ⟨u0, n0, y0, e0, t0⟩ := hf _ hr 0 _ rfl
    obtain ⟨u1, n1, y1, e1, t1⟩ := hf _ hr 1 _ rfl
    simp at e0 e1
    subst e0 e1
    obtain ⟨z0, q0, _, w0⟩ := DataW.trod_int Try.underlying3 t0
    obtain ⟨z1, q1, _, w1⟩ := DataW.trod_int Try.underlying3 t1
    simp at q0 q1
    subst q0 q1
    exact ⟨(z0, z1), rfl, trivial⟩)
  exact ⟨l, hrows, hm, h1, h2⟩
structure Spn where
  a : Int
  b : Int
  n : Int
def Spn.v (s : Spn) : Value := .agg #[.int .i64 s.a, .int .i64 s.b, .int .i64 s.n]
end
end Go.Proofs.Ythfnmighhoighaa.ProfW
