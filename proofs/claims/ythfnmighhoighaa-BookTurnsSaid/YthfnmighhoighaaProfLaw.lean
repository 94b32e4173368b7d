/-
  ProfileOrder, ProfileBack: the laws' walks.
-/
import Derived.Test.YthfnmighhoighaaProf6
import Derived.Test.YthfnmighhoighaaProfPlain4
import Derived.Test.YthfnmighhoighaaProfOpen
namespace Go.Proofs.Ythfnmighhoighaa.ProfW
open Go.RowKit Mem Prof
set_option linter.unusedVariables false

abbrev TrueB (W : World) (e : Ending) (w' : World) : Prop := e = .returned (.bool true) ∧ Below W.heap.size W w'
theorem few_is (r : Bool) (A : Option Addr) (n c : Nat) (w : World) (h : decide ((n : Int) ≤ 200) = r) : Calls Try.prog 39 #[.slice A n c] w fun e w' => e = .returned (.bool r) ∧ w = w' := by rw [← h]; exact few_any A n c w
theorem blk3 {w : World} {g : Nat} {t : TypeId} {v0 v1 v2 : Value} (h : Blk w g t #[v0, v1, v2]) : w.cell? ⟨g, 0, none⟩ = some v0 ∧ w.cell? ⟨g, 1, none⟩ = some v1 ∧ w.cell? ⟨g, 2, none⟩ = some v2 := ⟨h.cell 0, h.cell 1, h.cell 2⟩
theorem AddPost.arg {r : List Stp × Int} {w w' : World} {A : Option Addr} {c : Nat} (h : StepsO w' w.heap.size A r.1.length c r.1) : ArgS w' A r.1.length c r.1 := ⟨h.lst layS, SOwn.max h, h.2.le, h.2.bare⟩
theorem ArgS.below {w w' : World} {A : Option Addr} {n c : Nat} {p : List Stp} (h : ArgS w A n c p) (hb : Below w.heap.size w w') : ArgS w' A n c p := ⟨h.st.below hb, h.max, h.le, h.bare⟩
theorem add_arg {A : Option Addr} {m c : Nat} {p : List Stp} {w : World} (h : ArgS w A m c p) (a b n : Int) :
    Calls Try.prog 61 #[.slice A m c, .int .i64 a, .int .i64 b, .int .i64 n] w (AddPost (add p a b n) w) := add_any A m c p a b n w h.st h.max h.le h.bare

end Go.Proofs.Ythfnmighhoighaa.ProfW
