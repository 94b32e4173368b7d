/-
  Words for contracts: what returns, what has become of the world; blocks by their cells. Nothing of the program.
-/
import Derived.Test.YtgmoakbmomaffaaSlices4
import Derived.Test.YtgmoakbmomaffaaQuiet
import Derived.WalkKit
import Derived.LoopTactic
import Derived.Lib.Hide
import Derived.Deep.DeepCutAuto
import Derived.Deep.RegionHeld3
import Derived.Deep.RegionLaw
import Derived.Deep.DrawnRows
import Derived.StillTailTactics
import Derived.WalkSpells
import Derived.WalkLawsBesides
import Derived.IntWalk
import Derived.Shelf.Abstract
namespace Go.Proofs.Ytgmoakbmomaffaa.Mem
open Go.RowKit

def Ret (r : Value) (w : World) (e : Ending) (w' : World) : Prop := e = .returned r ∧ Below w.heap.size w w'
def Drew (r : Value) (w : World) (e : Ending) (w' : World) : Prop := e = .returned r ∧ ∃ m, w' = w.drewN m
theorem Drew.below {r : Value} {w w' : World} {e : Ending} (h : Drew r w e w') : Ret r w e w' := by
  obtain ⟨h1, m, rfl⟩ := h
  exact ⟨h1, below_drewN (Below.refl _ _) _⟩
theorem SOwn.max {α : Type} {f : α → List Value} {k : Nat} {w : World} {base : Nat} {A : Option Addr} {n c : Nat} {l : List α} (h : SOwn f k w base A n c l) : n ≤ maxLen := Nat.le_trans h.2.le h.2.max
abbrev TrueB (W : World) (e : Ending) (w' : World) : Prop := e = .returned (.bool true) ∧ Below W.heap.size W w'
theorem all_lt {P : Nat → Prop} {k : Nat} (h : ∀ j, j < k → P j) (hk : P k) : ∀ j, j < k + 1 → P j := fun j hj => by
  rcases Nat.lt_or_ge j k with h' | h'
  · exact h j h'
  · obtain rfl : j = k := by omega
    exact hk
theorem ret_tuple {a b : Array Value} (h : a = b) : Ending.returned (.tuple a) = .returned (.tuple b) := by rw [h]
theorem blk1 {w : World} {g : Nat} {t : TypeId} {v0 : Value} (h : Blk w g t #[v0]) : w.cell? ⟨g, 0, none⟩ = some v0 := h.cell 0
theorem blk2 {w : World} {g : Nat} {t : TypeId} {v0 v1 : Value} (h : Blk w g t #[v0, v1]) : w.cell? ⟨g, 0, none⟩ = some v0 ∧ w.cell? ⟨g, 1, none⟩ = some v1 := ⟨h.cell 0, h.cell 1⟩
theorem blk4 {w : World} {g : Nat} {t : TypeId} {v0 v1 v2 v3 : Value} (h : Blk w g t #[v0, v1, v2, v3]) : w.cell? ⟨g, 0, none⟩ = some v0 ∧ w.cell? ⟨g, 1, none⟩ = some v1 ∧ w.cell? ⟨g, 2, none⟩ = some v2 ∧ w.cell? ⟨g, 3, none⟩ = some v3 := ⟨h.cell 0, h.cell 1, h.cell 2, h.cell 3⟩
theorem blk7 {w : World} {g : Nat} {t : TypeId} {v0 v1 v2 v3 v4 v5 v6 : Value} (h : Blk w g t #[v0, v1, v2, v3, v4, v5, v6]) : w.cell? ⟨g, 0, none⟩ = some v0 ∧ w.cell? ⟨g, 1, none⟩ = some v1 ∧ w.cell? ⟨g, 2, none⟩ = some v2 ∧ w.cell? ⟨g, 3, none⟩ = some v3 ∧ w.cell? ⟨g, 4, none⟩ = some v4 ∧ w.cell? ⟨g, 5, none⟩ = some v5 ∧ w.cell? ⟨g, 6, none⟩ = some v6 := ⟨h.cell 0, h.cell 1, h.cell 2, h.cell 3, h.cell 4, h.cell 5, h.cell 6⟩
/-- a literal of ints reads as its list -/
theorem ints_blk {w : World} {g : Nat} {t : TypeId} {cs : Array Value} {l : List Int} (h : Blk w g t cs) (hc : cs.toList = l.map (fun x => .int .i64 x)) : Ints w (some ⟨g, 0, none⟩) l.length l := by
  refine ⟨by simp, fun r hr => ?_, fun hn => ⟨g, 0, rfl, h.lt, fun i r hr j v hv => ?_⟩⟩
  · obtain ⟨x, _, rfl⟩ := List.mem_map.1 hr
    rfl
  · rw [List.getElem?_map] at hr
    cases hx : l[i]? with
    | none => rw [hx] at hr; cases hr
    | some x =>
      rw [hx] at hr
      injection hr with hr
      subst hr
      cases j with
      | zero =>
        simp [intRow] at hv
        subst hv
        rw [Nat.zero_add, Nat.mul_one, Nat.add_zero, h.cell i]
        have : cs.toList[i]? = some (.int .i64 x) := by rw [hc, List.getElem?_map, hx]; rfl
        simpa using this
      | succ j => simp [intRow] at hv
end Go.Proofs.Ytgmoakbmomaffaa.Mem
