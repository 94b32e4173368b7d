/-
  A literal of one struct beside an empty one, as a region that draws its order lays them. Nothing of the program.
-/
import Derived.Test.YtgmoakbmomaffaaSlices3
namespace Go.Proofs.Ytgmoakbmomaffaa.Mem
open Go.RowKit

section
variable {α : Type} {f : α → List Value} {k : Nat} (hL : Lay f k)
include hL
theorem lit_b (w : World) (x : α) (cs : Array Value) (t : TypeId) (E : Obj) (hcs : cs.toList = f x) {W1 : World} (hsz : ((w.alloc E).alloc (.cells cs t)).drew.heap.size ≤ W1.heap.size)
    (hf : ∀ b, b < ((w.alloc E).alloc (.cells cs t)).drew.heap.size → some (⟨w.heap.size, 0, none⟩ : Addr) ≠ some ⟨b, 0, none⟩ → W1.heap[b]? = ((w.alloc E).alloc (.cells cs t)).drew.heap[b]?) : Lst f k W1 (some ⟨w.heap.size + 1, 0, none⟩) 1 [x] := by
  have h1 := Lst.new hL (w.alloc E) x cs t hcs
  have e : (w.alloc E).heap.size = w.heap.size + 1 := by simp
  rw [e] at h1
  refine Lst.keep h1 (Nat.le_trans (Nat.le_refl _) hsz) (hf (w.heap.size + 1) (by simp) (by intro h; injection h with h; injection h with h; omega))
theorem lit_c (w : World) (x : α) (cs : Array Value) (t : TypeId) (E : Obj) (hcs : cs.toList = f x) {W1 : World} (hsz : ((w.alloc (.cells cs t)).alloc E).drew.heap.size ≤ W1.heap.size)
    (hf : ∀ b, b < ((w.alloc (.cells cs t)).alloc E).drew.heap.size → some (⟨w.heap.size + 1, 0, none⟩ : Addr) ≠ some ⟨b, 0, none⟩ → W1.heap[b]? = ((w.alloc (.cells cs t)).alloc E).drew.heap[b]?) : Lst f k W1 (some ⟨w.heap.size, 0, none⟩) 1 [x] := by
  have h1 := (Lst.new hL w x cs t hcs).below ((Below.refl _ _).alloc (Nat.le_refl _) E)
  refine Lst.keep h1 (Nat.le_trans (Nat.le_refl _) hsz) (hf w.heap.size (by simp; omega) (by intro h; injection h with h; injection h with h; omega))
end
end Go.Proofs.Ytgmoakbmomaffaa.Mem
