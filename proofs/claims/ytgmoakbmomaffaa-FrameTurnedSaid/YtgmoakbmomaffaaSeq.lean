/-
  Words for a loop over an iterator whose body appends: what is kept when other blocks grow. Nothing of the program.
-/
import Derived.Test.YtgmoakbmomaffaaOwnC
import Derived.RangeFuncNested
import Derived.RangeFuncBound
import Derived.RangeFuncCalls
import Derived.RangeFuncLeaves
import Derived.RangeFuncBox
import Derived.Shelf.Abstract
import Derived.Shelf.RegionOpen
import Derived.WalkKit
import Derived.OwnWalkIn
import Derived.TacticsInMore
import Derived.LoopNIn
import Derived.LoopIn
namespace Go.Proofs.Ytgmoakbmomaffaa.Mem
open Go.RowKit Go.Shelf
set_option linter.unusedVariables false
set_option linter.unusedSimpArgs false
attribute [local go_sem] Oper.semAt_some

theorem wpListIn_app2 {F : Fence} {n : Nat} {P : Program} {ops : Array Oper} {rest : List Oper} {o : Oper} {a : Act} {Q : Exit → Act → World → Prop} {W W' : World} {t u : TypeId} {v v2 r : Value} (hgd : o.guard = none) (s x : Operand)
    (ho : o.op = .call { callee := .builtin .append, args := #[s, x], argTypes := #[t, u] }) (hs : a.eval s = v) (hx : a.eval x = v2) (hrun : (Builtin.append_ #[t, u] o.type #[v, v2]).run P W = .ok r W')
    (h : wpListIn F n P ops Q rest (a.put o.dst r) W') : wpListIn F n P ops Q (o :: rest) a W := by
  refine wpListIn_plain hgd fun K hK' => ?_
  unfold Oper.wpIn
  refine ⟨?_, ?_⟩
  · simp [Oper.about, ho, resolve, Target.leads, Sem.run_pure]
  · rw [Oper.semAt_plain F _ _ (by rw [ho]; intro c hc'; cases hc')]
    simp [execOp, ho, resolve, invoke, builtin, hs, hx, hrun, Result.andThen]
    exact hK' _ _ h
abbrev NoCells (W : World) (row : Option Nat) : Prop := ∀ r, row = some r → ∃ o : Obj, W.heap[r]? = some o ∧ o.isCells = false
theorem OwnC.grown {W W' : World} {row : Option Nat} {base size : Nat} {A : Option Addr} {n c : Nat} {xs : List Value} (h : OwnC W base size A n c xs) (hg : W.grownBy W' row) (hr : NoCells W row) : OwnC W' base size A n c xs :=
  ⟨h.len, h.le, h.max, fun hc => by
    obtain ⟨g, hA, hb, hlt, h1, h2⟩ := h.room hc
    refine ⟨g, hA, hb, Nat.lt_of_lt_of_le hlt hg.size, fun j hj => ?_, fun j hj => ?_⟩
    · have hx : ∃ v, xs[j]? = some v := ⟨_, List.getElem?_eq_getElem (by rw [h.len]; exact hj)⟩
      obtain ⟨v, hv⟩ := hx
      rw [hv]
      exact cell_kept ((h1 j hj).trans hv) hg hr
    · obtain ⟨k1, k2⟩ := h2 j hj
      obtain ⟨v, hv⟩ := Option.isSome_iff_exists.1 k1
      exact ⟨by rw [cell_kept hv hg hr]; rfl, (frozen_kept hv hg hr).trans k2⟩, h.bare⟩
theorem Blk.grownN {W W' : World} {row : Option Nat} {b : Nat} {t : TypeId} {cs : Array Value} (h : Blk W b t cs) (hg : W.grownBy W' row) (hr : NoCells W row) : Blk W' b t cs := by
  refine (hg.block b h.lt fun e => ?_).trans h
  obtain ⟨o, ho, hc⟩ := hr b e.symm
  rw [show W.heap[b]? = _ from h] at ho
  injection ho with ho
  subst ho
  cases hc
/-- an address's block holds cells -/
def InCells (W : World) (A : Option Addr) : Prop := ∀ b, A = some ⟨b, 0, none⟩ → ∃ o : Obj, W.heap[b]? = some o ∧ o.isCells = true
theorem InCells.grown {W W' : World} {row : Option Nat} {A : Option Addr} (h : InCells W A) (hg : W.grownBy W' row) (hr : NoCells W row) : InCells W' A := fun b e => by
  obtain ⟨o, ho, hc⟩ := h b e
  exact ⟨o, (grownBy_keeps_cells hg hr ho hc).trans ho, hc⟩
theorem InCells.own {W : World} {base size : Nat} {A : Option Addr} {n c : Nat} {xs : List Value} (h : OwnC W base size A n c xs) (hn : 0 < n) (hs : 0 < size) : InCells W A := fun b e => by
  obtain ⟨g, hA, _, _, h1, h2⟩ := h.room (by have := h.le; omega)
  rw [hA] at e
  injection e with e
  injection e with e
  subst e
  obtain ⟨k1, _⟩ := h2 0 (Nat.mul_pos (by have := h.le; omega) hs)
  obtain ⟨v, hv⟩ := Option.isSome_iff_exists.1 k1
  exact cells_of_cell hv
theorem grown_of {W W' : World} (h : Below W.heap.size W W') : W.grownBy W' none := ⟨h.os, h.tape, h.output, h.size, fun k hk _ => h.block k hk⟩
end Go.Proofs.Ytgmoakbmomaffaa.Mem
