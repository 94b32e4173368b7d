/-
  Contracts: shape.sizes and its iterator; words for a loop over an iterator whose body appends.
-/
import Derived.Test.YthfnmighhoighaaShape2
import Derived.RangeFuncNested
import Derived.RangeFuncBound
import Derived.RangeFuncCalls
import Derived.RangeFuncLeaves
import Derived.RangeFuncBox
import Derived.Shelf.Abstract
import Derived.Shelf.RegionOpen
import Derived.WalkKit
import Derived.OwnWalkIn
import Derived.TacticsInMore
import Derived.LoopNIn
import Derived.LoopIn
namespace Go.Proofs.Ythfnmighhoighaa.ShapeW
open Go.RowKit Go.Shelf Mem Shape
set_option linter.unusedVariables false
set_option linter.unusedSimpArgs false
set_option linter.unnecessarySimpa false
attribute [local go_sem] Oper.semAt_some

theorem wpListIn_app2 {F : Fence} {n : Nat} {P : Program} {ops : Array Oper} {rest : List Oper} {o : Oper} {a : Act} {Q : Exit → Act → World → Prop} {W W' : World} {t u : TypeId} {v v2 r : Value} (hgd : o.guard = none) (s x : Operand)
    (ho : o.op = .call { callee := .builtin .append, args := #[s, x], argTypes := #[t, u] }) (hs : a.eval s = v) (hx : a.eval x = v2) (hrun : (Builtin.append_ #[t, u] o.type #[v, v2]).run P W = .ok r W')
    (h : wpListIn F n P ops Q rest (a.put o.dst r) W') : wpListIn F n P ops Q (o :: rest) a W := by
  refine wpListIn_plain hgd fun K hK' => ?_
  unfold Oper.wpIn
  refine ⟨?_, ?_⟩
  · simp [Oper.about, ho, resolve, Target.leads, Sem.run_pure]
  · rw [Oper.semAt_plain F _ _ (by rw [ho]; intro c hc'; cases hc')]
    simp [execOp, ho, resolve, invoke, builtin, hs, hx, hrun, Result.andThen]
    exact hK' _ _ h
abbrev NoCells (W : World) (row : Option Nat) : Prop := ∀ r, row = some r → ∃ o : Obj, W.heap[r]? = some o ∧ o.isCells = false
theorem OwnC.grown {W W' : World} {row : Option Nat} {base size : Nat} {A : Option Addr} {n c : Nat} {xs : List Value} (h : OwnC W base size A n c xs) (hg : W.grownBy W' row) (hr : NoCells W row) : OwnC W' base size A n c xs :=
  ⟨h.len, h.le, h.max, fun hc => by
    obtain ⟨g, hA, hb, hlt, h1, h2⟩ := h.room hc
    refine ⟨g, hA, hb, Nat.lt_of_lt_of_le hlt hg.size, fun j hj => ?_, fun j hj => ?_⟩
    · have hx : ∃ v, xs[j]? = some v := ⟨_, List.getElem?_eq_getElem (by rw [h.len]; exact hj)⟩
      obtain ⟨v, hv⟩ := hx
      rw [hv]
      exact cell_kept ((h1 j hj).trans hv) hg hr
    · obtain ⟨k1, k2⟩ := h2 j hj
      obtain ⟨v, hv⟩ := Option.isSome_iff_exists.1 k1
      exact ⟨by rw [cell_kept hv hg hr]; rfl, (frozen_kept hv hg hr).trans k2⟩, h.bare⟩
theorem Blk.grown {W W' : World} {row : Option Nat} {b : Nat} {t : TypeId} {cs : Array Value} (h : Blk W b t cs) (hg : W.grownBy W' row) (hr : NoCells W row) : Blk W' b t cs := by
  refine (hg.block b h.lt fun e => ?_).trans h
  obtain ⟨o, ho, hc⟩ := hr b e.symm
  rw [show W.heap[b]? = _ from h] at ho
  injection ho with ho
  subst ho
  cases hc
/-- an address's block holds cells -/
def InCells (W : World) (A : Option Addr) : Prop := ∀ b, A = some ⟨b, 0, none⟩ → ∃ o : Obj, W.heap[b]? = some o ∧ o.isCells = true
theorem InCells.grown {W W' : World} {row : Option Nat} {A : Option Addr} (h : InCells W A) (hg : W.grownBy W' row) (hr : NoCells W row) : InCells W' A := fun b e => by
  obtain ⟨o, ho, hc⟩ := h b e
  exact ⟨o, (grownBy_keeps_cells hg hr ho hc).trans ho, hc⟩
theorem InCells.own {W : World} {base size : Nat} {A : Option Addr} {n c : Nat} {xs : List Value} (h : OwnC W base size A n c xs) (hn : 0 < n) (hs : 0 < size) : InCells W A := fun b e => by
  obtain ⟨g, hA, _, _, h1, h2⟩ := h.room (by have := h.le; omega)
  rw [hA] at e
  injection e with e
  injection e with e
  subst e
  obtain ⟨k1, _⟩ := h2 0 (Nat.mul_pos (by have := h.le; omega) hs)
  obtain ⟨v, hv⟩ := Option.isSome_iff_exists.1 k1
  exact cells_of_cell hv
/-- the blocks of two boxes stay -/
def Keep2 (b1 b2 : Nat) (W W' : World) : Prop := W'.heap[b1]? = W.heap[b1]? ∧ W'.heap[b2]? = W.heap[b2]?
theorem Keep2.trans {b1 b2 : Nat} {A B C : World} (h : Keep2 b1 b2 A B) (k : Keep2 b1 b2 B C) : Keep2 b1 b2 A C := ⟨k.1.trans h.1, k.2.trans h.2⟩
theorem keep2_put {b1 b2 : Nat} {w : World} (h1 : b1 < w.heap.size) (h2 : b2 < w.heap.size) (W : World) (l : Nat) (o o' : Obj) (hl : w.heap.size ≤ l) (h : W.heap[l]? = some o) (_ : o.isCells = false) (_ : o.isWalk = false) : Keep2 b1 b2 W (W.putObj l o') :=
  ⟨World.putObj_heap_other (fun e => by omega), World.putObj_heap_other (fun e => by omega)⟩
theorem sizes_len {mn mx : Int} : (sizesL mn mx).length = (mx - mn + 1).toNat := by simp [sizesL]
theorem sizes_at {mn mx : Int} {k : Nat} (h : k < (mx - mn + 1).toNat) : (sizesL mn mx)[k]? = some (mx - k) := by
  simp [sizesL, h]
theorem sizes_any (mn mx : Int) (w : World) : Calls Try.prog 52 #[.int .i64 mn, .int .i64 mx] w fun e w' => e = .returned (.func (.func 69) #[] #[.pointer (some ⟨w.heap.size + 1, 0, none⟩), .pointer (some ⟨w.heap.size, 0, none⟩)]) ∧ w' = (w.alloc (.cells #[.int .i64 mn] 3)).alloc (.cells #[.int .i64 mx] 3) := by
  go_enter Try.func52, Try.ntmps52
  go_wp2_with fail
  go_ret
  exact ⟨rfl, rfl⟩
set_option maxRecDepth 100000 in
set_option maxHeartbeats 1000000 in
theorem sizes1_in (F : Fence) (n : Nat) (h6 : F.fn 69) (hro : F.round = none) (hn : 1 ≤ n) (l Bt Bf : Nat) (mn mx : Int) (hmn : 1 ≤ mn) (hmx : mx ≤ 48) (J Jx : List Int → World → Prop)
    (hY : ∀ pre x W, J pre W → pre.length < (sizesL mn mx).length → YieldAt F (n - 1) Try.prog l #[.int .i64 x] W fun e W' =>
      (e = .returned (.bool true) ∧ J (pre ++ [x]) W' ∧ Keep2 Bt Bf W W') ∨ (e = .returned (.bool false) ∧ Jx (pre ++ [x]) W'))
    (W : World) (hBt : Blk W Bt 3 #[.int .i64 mx]) (hBf : Blk W Bf 3 #[.int .i64 mn]) (h0 : J [] W) :
    CallsIn F n Try.prog 69 #[.func (.yield l) #[] #[], .pointer (some ⟨Bt, 0, none⟩), .pointer (some ⟨Bf, 0, none⟩)] W fun e W' => (∃ v, e = .returned v) ∧
      ((∃ ys, ys = sizesL mn mx ∧ J ys W') ∨ (∃ pre, pre <+: sizesL mn mx ∧ Jx pre W')) := by
  have x0 := blk1 hBt
  refine callsIn_of_wp Try.func69 rfl h6 ?_ hro
  simp only [Try.ntmps69, List.size_toArray, List.length_cons, List.length_nil, Nat.reduceAdd, Nat.reduceSub, Array.replicate_succ, Array.replicate_zero, List.push_toArray, List.append_toArray, List.nil_append, List.cons_append]
  gi_wp2
  gi_loopw [4] (fun p wr => ∃ k : Nat, k ≤ (mx - mn + 1).toNat ∧ p = .int .i64 (mx - k) ∧ Blk wr Bf 3 #[.int .i64 mn] ∧ J ((sizesL mn mx).take k) wr)
    (fun p _ => (intOf p - mn + 1).toNat)
  case atStart => exact ⟨0, by omega, by simp, hBf, by simpa using h0⟩
  case round =>
    obtain ⟨k, hk, rfl, hbf, hJs⟩ := hrel
    have x1 := blk1 hbf
    by_cases hlt : k < (mx - mn + 1).toNat
    · obtain ⟨fn, tmps, assign, body, hy, hR⟩ := hY _ (mx - k) wr hJs (by rw [List.length_take, sizes_len]; omega)
      have hc : mn ≤ mx - k := by omega
      gi_wp2
      refine hR.mono ?_
      rintro e W3 (⟨rfl, hJ3, hk3⟩ | ⟨rfl, hJx3⟩)
      · have hbf3 : Blk W3 Bf 3 #[.int .i64 mn] := hk3.2.trans hbf
        have hw : IntKind.i64.wrap (mx - k - 1) = mx - k - 1 := IntWalk.i64_in _ (by omega)
        gi_wp2
        go_roundw
        case rel => exact ⟨k + 1, by omega, by simp only [Value.int.injEq, true_and]; first | omega | (rw [hw]; omega), hbf3, by rw [take_snoc_some (sizes_at hlt)]; exact hJ3⟩
        case measure => simp [intOf]; omega
      · gi_wp2
        refine bodyPost_ret (results_none rfl _ _ _) rfl ?_
        exact ⟨⟨_, rfl⟩, .inr ⟨_, by rw [← take_snoc_some (sizes_at hlt)]; exact List.take_prefix _ _, hJx3⟩⟩
    · have hke : k = (mx - mn + 1).toNat := by omega
      have hc : ¬ mn ≤ mx - k := by omega
      have hc' : mx - k < mn := by omega
      have hfull : (sizesL mn mx).take k = sizesL mn mx := List.take_of_length_le (by rw [sizes_len]; omega)
      rw [hfull] at hJs
      gi_wp2
      go_end0
      first | exact ⟨⟨_, rfl⟩, .inl hJs⟩ | exact ⟨⟨_, rfl⟩, .inl ⟨_, rfl, hJs⟩⟩
theorem sizes_stops (F : Fence) (n : Nat) (h6 : F.fn 69) (hro : F.round = none) (hn : 1 ≤ n) (Bt Bf : Nat) (mn mx : Int) (hmn : 1 ≤ mn) (hmx : mx ≤ 48) (w : World) (hBt : Blk w Bt 3 #[.int .i64 mx]) (hBf : Blk w Bf 3 #[.int .i64 mn]) :
    SeqStopsK F n Try.prog 69 #[.pointer (some ⟨Bt, 0, none⟩), .pointer (some ⟨Bf, 0, none⟩)] (fun x : Int => #[Value.int .i64 x]) (Keep2 Bt Bf) (fun ys => ys = sizesL mn mx) (fun pre => pre <+: sizesL mn mx) (sizesL mn mx).length w := fun l J Jx W hW _ _ hY h0 =>
  sizes1_in F n h6 hro hn l Bt Bf mn mx hmn hmx J Jx hY W (hBt.below hW hBt.lt) (hBf.below hW hBf.lt) h0
end Go.Proofs.Ythfnmighhoighaa.ShapeW
