/-
  A region that draws its order, walked once in the order of the text, over a class of worlds that the caller names (the kit's theorem, at any class). Nothing of the program.
-/
import Derived.Test.YtgmoakbmomaffaaMem
import Derived.Deep.QuietTactic
import Derived.BigQuiet
namespace Go.Proofs.Ytgmoakbmomaffaa.Mem
open Go.RowKit

section
variable {P : Program} {ops : Array Oper} {C : World → Prop} {Q : Act → Prop} {a : Act} {o : Oper} {rest : List Oper}
/-- the kit's walk, behind a structure (so that nothing unfolds it) -/
structure WQ (P : Program) (ops : Array Oper) (C : World → Prop) (Q : Act → Prop) (l : List Oper) (a : Act) : Prop where
  out : wpQuiet P ops C Q l a
theorem wp_region_cls {id : Nat} {Q : Exit → Act → World → Prop} {a : Act} {w : World} {l : List Oper} (C : World → Prop) (hm : P.follows .mixedOrders = true) (hB : Region.lexB .any l.toArray = true) (hC : C w.drew)
    (h : WQ P l.toArray C (fun a' => ∀ w', C w' → Q .normal a' w') l a) : (Code.region id l.toArray true).wp P Q a w :=
  wp_region_quiet (C := C) hm hB hC (by simpa using h.out)
theorem cq_nil (h : Q a) : WQ P ops C Q [] a := ⟨h⟩
theorem cq_skip (hw : Region.wanted o (yielded ops a.tmps) = false) (h : WQ P ops C Q rest (a.put o.dst undef)) : WQ P ops C Q (o :: rest) a :=
  ⟨wpQuiet_step fun K hK => by rw [if_neg (by rw [hw]; exact Bool.false_ne_true)]; exact hK _ h.out⟩
theorem cq_val (v : Value) (hw : Region.wanted o (yielded ops a.tmps) = true) (hq : ∀ w, C w → (execOp a.eval o).run P w = .ok (.value v) w) (h : WQ P ops C Q rest (a.put o.dst v)) : WQ P ops C Q (o :: rest) a :=
  ⟨wpQuiet_step fun K hK => by
    rw [if_pos hw]
    refine ⟨v, fun w hC => ?_, hK _ h.out⟩
    unfold Oper.quietAt
    rw [hq w hC]
    exact ⟨rfl, rfl⟩⟩
/-- the same, the value found on the way -/
theorem cq_ex (hw : Region.wanted o (yielded ops a.tmps) = true) (hq : ∃ v, (∀ w, C w → (execOp a.eval o).run P w = .ok (.value v) w) ∧ WQ P ops C Q rest (a.put o.dst v)) : WQ P ops C Q (o :: rest) a :=
  let ⟨v, h1, h2⟩ := hq
  cq_val v hw h1 h2
theorem cq_call (f : FuncId) (args : Array Value) (v : Value) (hw : Region.wanted o (yielded ops a.tmps) = true) (hq : ∀ w, (execOp a.eval o).run P w = .ok (.enter f args) w) (hc : ∀ w, C w → Calls P f args w (fun e w'' => e = .returned v ∧ C w'')) (h : WQ P ops C Q rest (a.put o.dst v)) : WQ P ops C Q (o :: rest) a :=
  ⟨wpQuiet_step fun K hK => by
    rw [if_pos hw]
    refine ⟨v, fun w hC => ?_, hK _ h.out⟩
    unfold Oper.quietAt
    rw [hq w]
    exact ⟨rfl, hc w hC⟩⟩
end
end Go.Proofs.Ytgmoakbmomaffaa.Mem
