/-
  Arguments of the shape laws, opened: a shape by value, three ints by value.
-/
import Derived.Test.YthfnmighhoighaaShapeRef3
import Derived.Test.YthfnmighhoighaaOpen
import Derived.Test.YthfnmighhoighaaCells
import Derived.ProofKit
import Derived.OpenShut
import Derived.Lib.SmallJoins
import Derived.WideKeyPair
namespace Go.Proofs.Ythfnmighhoighaa.ShapeW
open Go.RowKit Mem Shape Go.ChangeShapes Go.WideShapes Go.ChangeAt Go.Deep
set_option linter.unusedVariables false
set_option linter.unusedSimpArgs false

section
variable {H : Type} {enc : TypeId × Value → H} {w : World} {base : Nat} {spare : Nat → Bool} {held : Bool}
theorem array5 {α : Type} {cs : Array α} (h : cs.size = 5) : ∃ c0 c1 c2 c3 c4, cs = #[c0, c1, c2, c3, c4] := by
  obtain ⟨l⟩ := cs
  match l, h with
  | [c0, c1, c2, c3, c4], _ => exact ⟨c0, c1, c2, c3, c4, rfl⟩
theorem trod_struct5 {P : Program} {t : TypeId} {f0 f1 f2 f3 f4 : Field} {fuel : Nat} {cs : List Value} {x : DataW H × List MemPlace} (ht : P.underlying t = some (.struct #[f0, f1, f2, f3, f4])) (h : DataW.trod enc P w base spare held fuel t cs = some x) :
    ∃ y0 y1 y2 y3 y4 n, DataW.trod enc P w base spare held n f0.type ((cs.drop f0.offset).take (P.cellsOf f0.type)) = some y0 ∧
      DataW.trod enc P w base spare held n f1.type ((cs.drop f1.offset).take (P.cellsOf f1.type)) = some y1 ∧ DataW.trod enc P w base spare held n f2.type ((cs.drop f2.offset).take (P.cellsOf f2.type)) = some y2 ∧
      DataW.trod enc P w base spare held n f3.type ((cs.drop f3.offset).take (P.cellsOf f3.type)) = some y3 ∧ DataW.trod enc P w base spare held n f4.type ((cs.drop f4.offset).take (P.cellsOf f4.type)) = some y4 := by
  obtain ⟨xs, n, _, rfl, hl, hlen, hf⟩ := DataW.trod_struct ht h
  match xs, hlen with
  | [y0, y1, y2, y3, y4], _ => exact ⟨y0, y1, y2, y3, y4, n, by simpa using hf 0 f0 rfl, by simpa using hf 1 f1 rfl, by simpa using hf 2 f2 rfl, by simpa using hf 3 f3 rfl, by simpa using hf 4 f4 rfl⟩
theorem open_alts {a0 : Option Addr} {len0 cap0 : Nat} {d : DataW H} {p : List MemPlace} (h : DataW.Trod enc Try.prog w base spare held 22 (.slice a0 len0 cap0) d p) :
    ∃ l, Als w a0 len0 l ∧ len0 ≤ maxLen := by
  obtain ⟨hm, rows, hrows, hf⟩ := open_rows Try.underlying22 Try.underlying38 (by kernel_rfl) (by kernel_rfl) (by decide) h
  obtain ⟨l, rfl, _⟩ := exists_map alRow (fun _ => True) rows (fun r hr => by
    obtain ⟨v0, v1, rfl⟩ : ∃ v0 v1, r = [v0, v1] := by
      match r, hrows.each r hr with
      | [v0, v1], _ => exact ⟨v0, v1, rfl⟩
    obtain ⟨u0, n0, y0, e0, t0⟩ := hf _ hr 0 _ rfl
    obtain ⟨u1, n1, y1, e1, t1⟩ := hf _ hr 1 _ rfl
    simp at e0 e1
    subst e0 e1
    obtain ⟨z0, q0, _, w0⟩ := DataW.trod_int Try.underlying3 t0
    obtain ⟨z1, q1, _, w1⟩ := DataW.trod_int Try.underlying3 t1
    simp at q0 q1
    subst q0 q1
    exact ⟨⟨z0, z1⟩, rfl, trivial⟩)
  exact ⟨l, hrows, hm⟩
theorem open_hdr {P : Program} {t e : TypeId} {a0 : Option Addr} {len0 cap0 : Nat} {d : DataW H} {p : List MemPlace} (ht : P.underlying t = some (.slice e))
    (h : DataW.Trod enc P w base spare held t (.slice a0 len0 cap0) d p) : len0 ≤ cap0 ∧ (a0 = none → cap0 = 0) := by
  obtain ⟨fuel, hf⟩ := h
  rcases open_slice ht hf with ⟨hcs, _⟩ | ⟨a, len, cap, m, n, D, Pl, hcs, _, hl, hm, hmm, _, hi⟩
  · simp [Value.cells] at hcs
    obtain ⟨rfl, rfl, rfl⟩ := hcs
    exact ⟨Nat.le_refl _, fun _ => rfl⟩
  · simp [Value.cells] at hcs
    obtain ⟨rfl, rfl, rfl⟩ := hcs
    exact ⟨hl, fun h => by cases h⟩
/-- a shape that came in -/
structure ArgX (w : World) (A : Option Addr) (n c : Nat) (s : Sh) : Prop where
  st : Als w A n s.al
  le : n ≤ c
  bare : A = none → c = 0
theorem ArgX.arg {w : World} {A : Option Addr} {n c : Nat} {s : Sh} (h : ArgX w A n c s) (hn : n ≤ 100) : ArgS w A n c s := ⟨h.st, by omega, h.le, h.bare⟩
theorem ArgX.below {w w' : World} {A : Option Addr} {n c : Nat} {s : Sh} (h : ArgX w A n c s) (hb : Below w.heap.size w w') : ArgX w' A n c s := ⟨h.st.below hb, h.le, h.bare⟩
set_option maxRecDepth 100000 in
theorem open_shape {r : Reach} {b0 : Nat} {v : Value} {d : DataW H} {p : List MemPlace} (hv : Value.okWide Try.prog w r b0 24 v) (h : DataW.Trod enc Try.prog w base spare held 24 v d p) :
    ∃ x : Option Addr × Nat × Nat × Sh, v = shV x.1 x.2.1 x.2.2.1 x.2.2.2 ∧ ArgX w x.1 x.2.1 x.2.2.1 x.2.2.2 := by
  obtain ⟨cs, rfl, hsz⟩ := okWide_struct Try.underlying24 hv
  have hC : Try.prog.cellsOf 24 = 5 := by kernel_rfl
  obtain ⟨c0, c1, c2, c3, c4, rfl⟩ := array5 (hsz.trans hC)
  obtain ⟨fuel, hf⟩ := h
  obtain ⟨y0, y1, y2, y3, y4, n, h0, h1, h2, h3, h4⟩ := trod_struct5 Try.underlying24 hf
  have k0 : Try.prog.cellsOf 3 = 1 := by kernel_rfl
  have k1 : Try.prog.cellsOf 22 = 1 := by kernel_rfl
  simp [Value.cells, k0, k1] at h0 h1 h2 h3 h4
  obtain ⟨z0, q0, _, w0⟩ := DataW.trod_int Try.underlying3 h0
  obtain ⟨z2, q2, _, w2⟩ := DataW.trod_int Try.underlying3 h2
  obtain ⟨z3, q3, _, w3⟩ := DataW.trod_int Try.underlying3 h3
  obtain ⟨z4, q4, _, w4⟩ := DataW.trod_int Try.underlying3 h4
  obtain ⟨a, l, c, q1⟩ := Joins.slice_form Try.underlying22 h1
  simp at q0 q1 q2 q3 q4
  subst q0 q1 q2 q3 q4
  have ht : DataW.Trod enc Try.prog w base spare held 22 (.slice a l c) y1.1 y1.2 := ⟨n, h1⟩
  obtain ⟨al, g1, g2⟩ := open_alts ht
  obtain ⟨g3, g4⟩ := open_hdr Try.underlying22 ht
  exact ⟨(a, l, c, ⟨z0, al, z2, z3, z4⟩), rfl, ⟨g1, g3, g4⟩⟩
theorem open_three {r : Reach} {b0 : Nat} {v : Value} {d : DataW H} {ps : List MemPlace} (hval : Value.okWide Try.prog w r b0 32 v) (hd : DataW.Trod enc Try.prog w base spare held 32 v d ps) :
    ∃ x : Int × Int × Int, v = .agg #[.int .i64 x.1, .int .i64 x.2.1, .int .i64 x.2.2] ∧ True := by
  have hu : Try.prog.underlying 32 = some (.array 3 3) := Try.underlying32
  have hC : Try.prog.cellsOf 32 = 3 := by kernel_rfl
  have hone : Try.prog.cellsOf 3 = 1 := by kernel_rfl
  simp only [Value.okWide, hu] at hval
  obtain ⟨cs, rfl, h2, _⟩ := hval
  rw [hC] at h2
  obtain ⟨c0, c1, c2, rfl⟩ := Joins.array3 h2
  obtain ⟨fuel, hf⟩ := hd
  cases fuel with
  | zero => simp [DataW.trod] at hf
  | succ n =>
    rw [DataW.trod_step] at hf
    unfold DataW.trodStep at hf
    simp only [hu, Value.cells] at hf
    rw [if_pos (by rw [hC]; rfl)] at hf
    simp only [Option.map_eq_some_iff] at hf
    obtain ⟨xs, hx, e1⟩ := hf
    rw [show List.range 3 = [0, 1, 2] from rfl, List.mapM_cons, List.mapM_cons, List.mapM_cons, List.mapM_nil] at hx
    simp only [bind, Option.bind_eq_some_iff, pure, Option.some.injEq, hone] at hx
    obtain ⟨y0, h0, _, ⟨y1, h1, _, ⟨y2, h2, _, rfl, rfl⟩, rfl⟩, rfl⟩ := hx
    obtain ⟨a, ea, rfl, wa⟩ := DataW.trod_int Try.underlying3 h0
    obtain ⟨b, eb, rfl, wb⟩ := DataW.trod_int Try.underlying3 h1
    obtain ⟨c, ec, rfl, wc⟩ := DataW.trod_int Try.underlying3 h2
    simp at ea eb ec
    subst ea eb ec
    exact ⟨(a, b, c), rfl, trivial⟩
end
end Go.Proofs.Ythfnmighhoighaa.ShapeW
