/-
  Arguments of the laws on nodes, opened: nodes, acts, one act.
-/
import Derived.Test.YtdamocjbkdknaaaFleet
import Derived.ProofKit
import Derived.OpenShut
import Derived.Lib.SmallJoins
namespace Go.Proofs.Ytdamocjbkdknaaa.FleetW
open Go.ChangeShapes Go.WideShapes Go.ChangeAt Go.RowKit Go.Deep Mem Fleet
set_option linter.unusedVariables false

structure Ac where
  nd : Int
  ac : Int
  jb : Int
  nw : Int
deriving DecidableEq
def acRow (a : Ac) : List Value := [.int .i64 a.nd, .int .i64 a.ac, .int .i64 a.jb, .int .i64 a.nw]
abbrev Acs := Lst acRow 4
theorem Lst.act {w : World} {A : Option Addr} {n : Nat} {l : List Ac} (h : Acs w A n l) {i : Nat} (hi : i < n) : ∃ b off s, A = some ⟨b, off, none⟩ ∧ b < w.heap.size ∧ l[i]? = some s ∧ w.cell? ⟨b, off + i * 4, none⟩ = some (.int .i64 s.nd) ∧ w.cell? ⟨b, off + i * 4 + 1, none⟩ = some (.int .i64 s.ac) ∧ w.cell? ⟨b, off + i * 4 + 2, none⟩ = some (.int .i64 s.jb) ∧ w.cell? ⟨b, off + i * 4 + 3, none⟩ = some (.int .i64 s.nw) := by
  obtain ⟨b, off, s, hA, hb, hs, hc⟩ := h.at_ hi
  exact ⟨b, off, s, hA, hb, hs, hc 0 _ rfl, hc 1 _ rfl, hc 2 _ rfl, hc 3 _ rfl⟩
section
variable {H : Type} {enc : TypeId × Value → H} {w : World} {base : Nat} {spare : Nat → Bool} {held : Bool}
theorem open_hdr {P : Program} {t e : TypeId} {a0 : Option Addr} {len0 cap0 : Nat} {d : DataW H} {p : List MemPlace} (ht : P.underlying t = some (.slice e))
    (h : DataW.Trod enc P w base spare held t (.slice a0 len0 cap0) d p) : len0 ≤ cap0 ∧ (a0 = none → cap0 = 0) := by
  obtain ⟨fuel, hf⟩ := h
  rcases open_slice ht hf with ⟨hcs, _⟩ | ⟨a, len, cap, m, n, D, Pl, hcs, _, hl, hm, hmm, _, hi⟩
  · simp [Value.cells] at hcs
    obtain ⟨rfl, rfl, rfl⟩ := hcs
    exact ⟨Nat.le_refl _, fun _ => rfl⟩
  · simp [Value.cells] at hcs
    obtain ⟨rfl, rfl, rfl⟩ := hcs
    exact ⟨hl, fun h => by cases h⟩
/-- a slice of nodes that came in -/
structure ArgN (w : World) (A : Option Addr) (n c : Nat) (l : List Nd) : Prop where
  st : Nds w A n l
  max : n ≤ maxLen
  le : n ≤ c
  bare : A = none → c = 0
theorem open_nodes {a0 : Option Addr} {len0 cap0 : Nat} {d : DataW H} {p : List MemPlace} (h : DataW.Trod enc Try.prog w base spare held 22 (.slice a0 len0 cap0) d p) :
    ∃ l, ArgN w a0 len0 cap0 l := by
  obtain ⟨hm, rows, hrows, hf⟩ := open_rows Try.underlying22 Try.underlying48 (by kernel_rfl) (by kernel_rfl) (by decide) h
  obtain ⟨h1, h2⟩ := open_hdr Try.underlying22 h
  obtain ⟨l, rfl, _⟩ := exists_map ndRow (fun _ => True) rows (fun r hr => by
    obtain ⟨v0, v1, v2, v3, v4, v5, v6, rfl⟩ := list7 (hrows.each r hr)
    obtain ⟨u0, n0, y0, e0, t0⟩ := hf _ hr 0 _ rfl
    obtain ⟨u1, n1, y1, e1, t1⟩ := hf _ hr 1 _ rfl
    obtain ⟨u2, n2, y2, e2, t2⟩ := hf _ hr 2 _ rfl
    obtain ⟨u3, n3, y3, e3, t3⟩ := hf _ hr 3 _ rfl
    obtain ⟨u4, n4, y4, e4, t4⟩ := hf _ hr 4 _ rfl
    obtain ⟨u5, n5, y5, e5, t5⟩ := hf _ hr 5 _ rfl
    obtain ⟨u6, n6, y6, e6, t6⟩ := hf _ hr 6 _ rfl
    simp at e0 e1 e2 e3 e4 e5 e6
    subst e0 e1 e2 e3 e4 e5 e6
    obtain ⟨z0, q0, _, w0⟩ := DataW.trod_int Try.underlying3 t0
    obtain ⟨z1, q1, _, w1⟩ := DataW.trod_int Try.underlying3 t1
    obtain ⟨z2, q2, _, w2⟩ := DataW.trod_int Try.underlying3 t2
    obtain ⟨z3, q3, _⟩ := DataW.trod_bool Try.underlying4 t3
    obtain ⟨z4, q4, _, w4⟩ := DataW.trod_int Try.underlying3 t4
    obtain ⟨z5, q5, _, w5⟩ := DataW.trod_int Try.underlying3 t5
    obtain ⟨z6, q6, _, w6⟩ := DataW.trod_int Try.underlying3 t6
    simp at q0 q1 q2 q3 q4 q5 q6
    subst q0 q1 q2 q3 q4 q5 q6
    exact ⟨⟨z0, z1, z2, z3, z4, z5, z6⟩, rfl, trivial⟩)
  exact ⟨l, hrows, hm, h1, h2⟩
theorem open_acts {a0 : Option Addr} {len0 cap0 : Nat} {d : DataW H} {p : List MemPlace} (h : DataW.Trod enc Try.prog w base spare held 46 (.slice a0 len0 cap0) d p) :
    ∃ l, Acs w a0 len0 l ∧ len0 ≤ maxLen := by
  obtain ⟨hm, rows, hrows, hf⟩ := open_rows Try.underlying46 Try.underlying42 (by kernel_rfl) (by kernel_rfl) (by decide) h
  obtain ⟨l, rfl, _⟩ := exists_map acRow (fun _ => True) rows (fun r hr => by
    obtain ⟨v0, v1, v2, v3, rfl⟩ := list4 (hrows.each r hr)
    obtain ⟨u0, n0, y0, e0, t0⟩ := hf _ hr 0 _ rfl
    obtain ⟨u1, n1, y1, e1, t1⟩ := hf _ hr 1 _ rfl
    obtain ⟨u2, n2, y2, e2, t2⟩ := hf _ hr 2 _ rfl
    obtain ⟨u3, n3, y3, e3, t3⟩ := hf _ hr 3 _ rfl
    simp at e0 e1 e2 e3
    subst e0 e1 e2 e3
    obtain ⟨z0, q0, _, w0⟩ := DataW.trod_int Try.underlying3 t0
    obtain ⟨z1, q1, _, w1⟩ := DataW.trod_int Try.underlying3 t1
    obtain ⟨z2, q2, _, w2⟩ := DataW.trod_int Try.underlying3 t2
    obtain ⟨z3, q3, _, w3⟩ := DataW.trod_int Try.underlying3 t3
    simp at q0 q1 q2 q3
    subst q0 q1 q2 q3
    exact ⟨⟨z0, z1, z2, z3⟩, rfl, trivial⟩)
  exact ⟨l, hrows, hm⟩
set_option maxRecDepth 100000 in
theorem open_act {r : Reach} {b0 : Nat} {v : Value} {d : DataW H} {p : List MemPlace} (hv : Value.okWide Try.prog w r b0 42 v) (h : DataW.Trod enc Try.prog w base spare held 42 v d p) :
    ∃ a : Ac, v = .agg #[.int .i64 a.nd, .int .i64 a.ac, .int .i64 a.jb, .int .i64 a.nw] ∧ ((-9223372036854775808 ≤ a.nd ∧ a.nd ≤ 9223372036854775807) ∧ (-9223372036854775808 ≤ a.ac ∧ a.ac ≤ 9223372036854775807) ∧ (-9223372036854775808 ≤ a.jb ∧ a.jb ≤ 9223372036854775807) ∧ (-9223372036854775808 ≤ a.nw ∧ a.nw ≤ 9223372036854775807)) := by
  obtain ⟨v0, v1, v2, v3, y0, y1, y2, y3, n, rfl, _, _, t0, t1, t2, t3⟩ := Joins.open_agg4 Try.underlying42 (by kernel_rfl) (by kernel_rfl) hv h
  obtain ⟨z0, q0, _, w0⟩ := DataW.trod_int Try.underlying3 t0
  obtain ⟨z1, q1, _, w1⟩ := DataW.trod_int Try.underlying3 t1
  obtain ⟨z2, q2, _, w2⟩ := DataW.trod_int Try.underlying3 t2
  obtain ⟨z3, q3, _, w3⟩ := DataW.trod_int Try.underlying3 t3
  simp at q0 q1 q2 q3
  subst q0 q1 q2 q3
  exact ⟨⟨z0, z1, z2, z3⟩, rfl, bounds_i64 w0, bounds_i64 w1, bounds_i64 w2, bounds_i64 w3⟩
end
end Go.Proofs.Ytdamocjbkdknaaa.FleetW
