/-
  StorePlays: the acts, opened.
-/
import Derived.Test.YtdhnegcblnpmfaaStorePlays
import Derived.ProofKit
import Derived.OpenShut
import Derived.Lib.SmallJoins
namespace Go.Proofs.Ytdhnegcblnpmfaa.StorW
open Go.ChangeShapes Go.WideShapes Go.ChangeAt Go.RowKit Go.Deep Mem Stor

section
variable {H : Type} {enc : TypeId × Value → H} {w : World} {base : Nat} {spare : Nat → Bool} {held : Bool}
theorem open_acts {a0 : Option Addr} {len0 cap0 : Nat} {d : DataW H} {p : List MemPlace} (h : DataW.Trod enc Try.prog w base spare held 22 (.slice a0 len0 cap0) d p) :
    ∃ l, Acts w a0 len0 l ∧ len0 ≤ maxLen ∧ ∀ x ∈ l, x.t.size ≤ maxLen ∧ x.a ≤ 9223372036854775807 := by
  obtain ⟨hm, rows, hrows, hf⟩ := open_rows Try.underlying22 Try.underlying24 (by kernel_rfl) (by kernel_rfl) (by decide) h
  obtain ⟨l, rfl, hl⟩ := exists_map actRow (fun x => x.t.size ≤ maxLen ∧ x.a ≤ 9223372036854775807) rows (fun r hr => by
    obtain ⟨v0, v1, v2, v3, rfl⟩ := list4 (hrows.each r hr)
    obtain ⟨u0, n0, y0, e0, t0⟩ := hf _ hr 0 _ rfl
    obtain ⟨u1, n1, y1, e1, t1⟩ := hf _ hr 1 _ rfl
    obtain ⟨u2, n2, y2, e2, t2⟩ := hf _ hr 2 _ rfl
    obtain ⟨u3, n3, y3, e3, t3⟩ := hf _ hr 3 _ rfl
    simp at e0 e1 e2 e3
    subst e0 e1 e2 e3
    obtain ⟨z0, q0, _, w0⟩ := DataW.trod_int Try.underlying3 t0
    obtain ⟨z1, q1, _, w1⟩ := DataW.trod_int Try.underlying3 t1
    obtain ⟨z2, q2, _, w2⟩ := DataW.trod_int Try.underlying3 t2
    obtain ⟨s, q3, _, w3⟩ := DataW.trod_string Try.underlying9 t3
    simp at q0 q1 q2 q3
    subst q0 q1 q2 q3
    exact ⟨⟨z0, z1, z2, s⟩, rfl, w3, (bounds_i64 w1).2⟩)
  exact ⟨l, hrows, hm, hl⟩
set_option maxRecDepth 100000 in
theorem open_act {r : Reach} {b0 : Nat} {v : Value} {d : DataW H} {p : List MemPlace} (hv : Value.okWide Try.prog w r b0 24 v) (h : DataW.Trod enc Try.prog w base spare held 24 v d p) :
    ∃ a : Act1, v = .agg #[.int .i64 a.k, .int .i64 a.a, .int .i64 a.b, .string a.t] ∧ a.t.size ≤ maxLen := by
  obtain ⟨v0, v1, v2, v3, y0, y1, y2, y3, n, rfl, _, _, t0, t1, t2, t3⟩ := Joins.open_agg4 Try.underlying24 (by kernel_rfl) (by kernel_rfl) hv h
  obtain ⟨z0, q0, _, w0⟩ := DataW.trod_int Try.underlying3 t0
  obtain ⟨z1, q1, _, w1⟩ := DataW.trod_int Try.underlying3 t1
  obtain ⟨z2, q2, _, w2⟩ := DataW.trod_int Try.underlying3 t2
  obtain ⟨s, q3, _, w3⟩ := DataW.trod_string Try.underlying9 t3
  simp at q0 q1 q2 q3
  subst q0 q1 q2 q3
  exact ⟨⟨z0, z1, z2, s⟩, rfl, w3⟩
end
end Go.Proofs.Ytdhnegcblnpmfaa.StorW
