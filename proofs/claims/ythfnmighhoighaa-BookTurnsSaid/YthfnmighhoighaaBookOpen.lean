/-
  Arguments of the laws on reservations, opened: reservations, one of them, two numbers, numbers.
-/
import Derived.Test.YthfnmighhoighaaBookBase
import Derived.Test.YthfnmighhoighaaProfOpen
import Derived.Test.YthfnmighhoighaaSlices2
import Derived.ChangeSlices
namespace Go.Proofs.Ythfnmighhoighaa.BookW
open Go.ChangeShapes Go.WideShapes Go.ChangeAt Go.RowKit Go.Deep Mem Prof Book ProfW
set_option linter.unusedVariables false

section
variable {H : Type} {enc : TypeId × Value → H} {w : World} {base : Nat} {spare : Nat → Bool} {held : Bool}
/-- a slice of reservations that came in -/
structure ArgB (w : World) (A : Option Addr) (n c : Nat) (l : List Bk) : Prop where
  st : Bks w A n l
  max : n ≤ maxLen
  le : n ≤ c
  bare : A = none → c = 0
theorem ArgB.below {w w' : World} {A : Option Addr} {n c : Nat} {p : List Bk} (h : ArgB w A n c p) (hb : Below w.heap.size w w') : ArgB w' A n c p := ⟨h.st.below hb, h.max, h.le, h.bare⟩
theorem open_books {a0 : Option Addr} {len0 cap0 : Nat} {d : DataW H} {p : List MemPlace} (h : DataW.Trod enc Try.prog w base spare held 40 (.slice a0 len0 cap0) d p) :
    ∃ l, ArgB w a0 len0 cap0 l := by
  obtain ⟨hm, rows, hrows, hf⟩ := open_rows Try.underlying40 Try.underlying42 (by kernel_rfl) (by kernel_rfl) (by decide) h
  obtain ⟨h1, h2⟩ := open_hdr Try.underlying40 h
  obtain ⟨l, rfl, _⟩ := exists_map bkRow (fun _ => True) rows (fun r hr => by
    obtain ⟨v0, v1, v2, v3, rfl⟩ := list4 (hrows.each r hr)
    obtain ⟨u0, n0, y0, e0, t0⟩ := hf _ hr 0 _ rfl
    obtain ⟨u1, n1, y1, e1, t1⟩ := hf _ hr 1 _ rfl
    obtain ⟨u2, n2, y2, e2, t2⟩ := hf _ hr 2 _ rfl
    obtain ⟨u3, n3, y3, e3, t3⟩ := hf _ hr 3 _ rfl
    simp at e0 e1 e2 e3
    subst e0 e1 e2 e3
    obtain ⟨z0, q0, _, w0⟩ := DataW.trod_int Try.underlying3 t0
    obtain ⟨z1, q1, _, w1⟩ := DataW.trod_int Try.underlying3 t1
    obtain ⟨z2, q2, _, w2⟩ := DataW.trod_int Try.underlying3 t2
    obtain ⟨z3, q3, _, w3⟩ := DataW.trod_int Try.underlying3 t3
    simp at q0 q1 q2 q3
    subst q0 q1 q2 q3
    exact ⟨⟨z0, z1, z2, z3⟩, rfl, trivial⟩)
  exact ⟨l, hrows, hm, h1, h2⟩
set_option maxRecDepth 100000 in
theorem open_book {r : Reach} {b0 : Nat} {v : Value} {d : DataW H} {p : List MemPlace} (hv : Value.okWide Try.prog w r b0 42 v) (h : DataW.Trod enc Try.prog w base spare held 42 v d p) :
    ∃ a : Bk, v = .agg #[.int .i64 a.id, .int .i64 a.fr, .int .i64 a.to, .int .i64 a.nd] ∧ (-9223372036854775808 ≤ a.fr ∧ a.fr ≤ 9223372036854775807) := by
  obtain ⟨v0, v1, v2, v3, y0, y1, y2, y3, n, rfl, _, _, t0, t1, t2, t3⟩ := Joins.open_agg4 Try.underlying42 (by kernel_rfl) (by kernel_rfl) hv h
  obtain ⟨z0, q0, _, w0⟩ := DataW.trod_int Try.underlying3 t0
  obtain ⟨z1, q1, _, w1⟩ := DataW.trod_int Try.underlying3 t1
  obtain ⟨z2, q2, _, w2⟩ := DataW.trod_int Try.underlying3 t2
  obtain ⟨z3, q3, _, w3⟩ := DataW.trod_int Try.underlying3 t3
  simp at q0 q1 q2 q3
  subst q0 q1 q2 q3
  exact ⟨⟨z0, z1, z2, z3⟩, rfl, bounds_i64 w1⟩
theorem array_of2 {cs : Array Value} (h : cs.size = 2) : ∃ a b, cs = #[a, b] := by
  obtain ⟨l⟩ := cs
  match l, h with
  | [a, b], _ => exact ⟨a, b, rfl⟩
theorem trod_array2 {P : Program} {t e : TypeId} {fuel : Nat} {c0 c1 : Value} {x : DataW H × List MemPlace} (ht : P.underlying t = some (.array 2 e)) (hce : P.cellsOf e = 1)
    (h : DataW.trod enc P w base spare held fuel t [c0, c1] = some x) :
    ∃ y0 y1 n, DataW.trod enc P w base spare held n e [c0] = some y0 ∧ DataW.trod enc P w base spare held n e [c1] = some y1 := by
  cases fuel with
  | zero => simp [DataW.trod] at h
  | succ n =>
    unfold DataW.trod at h
    rw [ht] at h
    have r2 : List.range 2 = [0, 1] := rfl
    simp [r2, hce] at h
    obtain ⟨_, h⟩ := h
    cases h0 : DataW.trod enc P w base spare held n e [c0] with
    | none => simp [h0] at h
    | some y0 =>
      cases h1 : DataW.trod enc P w base spare held n e [c1] with
      | none => simp [h0, h1] at h
      | some y1 => exact ⟨y0, y1, n, h0, h1⟩
set_option maxRecDepth 100000 in
theorem open_two {r : Reach} {b0 : Nat} {v : Value} {d : DataW H} {p : List MemPlace} (hv : Value.okWide Try.prog w r b0 66 v) (h : DataW.Trod enc Try.prog w base spare held 66 v d p) :
    ∃ a : Stp, v = .agg #[.int .i64 a.1, .int .i64 a.2] ∧ ((-9223372036854775808 ≤ a.1 ∧ a.1 ≤ 9223372036854775807) ∧ (-9223372036854775808 ≤ a.2 ∧ a.2 ≤ 9223372036854775807)) := by
  simp only [Value.okWide, Try.underlying66] at hv
  obtain ⟨cs, rfl, h2, _⟩ := hv
  obtain ⟨v0, v1, rfl⟩ := array_of2 (h2.trans (show Try.prog.cellsOf 66 = 2 by kernel_rfl))
  obtain ⟨fuel, hf⟩ := h
  obtain ⟨y0, y1, n, t0, t1⟩ := trod_array2 Try.underlying66 (by kernel_rfl) hf
  obtain ⟨z0, q0, _, w0⟩ := DataW.trod_int Try.underlying3 t0
  obtain ⟨z1, q1, _, w1⟩ := DataW.trod_int Try.underlying3 t1
  simp at q0 q1
  subst q0 q1
  exact ⟨(z0, z1), rfl, bounds_i64 w0, bounds_i64 w1⟩
/-- a slice of ints that came in -/
theorem open_nums {a0 : Option Addr} {len0 cap0 : Nat} {d : DataW H} {p : List MemPlace} (h : DataW.Trod enc Try.prog w base spare held 43 (.slice a0 len0 cap0) d p) :
    ∃ l, Ints w a0 len0 l ∧ len0 ≤ maxLen := by
  obtain ⟨fuel, hf⟩ := h
  rcases open_ints Try.underlying43 Try.underlying3 (by kernel_rfl) hf with ⟨hcs, _⟩ | ⟨a, len, cap, zs, hcs, _, hl, hm, hz, _, hcell, hws⟩
  · simp [Value.cells] at hcs
    obtain ⟨rfl, rfl, rfl⟩ := hcs
    exact ⟨[], Lst.nil _ _ _ _, by simp [maxLen]⟩
  · simp [Value.cells] at hcs
    obtain ⟨rfl, rfl, rfl⟩ := hcs
    have hle : len0 ≤ zs.length := by rw [hz]; split <;> omega
    refine ⟨zs.take len0, ⟨by simp; omega, fun r hr => ?_, fun hn => ?_⟩, by omega⟩
    · obtain ⟨x, _, rfl⟩ := List.mem_map.1 hr
      rfl
    · obtain ⟨b, off, rfl⟩ := addr_plain (hcell 0 (by omega))
      have h0 := hcell 0 (by omega)
      rw [plain_add] at h0
      refine ⟨b, off, rfl, cell_lt h0, fun i r hr j v hv => ?_⟩
      rw [List.getElem?_map] at hr
      have hi : i < len0 := by
        rcases Nat.lt_or_ge i len0 with h' | h'
        · exact h'
        · rw [List.getElem?_eq_none (by simp; omega)] at hr; cases hr
      have := hcell i (by omega)
      rw [plain_add] at this
      rw [List.getElem?_take_of_lt hi, List.getElem?_eq_getElem (by omega)] at hr
      injection hr with hr
      subst hr
      cases j with
      | zero =>
        simp [intRow] at hv
        subst hv
        rw [Nat.mul_one, Nat.add_zero, this]
        simp [List.getD, List.getElem?_eq_getElem (show i < zs.length by omega)]
      | succ j => simp [intRow] at hv
end
end Go.Proofs.Ythfnmighhoighaa.BookW
