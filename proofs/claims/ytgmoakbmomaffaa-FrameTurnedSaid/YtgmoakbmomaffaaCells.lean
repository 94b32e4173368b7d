/-
  Arguments that are slices of structs, opened to cells: for each element the list of its cells, and each field's own reading. Nothing of the program.
-/
import Derived.Test.YtgmoakbmomaffaaOpen
import Derived.Deep.Slices
import Derived.Deep.Fields
import Derived.ChangeSame
namespace Go.Proofs.Ytgmoakbmomaffaa.Mem
open Go.ChangeShapes Go.WideShapes Go.RowKit Go.Deep

theorem exists_list {α : Type} (p : Nat → α → Prop) : ∀ n, (∀ i, i < n → ∃ x, p i x) → ∃ l : List α, l.length = n ∧ ∀ i x, l[i]? = some x → p i x
  | 0, _ => ⟨[], rfl, fun i x h => by simp at h⟩
  | n + 1, h => by
    obtain ⟨l, hl, hp⟩ := exists_list p n (fun i hi => h i (by omega))
    obtain ⟨x, hx⟩ := h n (by omega)
    refine ⟨l ++ [x], by simp [hl], fun i y hy => ?_⟩
    by_cases hi : i < l.length
    · rw [List.getElem?_append_left hi] at hy
      exact hp i y hy
    · have hlt := (List.getElem?_eq_some_iff.1 hy).1
      simp at hlt
      obtain rfl : i = l.length := by omega
      rw [List.getElem?_append_right (Nat.le_refl _), Nat.sub_self] at hy
      injection hy with hy
      subst hy
      rw [hl]
      exact hx

/-- a slice of n elements of k cells each: where it lies, and what lies there -/
structure Cells (w : World) (A : Option Addr) (n k : Nat) (rows : List (List Value)) : Prop where
  len : rows.length = n
  each : ∀ r ∈ rows, r.length = k
  at_ : 0 < n → ∃ b off, A = some ⟨b, off, none⟩ ∧ b < w.heap.size ∧ ∀ i r, rows[i]? = some r → ∀ j v, r[j]? = some v → w.cell? ⟨b, off + i * k + j, none⟩ = some v

section
variable {H : Type} {enc : TypeId × Value → H} {P : Program} {w : World} {base : Nat} {spare : Nat → Bool} {held : Bool}
theorem open_rows {t e : TypeId} {fs : Array Field} {a0 : Option Addr} {len0 cap0 : Nat} {d : DataW H} {p : List MemPlace} (ht : P.underlying t = some (.slice e)) (he : P.underlying e = some (.struct fs)) (hone : oneCellFields P fs = true) (hC : P.cellsOf e = fs.size) (h0 : 0 < fs.size)
    (h : DataW.Trod enc P w base spare held t (.slice a0 len0 cap0) d p) :
    len0 ≤ maxLen ∧ ∃ rows, Cells w a0 len0 fs.size rows ∧ ∀ r ∈ rows, ∀ (j : Nat) (f : Field), fs[j]? = some f → ∃ v n y, r[j]? = some v ∧ DataW.trod enc P w base spare held n f.type [v] = some y := by
  obtain ⟨fuel, hf⟩ := h
  rcases open_slice ht hf with ⟨hcs, _⟩ | ⟨a, len, cap, m, n, D, Pl, hcs, _, hl, hm, hmm, _, hi⟩
  · simp [Value.cells] at hcs
    obtain ⟨rfl, rfl, rfl⟩ := hcs
    exact ⟨by simp [maxLen], [], ⟨rfl, by simp, fun h => absurd h (by omega)⟩, by simp⟩
  · simp [Value.cells] at hcs
    obtain ⟨rfl, rfl, rfl⟩ := hcs
    have hle : len0 ≤ m := by rw [hmm]; split <;> omega
    have key : ∀ i, i < len0 → ∃ r : List Value, r.length = fs.size ∧ (∀ j v, r[j]? = some v → w.cell? (a.add (i * fs.size + j)) = some v) ∧ ∀ (j : Nat) (f : Field), fs[j]? = some f → ∃ v n y, r[j]? = some v ∧ DataW.trod enc P w base spare held n f.type [v] = some y := by
      intro i hlt
      obtain ⟨cs', hc, ht'⟩ := hi i (by omega)
      rw [hC] at hc
      obtain ⟨_, hcl, hat⟩ := World.cells?_some hc
      obtain ⟨ys, n', _, _, _, hyl, hfl⟩ := DataW.trod_struct he ht'
      refine ⟨cs', hcl, fun j v hv => ?_, fun j f hj => ?_⟩
      · have hj : j < fs.size := by rw [← hcl]; exact (List.getElem?_eq_some_iff.1 hv).1
        rw [← add_add, hat j hj, hv]
      · obtain ⟨ho, hk⟩ := hone_of hone j f hj
        have hjl : j < fs.size := (Array.getElem?_eq_some_iff.1 hj).1
        have h1 := hfl j f hj
        rw [ho, hk, List.drop_eq_getElem_cons (by omega), List.take_succ_cons, List.take_zero, List.getElem?_eq_getElem (by omega)] at h1
        exact ⟨_, n', _, List.getElem?_eq_getElem (by omega), h1⟩
    obtain ⟨rows, hrl, hrows⟩ := exists_list _ len0 key
    refine ⟨by omega, rows, ⟨hrl, fun r hr => ?_, fun hn => ?_⟩, fun r hr => ?_⟩
    · obtain ⟨i, hi⟩ := List.mem_iff_getElem?.1 hr
      exact (hrows i r hi).1
    · obtain ⟨r, hr⟩ : ∃ r, rows[0]? = some r := ⟨_, List.getElem?_eq_getElem (by omega)⟩
      obtain ⟨g1, g2, _⟩ := hrows 0 r hr
      have h00 := g2 0 _ (List.getElem?_eq_getElem (show 0 < r.length by omega))
      rw [Nat.zero_mul, Nat.zero_add] at h00
      obtain ⟨b, off, rfl⟩ := addr_plain h00
      rw [plain_add] at h00
      refine ⟨b, off, rfl, cell_lt h00, fun i r hr j v hv => ?_⟩
      have := (hrows i r hr).2.1 j v hv
      rw [plain_add, ← Nat.add_assoc] at this
      exact this
    · obtain ⟨i, hi⟩ := List.mem_iff_getElem?.1 hr
      exact (hrows i r hi).2.2
end
theorem Cells.below {w w' : World} {A : Option Addr} {n k : Nat} {rows : List (List Value)} (h : Cells w A n k rows) (hb : Below w.heap.size w w') : Cells w' A n k rows := by
  refine ⟨h.len, h.each, fun hn => ?_⟩
  obtain ⟨b, off, hA, hlt, hc⟩ := h.at_ hn
  exact ⟨b, off, hA, Nat.lt_of_lt_of_le hlt hb.size, fun i r hr j v hv => (hb.cell (p := ⟨b, off + i * k + j, none⟩) hlt).trans (hc i r hr j v hv)⟩
theorem exists_map {α β : Type} (f : α → β) (Q : α → Prop) : ∀ rows : List β, (∀ r ∈ rows, ∃ x, r = f x ∧ Q x) → ∃ l : List α, rows = l.map f ∧ ∀ x ∈ l, Q x
  | [], _ => ⟨[], rfl, by simp⟩
  | r :: rs, h => by
    obtain ⟨x, hx, hq⟩ := h r (by simp)
    obtain ⟨l, hl, hQ⟩ := exists_map f Q rs (fun y hy => h y (by simp [hy]))
    exact ⟨x :: l, by simp [hx, hl], by simpa using ⟨hq, hQ⟩⟩
theorem take_all {α : Type} {P : α → Prop} {l : List α} {k : Nat} {y : α} (h : ∀ x ∈ l.take k, P x) (hy : l[k]? = some y) (hp : P y) : ∀ x ∈ l.take (k + 1), P x := by
  rw [take_snoc_some hy]
  intro x hx
  rcases List.mem_append.1 hx with hx | hx
  · exact h x hx
  · simp at hx; subst hx; exact hp
theorem list2 {α : Type} {r : List α} (h : r.length = 2) : ∃ a b, r = [a, b] := by match r, h with | [a, b], _ => exact ⟨a, b, rfl⟩
theorem list4 {α : Type} {r : List α} (h : r.length = 4) : ∃ a b c d, r = [a, b, c, d] := by match r, h with | [a, b, c, d], _ => exact ⟨a, b, c, d, rfl⟩
theorem list7 {α : Type} {r : List α} (h : r.length = 7) : ∃ a b c d e f g, r = [a, b, c, d, e, f, g] := by match r, h with | [a, b, c, d, e, f, g], _ => exact ⟨a, b, c, d, e, f, g, rfl⟩

/-- a slice of structs, each of them a datum's cells -/
def Lst {α : Type} (f : α → List Value) (k : Nat) (w : World) (A : Option Addr) (n : Nat) (l : List α) : Prop := Cells w A n k (l.map f)
section
variable {α : Type} {f : α → List Value} {k : Nat} {w w' : World} {A : Option Addr} {n : Nat} {l : List α}
theorem Lst.len (h : Lst f k w A n l) : l.length = n := by have := Cells.len h; simpa using this
theorem Lst.below (h : Lst f k w A n l) (hb : Below w.heap.size w w') : Lst f k w' A n l := Cells.below h hb
theorem Lst.at_ (h : Lst f k w A n l) {i : Nat} (hi : i < n) : ∃ b off x, A = some ⟨b, off, none⟩ ∧ b < w.heap.size ∧ l[i]? = some x ∧ ∀ j v, (f x)[j]? = some v → w.cell? ⟨b, off + i * k + j, none⟩ = some v := by
  obtain ⟨b, off, e, hlt, hc⟩ := Cells.at_ h (by omega)
  have hl := h.len
  refine ⟨b, off, l[i]'(by omega), e, hlt, List.getElem?_eq_getElem (by omega), fun j v hv => ?_⟩
  exact hc i _ (by rw [List.getElem?_map, List.getElem?_eq_getElem (by omega)]; rfl) j v hv
theorem Lst.nil (f : α → List Value) (k : Nat) (w : World) (A : Option Addr) : Lst f k w A 0 [] := ⟨rfl, by simp, fun h => absurd h (by omega)⟩
end
end Go.Proofs.Ytgmoakbmomaffaa.Mem
