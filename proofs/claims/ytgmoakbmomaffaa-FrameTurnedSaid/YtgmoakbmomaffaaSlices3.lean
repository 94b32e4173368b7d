/-
  Slices of structs that the call itself has made: an element stored, a part cleared, a shorter slice of them. Nothing of the program.
-/
import Derived.Test.YtgmoakbmomaffaaSlices2
import Derived.Lib.SliceRun
namespace Go.Proofs.Ytgmoakbmomaffaa.Mem
open Go.RowKit

section
variable {α : Type} {f : α → List Value} {k : Nat} (hL : Lay f k)
include hL
/-- cells set in the own block, within its room: what the first elements read as is told anew -/
theorem sown_setCells {w : World} {base g : Nat} {n c : Nat} {l l' : List α} (h : SOwn f k w base (some ⟨g, 0, none⟩) n c l) (hl : l'.length = n) (o : Nat) (vs : List Value) (ho : o + vs.length ≤ c * k)
    (hc : ∀ j, j < n * k → (l'.flatMap f)[j]? = if o ≤ j ∧ j < o + vs.length then vs[j - o]? else (l.flatMap f)[j]?) : SOwn f k (w.setCells g o vs) base (some ⟨g, 0, none⟩) n c l' := by
  refine ⟨hl, by rw [flat_len hL, hl], h.2.le, h.2.max, fun h0 => ?_, fun e => by cases e⟩
  obtain ⟨g', hA, hb, hlt, h1, h2⟩ := h.2.room h0
  injection hA with hA
  injection hA with hA
  subst hA
  have hin : ∀ j, j < vs.length → (w.cell? ⟨g, o + j, none⟩).isSome = true := fun j hj => (h2 (o + j) (by omega)).1
  have key : ∀ j, (w.setCells g o vs).cell? ⟨g, j, none⟩ = if o ≤ j ∧ j < o + vs.length then vs[j - o]? else w.cell? ⟨g, j, none⟩ := by
    intro j
    by_cases hj : o ≤ j ∧ j < o + vs.length
    · rw [if_pos hj]
      have := World.cell?_setCells_in g vs o w hin (j - o) (by omega)
      rw [show o + (j - o) = j by omega] at this
      rw [this, List.getElem?_eq_getElem (by omega)]
    · rw [if_neg hj, World.cell?_setCells_out g vs o w ⟨g, j, none⟩ (fun _ _ => by simp only; omega)]
  refine ⟨g, rfl, hb, by rw [size_setCells]; exact hlt, fun j hj => ?_, fun j hj => ⟨?_, by rw [World.frozen?_setCells]; exact (h2 j hj).2⟩⟩
  · rw [key, hc j hj]
    split
    · rfl
    · exact h1 j hj
  · rw [key]
    split
    · rw [List.getElem?_eq_getElem (by omega)]; rfl
    · exact (h2 j hj).1
theorem flat_set : ∀ (l : List α) (i : Nat) (x : α), i < l.length → ∀ j, ((l.set i x).flatMap f)[j]? = if i * k ≤ j ∧ j < i * k + k then (f x)[j - i * k]? else (l.flatMap f)[j]? := by
  intro l
  induction l with
  | nil => intro i x h; simp at h
  | cons y r ih =>
    intro i x h j
    cases i with
    | zero =>
      rw [List.set_cons_zero, List.flatMap_cons, List.flatMap_cons, Nat.zero_mul]
      by_cases hj : j < k
      · rw [if_pos ⟨by omega, by omega⟩, List.getElem?_append_left (by rw [hL.len]; exact hj), Nat.sub_zero]
      · rw [if_neg (by omega), List.getElem?_append_right (by rw [hL.len]; omega), List.getElem?_append_right (by rw [hL.len]; omega), hL.len, hL.len]
    | succ i =>
      rw [List.set_cons_succ, List.flatMap_cons, List.flatMap_cons, Nat.add_mul, Nat.one_mul]
      by_cases hj : j < k
      · rw [if_neg (by omega), List.getElem?_append_left (by rw [hL.len]; exact hj), List.getElem?_append_left (by rw [hL.len]; exact hj)]
      · rw [List.getElem?_append_right (by rw [hL.len]; omega), List.getElem?_append_right (by rw [hL.len]; omega), hL.len, ih i x (by simpa using h)]
        by_cases hq : i * k ≤ j - k ∧ j - k < i * k + k
        · rw [if_pos hq, if_pos (by omega)]
          congr 1
          omega
        · rw [if_neg hq, if_neg (by omega)]
/-- an element stored -/
theorem sown_set {w : World} {base g : Nat} {n c : Nat} {l : List α} (h : SOwn f k w base (some ⟨g, 0, none⟩) n c l) (i : Nat) (hi : i < n) (x : α) : SOwn f k (w.setCells g (i * k) (f x)) base (some ⟨g, 0, none⟩) n c (l.set i x) := by
  have hle := h.2.le
  have h1 : (i + 1) * k ≤ c * k := Nat.mul_le_mul_right k (by omega)
  rw [Nat.add_mul, Nat.one_mul] at h1
  refine sown_setCells hL h (by rw [List.length_set]; exact h.1) (i * k) (f x) (by rw [hL.len]; exact h1) (fun j _ => ?_)
  rw [flat_set hL l i x (by rw [h.1]; exact hi) j, hL.len]
/-- fewer of them -/
theorem sown_take {w : World} {base : Nat} {A : Option Addr} {n c : Nat} {l : List α} (h : SOwn f k w base A n c l) (i : Nat) (hi : i ≤ n) : SOwn f k w base A i c (l.take i) := by
  have hlen : (l.take i).length = i := by rw [List.length_take, h.1]; omega
  have hk := Nat.mul_le_mul_right k hi
  refine ⟨hlen, by rw [flat_len hL, hlen], Nat.le_trans hi h.2.le, h.2.max, fun h0 => ?_, h.2.bare⟩
  obtain ⟨g, hA, hb, hlt, h1, h2⟩ := h.2.room h0
  refine ⟨g, hA, hb, hlt, fun j hj => ?_, h2⟩
  rw [h1 j (by omega)]
  have e : l.flatMap f = (l.take i).flatMap f ++ (l.drop i).flatMap f := by rw [← List.flatMap_append, List.take_append_drop]
  rw [e, List.getElem?_append_left (by rw [flat_len hL, hlen]; exact hj)]
/-- the cells from the i-th element on set: the elements ahead stay -/
theorem sown_tail {w : World} {base g : Nat} {n c : Nat} {l : List α} (h : SOwn f k w base (some ⟨g, 0, none⟩) n c l) (i : Nat) (hi : i ≤ n) (vs : List Value) (hv : vs.length = (n - i) * k) : SOwn f k (w.setCells g (i * k) vs) base (some ⟨g, 0, none⟩) i c (l.take i) := by
  have hle := h.2.le
  have e : i * k + (n - i) * k = n * k := by rw [← Nat.add_mul]; congr 1; omega
  have h1 : n * k ≤ c * k := Nat.mul_le_mul_right k hle
  refine sown_setCells hL (sown_take hL h i hi) (by rw [List.length_take, h.1]; omega) (i * k) vs (by omega) (fun j hj => ?_)
  rw [if_neg (by omega)]
end
/-- 'clear' of a slice of structs -/
theorem run_clear_row {P : Program} (w : World) (t e ty : TypeId) (z : Value) (ht : P.underlying t = some (.slice e)) (hv : ∀ w, (zeroValue e).run P w = .ok z w) (b o n c : Nat) (hn : 0 < n) (h1 : ∀ v ∈ (Builtin.zeroCells z.cells n).toList, v.oneCell' = true)
    (hc : ∀ j, j < (Builtin.zeroCells z.cells n).size → (w.cell? ⟨b, o + j, none⟩).isSome = true) (hf : ∀ j, j < (Builtin.zeroCells z.cells n).size → w.frozen? ⟨b, o + j, none⟩ = false) :
    (Builtin.clear_ #[t] ty #[.slice (some ⟨b, o, none⟩) n c]).run P w = .ok (.tuple #[]) (w.setCells b o (Builtin.zeroCells z.cells n).toList) := by
  have hst := run_storeCells_cells (P := P) b o (Builtin.zeroCells z.cells n).toList 0 w (by simpa using hc) (by simpa using hf) h1
  simp only [Nat.add_zero] at hst
  obtain ⟨m, rfl⟩ : ∃ m, n = m + 1 := ⟨n - 1, by omega⟩
  simp [Builtin.clear_, run_underlying ht, hv, hst]
theorem mem_zeroCells {cs : Array Value} {n : Nat} {v : Value} (h : v ∈ (Builtin.zeroCells cs n).toList) (hcs : ∀ u ∈ cs.toList, u.oneCell' = true) : v.oneCell' = true := by
  simp only [Builtin.zeroCells, Array.toList_map, Array.toList_range, List.mem_map, List.mem_range] at h
  obtain ⟨i, hi, rfl⟩ := h
  have h0 : 0 < cs.size := by
    rcases Nat.eq_zero_or_pos cs.size with h | h
    · rw [h] at hi; simp at hi
    · exact h
  have hm := Nat.mod_lt i h0
  rw [getElem!_pos cs _ hm]
  exact hcs _ (by simp)
end Go.Proofs.Ytgmoakbmomaffaa.Mem
