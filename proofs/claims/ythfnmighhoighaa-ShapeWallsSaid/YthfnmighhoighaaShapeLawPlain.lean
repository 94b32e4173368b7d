/-
  Plain laws of shapes: options of a shape that may be.
-/
import Derived.Test.YthfnmighhoighaaShapeRef3
namespace Go.Proofs.Ythfnmighhoighaa.ShapeW
open Go.RowKit Mem Shape
set_option linter.unusedVariables false
set_option linter.unusedSimpArgs false

theorem chk_kind {s : Sh} (h : chk s = true) (h3 : s.kd ≠ 3) : ∃ m : Nat, altB s m = true ∧ m ≤ 6 := by
  unfold chk at h
  split at h
  · exact ⟨1, h, by omega⟩
  · split at h
    · exact ⟨6, h, by omega⟩
    · first
      | cases h
      | (rw [if_neg h3] at h; cases h)
theorem altB_parts {s : Sh} {m : Nat} (h : altB s m = true) : bareB s = true ∧ 1 ≤ s.al.length ∧ s.al.length ≤ m ∧ Apart s.al ∧ ∀ a ∈ s.al, fineA a = true := by
  simp only [altB, Bool.and_eq_true, decide_eq_true_eq, apartB, List.all_eq_true] at h
  exact ⟨h.1.1.1.1, h.1.1.1.2, h.1.1.2, h.1.2, h.2⟩
theorem opt_len {s : Sh} (h : chk s = true) : 1 ≤ (optL s).length := by
  by_cases h3 : s.kd = 3
  · obtain ⟨_, h1, _⟩ := mal_facts h h3
    rw [opt_mal h h3, List.length_map, sizes_len]
    omega
  · obtain ⟨m, h1, _⟩ := chk_kind h h3
    rw [opt_al h h3]
    exact (altB_parts h1).2.1
theorem opt_fine {s : Sh} {a : Al} (h : chk s = true) (ha : a ∈ optL s) : fineA a = true := by
  by_cases h3 : s.kd = 3
  · obtain ⟨_, h1, h2, h4, h5, h6⟩ := mal_facts h h3
    rw [opt_mal h h3] at ha
    obtain ⟨n, hn, rfl⟩ := List.mem_map.1 ha
    unfold sizesL at hn
    obtain ⟨i, hi, rfl⟩ := List.mem_map.1 hn
    have := List.mem_range.1 hi
    rw [fineA_iff]
    simp only
    omega
  · obtain ⟨m, h1, _⟩ := chk_kind h h3
    rw [opt_al h h3] at ha
    exact (altB_parts h1).2.2.2.2 a ha
theorem opt_apart {s : Sh} {i k : Nat} {a b : Al} (h : chk s = true) (hik : k < i) (ha : (optL s)[i]? = some a) (hb : (optL s)[k]? = some b) : b.nd ≠ a.nd := by
  by_cases h3 : s.kd = 3
  · rw [opt_mal h h3, List.getElem?_map] at ha hb
    have f : ∀ (j : Nat) (c : Al), Option.map (fun n : Int => (⟨n, s.wl⟩ : Al)) (sizesL s.mn s.mx)[j]? = some c → c.nd = s.mx - j := by
      intro j c hc
      by_cases hj : j < (s.mx - s.mn + 1).toNat
      · rw [sizes_at hj] at hc
        simp only [Option.map_some] at hc
        injection hc with hc
        rw [← hc]
      · rw [List.getElem?_eq_none (by rw [sizes_len]; omega)] at hc
        cases hc
    have := f i a ha
    have := f k b hb
    omega
  · obtain ⟨m, h1, _⟩ := chk_kind h h3
    rw [opt_al h h3] at ha hb
    have hp := (altB_parts h1).2.2.2.1
    obtain ⟨hi, rfl⟩ := List.getElem?_eq_some_iff.1 ha
    obtain ⟨hk, rfl⟩ := List.getElem?_eq_some_iff.1 hb
    exact List.pairwise_iff_getElem.1 hp k i hk hi hik
theorem opt_one {s : Sh} {a : Al} (h : chk s = true) (ha : a ∈ optL s) : chkE ⟨1, [a], 0, 0, 0⟩ = 0 := by
  apply chkE_yes
  rw [chk_1 rfl, altB_one rfl, opt_fine h ha]
  rfl
theorem opt_allowed {s : Sh} {i : Nat} {a : Al} (ha : (optL s)[i]? = some a) : allowsB s (i : Int) a.nd = true := by
  have hi := (List.getElem?_eq_some_iff.1 ha).1
  exact allows_hit hi ha ⟨rfl, .inl rfl⟩
theorem snoc_ind {α : Type} {P : List α → Prop} (h0 : P []) (h1 : ∀ l a, P l → P (l ++ [a])) (l : List α) : P l := by
  have key : ∀ r : List α, P r.reverse := by
    intro r
    induction r with
    | nil => exact h0
    | cons a r ih => rw [List.reverse_cons]; exact h1 _ _ ih
  have := key l.reverse
  rwa [List.reverse_reverse] at this
theorem least_pos (l : List Al) : (∀ a ∈ l, 1 ≤ a.nd) → l ≠ [] → leastN l ≠ 0 := by
  refine snoc_ind (P := fun l => (∀ a ∈ l, 1 ≤ a.nd) → l ≠ [] → leastN l ≠ 0) (fun _ h => absurd rfl h) (fun m c ih hm _ => ?_) l
  rw [least_snoc]
  have := hm c (by simp)
  split
  · omega
  · rename_i q
    intro e
    exact q (.inl e)
theorem least_le (l : List Al) : (∀ a ∈ l, 1 ≤ a.nd) → ∀ a ∈ l, leastN l ≤ a.nd := by
  refine snoc_ind (P := fun l => (∀ a ∈ l, 1 ≤ a.nd) → ∀ a ∈ l, leastN l ≤ a.nd) (fun _ a ha => by simp at ha) (fun l b ih hp a ha => ?_) l
  rw [least_snoc]
  rcases List.mem_append.1 ha with h | h
  · have := ih (fun x hx => hp x (by simp [hx])) a h
    split
    · rename_i hc
      rcases hc with hc | hc
      · exact absurd hc (least_pos l (fun x hx => hp x (by simp [hx])) (by intro e; rw [e] at h; simp at h))
      · omega
    · exact this
  · simp at h
    subst h
    split <;> omega
theorem most_ge (l : List Al) : ∀ a ∈ l, a.nd ≤ mostN l := by
  refine snoc_ind (P := fun l => ∀ a ∈ l, a.nd ≤ mostN l) (fun a ha => by simp at ha) (fun l b ih a ha => ?_) l
  rw [most_snoc]
  rcases List.mem_append.1 ha with h | h
  · have := ih a h
    split <;> omega
  · simp at h
    subst h
    split <;> omega
theorem opt_least {s : Sh} {a : Al} (ha : a ∈ optL s) : leastN (optL s) ≤ a.nd := least_le _ (fun x hx => opt_pos hx) a ha
theorem opt_most {s : Sh} {a : Al} (ha : a ∈ optL s) : a.nd ≤ mostN (optL s) := most_ge _ a ha
theorem walls_chk {s : Sh} {u : Int} (h : chk s = true) (h1 : 1 ≤ u) (h2 : u ≤ 100000) : chk (wallsT s u) = true := by
  have hk : (wallsT s u).kd = s.kd := rfl
  by_cases h3 : s.kd = 3
  · rw [chk_3 (hk.trans h3)]
    rw [chk_3 h3] at h
    simp only [malB, Bool.and_eq_true, decide_eq_true_eq, fineA_iff, beq_iff_eq, wallsT, if_pos h3, List.length_map] at h ⊢
    omega
  · have key : ∀ m, altB s m = true → altB (wallsT s u) m = true := by
      intro m hm
      obtain ⟨p1, p2, p3, p4, p5⟩ := altB_parts hm
      simp only [bareB, Bool.and_eq_true, beq_iff_eq] at p1
      simp only [altB, bareB, Bool.and_eq_true, decide_eq_true_eq, apartB, List.all_eq_true, wallsT, if_neg h3, List.length_map, beq_iff_eq]
      refine ⟨⟨⟨⟨p1, p2⟩, p3⟩, ?_⟩, ?_⟩
      · rw [Apart, List.pairwise_map]
        exact p4
      · intro a ha
        obtain ⟨b, hb, rfl⟩ := List.mem_map.1 ha
        have := fineA_iff.1 (p5 b hb)
        rw [fineA_iff]
        simp only
        omega
    by_cases h4 : s.kd = 1
    · rw [chk_1 (hk.trans h4)]
      rw [chk_1 h4] at h
      exact key 1 h
    · by_cases h5 : s.kd = 2
      · rw [chk_2 (hk.trans h5)]
        rw [chk_2 h5] at h
        exact key 6 h
      · rw [chk_0 h4 h5 h3] at h
        cases h
theorem walls_opt {s : Sh} {u : Int} (h : chk s = true) (h1 : 1 ≤ u) (h2 : u ≤ 100000) : optL (wallsT s u) = (optL s).map (wallA u) := by
  have hc := walls_chk h h1 h2
  have hk : (wallsT s u).kd = s.kd := rfl
  by_cases h3 : s.kd = 3
  · rw [opt_mal hc (hk.trans h3), opt_mal h h3, List.map_map]
    simp only [wallsT, if_pos h3]
    rfl
  · rw [opt_al hc (by rw [hk]; exact h3), opt_al h h3]
    rfl
end Go.Proofs.Ythfnmighhoighaa.ShapeW
