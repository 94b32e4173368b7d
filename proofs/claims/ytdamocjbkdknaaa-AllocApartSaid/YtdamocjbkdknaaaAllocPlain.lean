/-
  Sets as sorted members: the least of them, one after the other. Plain.
-/
import Derived.Test.YtdamocjbkdknaaaAllocPop
namespace Go.Proofs.Ytdamocjbkdknaaa.Fleet
open FleetW
set_option linter.unusedVariables false

theorem setM_bit_aux : ∀ (n : Nat) (m : List Nat) (i : Nat), m.length = n → m.Pairwise (· < ·) → (setM m).testBit i = decide (i ∈ m) := by
  intro n
  induction n with
  | zero =>
    intro m i hl _
    have : m = [] := List.eq_nil_of_length_eq_zero hl
    subst this
    simp [setM]
  | succ n ih =>
    intro m i hl hp
    rcases List.eq_nil_or_concat m with rfl | ⟨m', k, rfl⟩
    · simp at hl
    · simp only [List.concat_eq_append] at *
      rw [List.pairwise_append] at hp
      have h1 := ih m' i (by simpa using hl) hp.1
      have hlt := setM_lt m' k hp.1 (fun x hx => hp.2.2 x hx k (by simp))
      rw [setM_snoc, ← or_new hlt, Nat.testBit_or, h1, Nat.testBit_two_pow]
      simp [eq_comm]
theorem setM_bit (m : List Nat) (i : Nat) (hp : m.Pairwise (· < ·)) : (setM m).testBit i = decide (i ∈ m) := setM_bit_aux _ m i rfl hp
theorem mem_memL {s i : Nat} : i ∈ memL s ↔ i < 64 ∧ s.testBit i = true := by simp [memL]
theorem setM_memL {s : Nat} (h : s < 2 ^ 64) : setM (memL s) = s := by
  apply Nat.eq_of_testBit_eq
  intro i
  rw [setM_bit _ _ (memL_up s)]
  by_cases hi : i < 64
  · cases hb : s.testBit i
    · rw [decide_eq_false_iff_not, mem_memL]; simp [hb]
    · rw [decide_eq_true_iff, mem_memL]; exact ⟨hi, hb⟩
  · have : s.testBit i = false := Nat.testBit_lt_two_pow (Nat.lt_of_lt_of_le h (Nat.pow_le_pow_right (by omega) (by omega)))
    rw [this, decide_eq_false_iff_not, mem_memL]
    omega
theorem memL_setM {m : List Nat} (hp : m.Pairwise (· < ·)) (hm : ∀ x ∈ m, x < 64) : memL (setM m) = m := by
  have hl := memL_up (setM m)
  have hmem : ∀ i, i ∈ memL (setM m) ↔ i ∈ m := fun i => by
    rw [mem_memL, setM_bit m i hp, decide_eq_true_iff]
    exact ⟨fun h => h.2, fun h => ⟨hm i h, h⟩⟩
  exact sorted_ext hl hp hmem
where
  sorted_ext : ∀ {a b : List Nat}, a.Pairwise (· < ·) → b.Pairwise (· < ·) → (∀ i, i ∈ a ↔ i ∈ b) → a = b
    | [], [], _, _, _ => rfl
    | [], y :: b, _, _, h => by have := (h y).2 (by simp); simp at this
    | x :: a, [], _, _, h => by have := (h x).1 (by simp); simp at this
    | x :: a, y :: b, ha, hb, h => by
      obtain ⟨a1, a2⟩ := List.pairwise_cons.1 ha
      obtain ⟨b1, b2⟩ := List.pairwise_cons.1 hb
      have hxy : x = y := by
        rcases List.mem_cons.1 ((h x).1 (by simp)) with e | e
        · exact e
        · rcases List.mem_cons.1 ((h y).2 (by simp)) with e' | e'
          · exact e'.symm
          · have := b1 x e; have := a1 y e'; omega
      subst hxy
      congr 1
      refine sorted_ext a2 b2 fun i => ?_
      constructor
      · intro hi
        rcases List.mem_cons.1 ((h i).1 (by simp [hi])) with e | e
        · subst e; have := a1 i hi; omega
        · exact e
      · intro hi
        rcases List.mem_cons.1 ((h i).2 (by simp [hi])) with e | e
        · subst e; have := b1 i hi; omega
        · exact e
theorem setM_cons (p : Nat) (r : List Nat) : setM (p :: r) = 2 ^ p + setM r := by simp [setM]
theorem setM_high : ∀ (r : List Nat) (p : Nat), (∀ x ∈ r, p < x) → ∃ q, setM r = 2 ^ (p + 1) * q
  | [], p, _ => ⟨0, by simp [setM]⟩
  | x :: r, p, h => by
    obtain ⟨q, hq⟩ := setM_high r p (fun y hy => h y (by simp [hy]))
    have hx := h x (by simp)
    refine ⟨2 ^ (x - (p + 1)) + q, ?_⟩
    rw [setM_cons, hq, Nat.mul_add, ← Nat.pow_add]
    congr 2
    omega
/-- the least member struck -/
theorem clear_low {p : Nat} {r : List Nat} (h : ∀ x ∈ r, p < x) : setM (p :: r) &&& (setM (p :: r) - 1) = setM r := by
  obtain ⟨q, hq⟩ := setM_high r p h
  have hp := Nat.two_pow_pos p
  rw [setM_cons, hq]
  have e1 : 2 ^ p + 2 ^ (p + 1) * q = 2 ^ (p + 1) * q + 2 ^ p := by omega
  have e2 : 2 ^ p + 2 ^ (p + 1) * q - 1 = 2 ^ (p + 1) * q + (2 ^ p - 1) := by omega
  have l1 : 2 ^ p < 2 ^ (p + 1) := by rw [Nat.pow_succ]; omega
  have l2 : 2 ^ p - 1 < 2 ^ (p + 1) := by omega
  rw [e2, e1]
  apply Nat.eq_of_testBit_eq
  intro i
  have e3 : 2 ^ (p + 1) * q = 2 ^ (p + 1) * q + 0 := rfl
  rw [Nat.testBit_and, Nat.testBit_two_pow_mul_add _ l1, Nat.testBit_two_pow_mul_add _ l2]
  conv => rhs; rw [e3, Nat.testBit_two_pow_mul_add _ (Nat.two_pow_pos _)]
  split
  · rw [Nat.testBit_two_pow, Nat.testBit_two_pow_sub_one, Nat.zero_testBit]
    by_cases hi : p = i
    · subst hi; simp
    · simp [hi]
  · rw [Bool.and_self]
theorem diff_take {m : List Nat} (hp : m.Pairwise (· < ·)) (hm : ∀ x ∈ m, x < 64) (n : Nat) : diffN (setM m) (setM (m.drop n)) = setM (m.take n) := by
  apply Nat.eq_of_testBit_eq
  intro i
  have hpd : (m.drop n).Pairwise (· < ·) := hp.sublist (List.drop_sublist _ _)
  have hpt : (m.take n).Pairwise (· < ·) := hp.sublist (List.take_sublist _ _)
  rw [diffN_bit, setM_bit _ _ hp, setM_bit _ _ hpd, setM_bit _ _ hpt]
  have hnd : m.Nodup := hp.imp (fun h => by omega)
  rw [Bool.eq_iff_iff]
  simp only [Bool.and_eq_true, decide_eq_true_eq, Bool.not_eq_true', decide_eq_false_iff_not]
  have hsplit := List.take_append_drop n m
  rw [← hsplit] at hnd
  have hdis := List.nodup_append.1 hnd
  constructor
  · rintro ⟨⟨_, h1⟩, h2⟩
    rw [← hsplit] at h1
    rcases List.mem_append.1 h1 with h | h
    · exact h
    · exact absurd h h2
  · intro h
    have hin : i ∈ m := List.mem_of_mem_take h
    refine ⟨⟨hm i hin, hin⟩, fun h' => ?_⟩
    exact hdis.2.2 i h i h' rfl
end Go.Proofs.Ytdamocjbkdknaaa.Fleet
