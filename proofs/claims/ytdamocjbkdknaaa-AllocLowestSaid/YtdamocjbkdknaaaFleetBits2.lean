/-
  Sets of nodes as numbers: their members, sets apart and together. Plain.
-/
import Derived.Test.YtdamocjbkdknaaaFleetWhere
namespace Go.Proofs.Ytdamocjbkdknaaa.Fleet
open FleetW
set_option linter.unusedVariables false

theorem setB_congr {α : Type} {p q : α → Bool} : ∀ l : List α, (∀ x ∈ l, p x = q x) → setB p l = setB q l
  | [], _ => rfl
  | x :: r, h => by rw [setB, setB, h x (by simp), setB_congr r (fun y hy => h y (by simp [hy]))]
theorem setB_lt64 {α : Type} (q : α → Bool) {l : List α} (h : l.length ≤ 64) : setB q l < 2 ^ 64 := Nat.lt_of_lt_of_le (setB_lt q l) (Nat.pow_le_pow_right (by omega) h)
theorem setB_and {α : Type} {p q : α → Bool} {l : List α} (h : ∀ x ∈ l, (p x && q x) = false) : setB p l &&& setB q l = 0 := by
  apply Nat.eq_of_testBit_eq
  intro i
  rw [Nat.testBit_and, setB_bit, setB_bit, Nat.zero_testBit]
  cases hx : l[i]? with
  | none => rfl
  | some x => exact h x (List.mem_of_getElem? hx)
theorem setB_or {α : Type} {p q r : α → Bool} {l : List α} (h : ∀ x ∈ l, (p x || q x) = r x) : setB p l ||| setB q l = setB r l := by
  apply Nat.eq_of_testBit_eq
  intro i
  rw [Nat.testBit_or, setB_bit, setB_bit, setB_bit]
  cases hx : l[i]? with
  | none => rfl
  | some x => exact h x (List.mem_of_getElem? hx)
theorem setB_zero {α : Type} {q : α → Bool} {l : List α} (h : ∀ x ∈ l, q x = false) : setB q l = 0 := by
  rw [setB_congr l (q := fun _ => false) h]
  induction l with
  | nil => rfl
  | cons x r ih => rw [setB, ih (fun y hy => h y (by simp [hy]))]; rfl
/-- what is in the one and not in the other -/
def diffN (a b : Nat) : Nat := ((BitVec.ofInt 64 (a : Int)) &&& ~~~(BitVec.ofInt 64 (b : Int))).toNat
theorem bits_andNot (a b : Nat) : bits .andNot .u64 (a : Int) (b : Int) = ((diffN a b : Nat) : Int) := by
  unfold bits
  show IntKind.u64.wrap _ = _
  have e : ((BitVec.ofInt IntKind.u64.bits (a : Int)) &&& ~~~(BitVec.ofInt IntKind.u64.bits (b : Int))).toNat = diffN a b := rfl
  rw [e, wrap_u64 _ (by unfold diffN; exact BitVec.isLt _)]
theorem diffN_bit (a b i : Nat) : (diffN a b).testBit i = (decide (i < 64) && a.testBit i && !b.testBit i) := by
  unfold diffN
  rw [BitVec.testBit_toNat, BitVec.getLsbD_and, BitVec.getLsbD_not, BitVec.ofInt_natCast, BitVec.ofInt_natCast, BitVec.getLsbD_ofNat, BitVec.getLsbD_ofNat]
  by_cases h : i < 64 <;> simp [h]
theorem setB_diff {α : Type} {p q : α → Bool} {l : List α} (h : ∀ x ∈ l, p x = true → q x = true) : diffN (setB p l) (setB q l) = 0 := by
  apply Nat.eq_of_testBit_eq
  intro i
  rw [diffN_bit, setB_bit, setB_bit, Nat.zero_testBit]
  cases hx : l[i]? with
  | none => simp
  | some x =>
    have := h x (List.mem_of_getElem? hx)
    simp
    intro _ hp
    exact this hp
/-- the members of a set, in their order -/
def memL (s : Nat) : List Nat := (List.range 64).filter (fun i => s.testBit i)
def bitsL : Nat → Nat → Nat → List Nat
  | 0, _, _ => []
  | f + 1, k, s => (if s % 2 = 1 then [k] else []) ++ bitsL f (k + 1) (s / 2)
theorem bitsL_eq : ∀ (f k s : Nat), bitsL f k s = ((List.range f).filter (fun i => s.testBit i)).map (· + k)
  | 0, k, s => rfl
  | f + 1, k, s => by
    rw [bitsL, bitsL_eq f (k + 1) (s / 2), List.range_succ_eq_map, List.filter_cons]
    have e : (List.filter (fun i => s.testBit i) (List.map Nat.succ (List.range f))).map (· + k) = ((List.range f).filter (fun i => (s / 2).testBit i)).map (· + (k + 1)) := by
      rw [List.filter_map, List.map_map]
      have : ((fun i => s.testBit i) ∘ Nat.succ) = (fun i => (s / 2).testBit i) := by
        funext i
        simp [Nat.testBit_succ]
      rw [this]
      congr 1
      funext i
      simp
      omega
    rw [Nat.testBit_zero]
    by_cases h : s % 2 = 1
    · simp only [h, if_true, decide_true, List.map_cons, Nat.zero_add]
      rw [e]
      rfl
    · simp only [h, if_false, decide_false, List.nil_append]
      rw [if_neg (by simp)]
      exact e.symm
theorem bitsL_mem (s : Nat) : bitsL 64 0 s = memL s := by rw [bitsL_eq]; simp [memL]
theorem bitsL_zero : ∀ f k, bitsL f k 0 = []
  | 0, _ => rfl
  | f + 1, k => by rw [bitsL, if_neg (by simp), Nat.zero_div, bitsL_zero f (k + 1)]; rfl
theorem sel_length (q : Nd → Bool) (l : List Nd) : ∀ k, k ≤ l.length → (sel q l k).length = ((l.take k).filter q).length
  | 0, _ => rfl
  | k + 1, hk => by
    have hx := List.getElem?_eq_getElem (show k < l.length by omega)
    rw [sel_snoc hx, Mem.take_snoc_some hx, List.length_append, List.filter_append, List.length_append, sel_length q l k (by omega)]
    congr 1
    cases hq : q l[k] <;> simp [hq]
theorem sel_beyond (q : Nd → Bool) (l : List Nd) : ∀ k, l.length ≤ k → sel q l k = sel q l l.length := by
  intro k
  induction k with
  | zero => intro h; have : l.length = 0 := by omega
            rw [this]
  | succ k ih =>
    intro h
    by_cases he : l.length = k + 1
    · rw [he]
    · rw [← ih (by omega)]
      unfold sel
      rw [List.range_succ, List.filter_append]
      have : l[k]? = none := List.getElem?_eq_none (by omega)
      simp [this]
theorem memL_setB (q : Nd → Bool) (l : List Nd) (h : l.length ≤ 64) : memL (setB q l) = sel q l l.length := by
  rw [← sel_beyond q l 64 h]
  unfold memL sel
  congr 1
  funext i
  rw [setB_bit]
theorem memL_count (q : Nd → Bool) (l : List Nd) (h : l.length ≤ 64) : (memL (setB q l)).length = (l.filter q).length := by
  rw [memL_setB q l h, sel_length q l l.length (Nat.le_refl _), List.take_length]
theorem memL_len (s : Nat) : (memL s).length ≤ 64 := by
  have := List.length_filter_le (fun i => s.testBit i) (List.range 64)
  rw [List.length_range] at this
  exact this
theorem memL_up (s : Nat) : (memL s).Pairwise (· < ·) := List.pairwise_lt_range.sublist List.filter_sublist
theorem memL_lt {s i : Nat} (h : i ∈ memL s) : i < 64 := List.mem_range.1 (List.mem_filter.1 h).1
end Go.Proofs.Ytdamocjbkdknaaa.Fleet
