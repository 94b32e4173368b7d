/-
  Sets of nodes as numbers: plain facts on bits, and the model's operations on them.
-/
import Derived.Test.YtdamocjbkdknaaaFleetPlain
namespace Go.Proofs.Ytdamocjbkdknaaa.Fleet
set_option linter.unusedVariables false

/-- the number whose k-th bit says q of the k-th -/
def setB {α : Type} (q : α → Bool) : List α → Nat
  | [] => 0
  | x :: r => (q x).toNat + 2 * setB q r
theorem setB_lt {α : Type} (q : α → Bool) : ∀ l : List α, setB q l < 2 ^ l.length
  | [] => by simp [setB]
  | x :: r => by
    have := setB_lt q r
    simp only [setB, List.length_cons, Nat.pow_succ]
    cases q x <;> simp <;> omega
theorem setB_snoc {α : Type} (q : α → Bool) (x : α) : ∀ l : List α, setB q (l ++ [x]) = setB q l + (q x).toNat * 2 ^ l.length
  | [] => by simp [setB]
  | y :: r => by
    have ih := setB_snoc q x r
    simp only [List.cons_append, setB, ih, List.length_cons, Nat.pow_succ, Nat.mul_add, Nat.add_assoc]
    congr 2
    rw [← Nat.mul_assoc, Nat.mul_comm 2, Nat.mul_assoc, Nat.mul_comm 2]
theorem setB_bit {α : Type} (q : α → Bool) : ∀ (l : List α) (i : Nat), (setB q l).testBit i = (l[i]?.map q).getD false
  | [], i => by simp [setB]
  | x :: r, 0 => by
    simp only [setB, Nat.testBit_zero, List.getElem?_cons_zero, Option.map_some, Option.getD_some]
    cases q x <;> simp <;> omega
  | x :: r, i + 1 => by
    have e : ((q x).toNat + 2 * setB q r) / 2 = setB q r := by cases q x <;> simp <;> omega
    rw [setB, Nat.testBit_succ, e, setB_bit q r i]
    simp
theorem setB_take {α : Type} {q : α → Bool} {l : List α} {k : Nat} {x : α} (h : l[k]? = some x) : setB q (l.take (k + 1)) = setB q (l.take k) + (q x).toNat * 2 ^ k := by
  have hk := (List.getElem?_eq_some_iff.1 h).1
  rw [Mem.take_snoc_some h, setB_snoc]
  congr 2
  rw [List.length_take]
  congr 1
  omega

theorem bv_nat (a : Nat) (h : a < 2 ^ 64) : (BitVec.ofInt 64 (a : Int)).toNat = a := by
  rw [BitVec.toNat_ofInt]
  have : ((a : Int) % ((2 ^ 64 : Nat) : Int)) = (a : Int) := Int.emod_eq_of_lt (by omega) (by exact_mod_cast h)
  rw [this]
  simp
theorem wrap_u64 (n : Nat) (h : n < 2 ^ 64) : IntKind.u64.wrap (n : Int) = (n : Int) := by
  simp only [IntKind.wrap]
  simp [IntKind.signed, IntKind.bits]
  omega
theorem bits_and (a b : Nat) (ha : a < 2 ^ 64) (hb : b < 2 ^ 64) : bits .and .u64 (a : Int) (b : Int) = ((a &&& b : Nat) : Int) := by
  unfold bits
  show IntKind.u64.wrap _ = _
  have e : ((BitVec.ofInt IntKind.u64.bits (a : Int)) &&& (BitVec.ofInt IntKind.u64.bits (b : Int))).toNat = a &&& b := by
    show ((BitVec.ofInt 64 (a : Int)) &&& (BitVec.ofInt 64 (b : Int))).toNat = a &&& b
    rw [BitVec.toNat_and, bv_nat a ha, bv_nat b hb]
  rw [e, wrap_u64 _ (Nat.lt_of_le_of_lt Nat.and_le_left ha)]
theorem bits_or (a b : Nat) (ha : a < 2 ^ 64) (hb : b < 2 ^ 64) : bits .or .u64 (a : Int) (b : Int) = ((a ||| b : Nat) : Int) := by
  unfold bits
  show IntKind.u64.wrap _ = _
  have e : ((BitVec.ofInt IntKind.u64.bits (a : Int)) ||| (BitVec.ofInt IntKind.u64.bits (b : Int))).toNat = a ||| b := by
    show ((BitVec.ofInt 64 (a : Int)) ||| (BitVec.ofInt 64 (b : Int))).toNat = a ||| b
    rw [BitVec.toNat_or, bv_nat a ha, bv_nat b hb]
  rw [e, wrap_u64 _ (Nat.or_lt_two_pow ha hb)]
end Go.Proofs.Ytdamocjbkdknaaa.Fleet
