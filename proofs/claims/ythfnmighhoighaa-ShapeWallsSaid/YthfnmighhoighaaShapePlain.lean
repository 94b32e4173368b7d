/-
  Shapes as plain data.
-/
import Derived.Test.YthfnmighhoighaaMem
namespace Go.Proofs.Ythfnmighhoighaa.Shape
set_option linter.unusedVariables false

structure Al where
  nd : Int
  wl : Int
deriving DecidableEq
structure Sh where
  kd : Int
  al : List Al
  mn : Int
  mx : Int
  wl : Int
deriving DecidableEq
def fineA (a : Al) : Bool := decide (1 ≤ a.nd) && decide (a.nd ≤ 48) && decide (1 ≤ a.wl) && decide (a.wl ≤ 100000)
theorem fineA_iff {a : Al} : fineA a = true ↔ 1 ≤ a.nd ∧ a.nd ≤ 48 ∧ 1 ≤ a.wl ∧ a.wl ≤ 100000 := by
  simp [fineA, and_assoc]
def bareB (s : Sh) : Bool := s.mn == 0 && s.mx == 0 && s.wl == 0
abbrev Apart (l : List Al) : Prop := l.Pairwise (fun a b => a.nd ≠ b.nd)
def apartB (l : List Al) : Bool := decide (Apart l)
def altB (s : Sh) (most : Nat) : Bool := bareB s && decide (1 ≤ s.al.length) && decide (s.al.length ≤ most) && apartB s.al && s.al.all fineA
def malB (s : Sh) : Bool := s.al.length == 0 && decide (s.mn ≤ s.mx) && fineA ⟨s.mn, s.wl⟩ && decide (s.mx ≤ 48)
def chk (s : Sh) : Bool := if s.kd = 1 then altB s 1 else if s.kd = 2 then altB s 6 else if s.kd = 3 then malB s else false
def chkE (s : Sh) : Int := if chk s then 0 else 70
theorem chkE_yes {s : Sh} (h : chk s = true) : chkE s = 0 := by simp [chkE, h]
theorem chkE_no {s : Sh} (h : chk s = false) : chkE s = 70 := by simp [chkE, h]
theorem chk_1 {s : Sh} (h : s.kd = 1) : chk s = altB s 1 := by simp [chk, h]
theorem chk_2 {s : Sh} (h : s.kd = 2) : chk s = altB s 6 := by simp [chk, h]
theorem chk_3 {s : Sh} (h : s.kd = 3) : chk s = malB s := by simp [chk, h]
theorem chk_0 {s : Sh} (h1 : s.kd ≠ 1) (h2 : s.kd ≠ 2) (h3 : s.kd ≠ 3) : chk s = false := by simp [chk, h1, h2, h3]
theorem altB_one {s : Sh} {a : Al} (h : s.al = [a]) : altB s 1 = (bareB s && fineA a) := by
  simp [altB, apartB, h]
theorem altB_len {s : Sh} {m : Nat} (h : ¬ (1 ≤ s.al.length ∧ s.al.length ≤ m)) : altB s m = false := by
  unfold altB
  by_cases h1 : 1 ≤ s.al.length
  · have : ¬ s.al.length ≤ m := fun h' => h ⟨h1, h'⟩
    simp [this]
  · simp [h1]
theorem altB_bare {s : Sh} {m : Nat} (h : bareB s = false) : altB s m = false := by simp [altB, h]
theorem altB_rest {s : Sh} {m : Nat} (hb : bareB s = true) (h1 : 1 ≤ s.al.length) (h2 : s.al.length ≤ m) : altB s m = (apartB s.al && s.al.all fineA) := by
  simp [altB, hb, h1, h2]
def sizesL (mn mx : Int) : List Int := (List.range (mx - mn + 1).toNat).map (fun (i : Nat) => mx - (i : Int))
def optL (s : Sh) : List Al := if chk s = false then [] else if s.kd = 3 then (sizesL s.mn s.mx).map (fun n => ⟨n, s.wl⟩) else s.al
def leastN (l : List Al) : Int := l.foldl (fun n a => if n = 0 ∨ a.nd < n then a.nd else n) 0
def mostN (l : List Al) : Int := l.foldl (fun n a => if n < a.nd then a.nd else n) 0
def wallsT (s : Sh) (w : Int) : Sh := ⟨s.kd, s.al.map (fun a => ⟨a.nd, w⟩), s.mn, s.mx, if s.kd = 3 then w else s.wl⟩
def allowsB (s : Sh) (choice n : Int) : Bool :=
  if choice < 0 ∨ ((optL s).length : Int) ≤ choice then false else
  if s.kd = 3 then decide (s.mn ≤ n) && decide (n ≤ s.mx) else ((optL s)[choice.toNat]?.map (fun a => a.nd == n)).getD false
theorem apart_snoc {l : List Al} {k : Nat} {a : Al} (h : l[k]? = some a) : Apart (l.take (k + 1)) ↔ Apart (l.take k) ∧ ∀ b ∈ l.take k, b.nd ≠ a.nd := by
  rw [Mem.take_snoc_some h, Apart, List.pairwise_append]
  constructor
  · rintro ⟨h1, _, h2⟩
    exact ⟨h1, fun b hb => h2 b hb a (by simp)⟩
  · rintro ⟨h1, h2⟩
    refine ⟨h1, by simp, fun b hb c hc => ?_⟩
    obtain rfl : c = a := by simpa using hc
    exact h2 b hb
theorem apart_take {l : List Al} {k : Nat} (h : Apart l) : Apart (l.take k) := h.sublist (List.take_sublist _ _)
theorem len_zero {l : List Al} (h : l.length = 0) : l = [] := List.eq_nil_of_length_eq_zero h
theorem len_one {l : List Al} (h : l.length = 1) : ∃ a, l = [a] := by
  match l, h with
  | [a], _ => exact ⟨a, rfl⟩
theorem opt_few {s : Sh} : (optL s).length ≤ 48 := by
  unfold optL
  split
  · simp
  · next h =>
    split
    · next h3 =>
      have hc : chk s = true := by simpa using h
      rw [chk_3 h3] at hc
      simp only [malB, Bool.and_eq_true, decide_eq_true_eq, fineA_iff, beq_iff_eq] at hc
      simp [sizesL]
      omega
    · next h3 =>
      have hc : chk s = true := by simpa using h
      unfold chk at hc
      split at hc
      · simp [altB] at hc; omega
      · split at hc
        · simp [altB] at hc; omega
        · simp at hc
          try exact absurd hc.1 h3
end Go.Proofs.Ythfnmighhoighaa.Shape
