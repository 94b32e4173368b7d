/-
  Plain words on numbers and texts as bytes (no program in sight): big-endian bytes, texts behind their lengths, and that laying and taking undo each other.
-/
namespace Go.Proofs.Ytgmoakbmomaffaa.Pack

/-- the lowest w bytes of a number, the highest first -/
def be : Nat → Nat → List UInt8
  | 0, _ => []
  | w + 1, n => be w (n / 256) ++ [UInt8.ofNat n]
/-- the number of some bytes, the highest first -/
def num : List UInt8 → Nat
  | [] => 0
  | c :: l => c.toNat * 256 ^ l.length + num l

theorem be_length (w n : Nat) : (be w n).length = w := by
  induction w generalizing n with
  | zero => rfl
  | succ w ih => simp [be, ih]
theorem be_cons (w n : Nat) : be (w + 1) n = UInt8.ofNat (n / 256 ^ w) :: be w n := by
  induction w generalizing n with
  | zero => simp [be]
  | succ w ih =>
    rw [be, ih (n / 256), be]
    simp [Nat.div_div_eq_div_mul, Nat.pow_succ, Nat.mul_comm]
theorem be_mod (w n : Nat) : be w n = be w (n % 256 ^ w) := by
  induction w generalizing n with
  | zero => rfl
  | succ w ih =>
    rw [be, be]
    have e1 : n % 256 ^ (w + 1) / 256 = n / 256 % 256 ^ w := by
      rw [Nat.pow_succ, Nat.mul_comm, Nat.mod_mul_right_div_self]
    have e2 : UInt8.ofNat (n % 256 ^ (w + 1)) = UInt8.ofNat n := by
      apply UInt8.toNat_inj.1
      simp only [UInt8.toNat_ofNat']
      rw [Nat.pow_succ, Nat.mul_comm]
      exact Nat.mod_mul_right_mod n 256 _
    rw [e1, e2, ← ih]
theorem num_snoc (l : List UInt8) (c : UInt8) : num (l ++ [c]) = num l * 256 + c.toNat := by
  induction l with
  | nil => simp [num]
  | cons d l ih =>
    simp only [List.cons_append, num, ih, List.length_append, List.length_singleton, Nat.pow_succ, Nat.add_mul, Nat.mul_assoc]
    omega
theorem num_lt (l : List UInt8) : num l < 256 ^ l.length := by
  induction l with
  | nil => simp [num]
  | cons d l ih =>
    simp only [num, List.length_cons, Nat.pow_succ]
    have hd := d.toNat_lt
    have : d.toNat * 256 ^ l.length ≤ 255 * 256 ^ l.length := Nat.mul_le_mul_right _ (by omega)
    omega
theorem num_be (w n : Nat) (h : n < 256 ^ w) : num (be w n) = n := by
  induction w generalizing n with
  | zero => simp at h; simp [be, num, h]
  | succ w ih =>
    rw [be, num_snoc, ih (n / 256) (by rw [Nat.pow_succ] at h; omega)]
    have : (UInt8.ofNat n).toNat = n % 256 := by simp
    omega
theorem be_num (l : List UInt8) : be l.length (num l) = l := by
  induction l with
  | nil => rfl
  | cons d l ih =>
    have hl := num_lt l
    have hd := d.toNat_lt
    rw [List.length_cons, be_cons, num]
    have e1 : (d.toNat * 256 ^ l.length + num l) / 256 ^ l.length = d.toNat := by
      rw [Nat.mul_comm, Nat.mul_add_div (Nat.pos_of_ne_zero (by simp)), Nat.div_eq_of_lt hl, Nat.add_zero]
    rw [e1, be_mod, Nat.mul_comm, Nat.mul_add_mod, Nat.mod_eq_of_lt hl, ih]
    congr 1
    apply UInt8.toNat_inj.1
    simp
end Go.Proofs.Ytgmoakbmomaffaa.Pack
namespace Go.Proofs.Ytgmoakbmomaffaa.Pack
/-- is a number a width? -/
def isW (w : Int) : Bool := w == 1 || w == 2 || w == 4 || w == 8
theorem isW_of {w : Int} (h : isW w = true) : w = 1 ∨ w = 2 ∨ w = 4 ∨ w = 8 := by
  simp [isW] at h
  omega
theorem not_isW {w : Int} (h : isW w = false) : w ≠ 1 ∧ w ≠ 2 ∧ w ≠ 4 ∧ w ≠ 8 := by
  simp [isW] at h
  omega
/-- does a number fit a width? -/
def fitB (n w : Int) : Bool := isW w && decide (0 ≤ n ∧ n < 256 ^ w.toNat)
/-- a number of a width, laid, or refused -/
def number (n w : Int) : List UInt8 × Int := if fitB n w then (be w.toNat n.toNat, 0) else ([], 2)
/-- a number, taken: the number, the place behind, the error -/
def takeNum (s : List UInt8) (a w : Int) : Int × Int × Int :=
  if a < 0 ∨ (s.length : Int) < a ∨ isW w = false then (0, 0, 2)
  else if (s.length : Int) - a < w then (0, 0, 30)
  else if 9223372036854775807 < num ((s.drop a.toNat).take w.toNat) then (0, 0, 2)
  else ((num ((s.drop a.toNat).take w.toNat) : Nat), a + w, 0)
/-- a text, laid, or refused -/
def text (s : List UInt8) : List UInt8 × Int := if 65535 < s.length then ([], 3) else (be 2 s.length ++ s, 0)
/-- a text, taken -/
def takeText (s : List UInt8) (a : Int) : List UInt8 × Int × Int :=
  if (takeNum s a 2).2.2 ≠ 0 then ([], 0, (takeNum s a 2).2.2)
  else if (s.length : Int) - (takeNum s a 2).2.1 < (takeNum s a 2).1 then ([], 0, 30)
  else ((s.drop (takeNum s a 2).2.1.toNat).take (takeNum s a 2).1.toNat, (takeNum s a 2).2.1 + (takeNum s a 2).1, 0)
end Go.Proofs.Ytgmoakbmomaffaa.Pack
namespace Go.Proofs.Ytgmoakbmomaffaa.Pack
/-- texts one behind the other, each behind its length -/
def flat (l : List (List UInt8)) : List UInt8 := l.flatMap fun s => be 2 s.length ++ s
/-- texts, laid, or refused -/
def texts (l : List (List UInt8)) : List UInt8 × Int :=
  if 65535 < l.length then ([], 3) else if l.any (fun s => decide (65535 < s.length)) then ([], 3) else (be 2 l.length ++ flat l, 0)
theorem flat_snoc (l : List (List UInt8)) (s : List UInt8) : flat (l ++ [s]) = flat l ++ (be 2 s.length ++ s) := by simp [flat]
theorem flat_le (l : List (List UInt8)) (h : l.any (fun s => decide (65535 < s.length)) = false) : (flat l).length ≤ 65537 * l.length := by
  induction l with
  | nil => simp [flat]
  | cons s l ih =>
    simp only [List.any_cons, Bool.or_eq_false_iff, decide_eq_false_iff_not] at h
    have := ih h.2
    simp only [flat, List.flatMap_cons, List.length_append, be_length, List.length_cons] at this ⊢
    omega
/-- texts, taken one by one: what was taken, the place behind, the error -/
def takeFold (s : List UInt8) : Nat → Int → List (List UInt8) → List (List UInt8) × Int × Int
  | 0, to, acc => (acc, to, 0)
  | n + 1, to, acc => if (takeText s to).2.2 = 0 then takeFold s n (takeText s to).2.1 (acc ++ [(takeText s to).1]) else ([], 0, (takeText s to).2.2)
/-- texts, taken -/
def takeTexts (s : List UInt8) (a : Int) : List (List UInt8) × Int × Int :=
  if (takeNum s a 2).2.2 = 0 then takeFold s (takeNum s a 2).1.toNat (takeNum s a 2).2.1 [] else ([], 0, (takeNum s a 2).2.2)
end Go.Proofs.Ytgmoakbmomaffaa.Pack
