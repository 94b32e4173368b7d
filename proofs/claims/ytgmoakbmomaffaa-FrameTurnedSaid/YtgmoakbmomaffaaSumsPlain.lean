/-
  Plain arithmetic of the sums (no program in sight): the two parts of a sum over a list of bytes, how they split over an append, and when they differ. No conditions beyond those written.
-/
namespace Go.Proofs.Ytgmoakbmomaffaa.Sums

/-- the bytes added up -/
def S : List UInt8 → Int
  | [] => 0
  | c :: l => (c.toNat : Int) + S l
/-- the bytes added up, each as often as the bytes from it on -/
def T : List UInt8 → Int
  | [] => 0
  | c :: l => ((l.length : Int) + 1) * (c.toNat : Int) + T l

def AA (a : Int) (l : List UInt8) : Int := a + S l
def BB (a b : Int) (l : List UInt8) : Int := b + (l.length : Int) * a + T l

theorem S_append (l m : List UInt8) : S (l ++ m) = S l + S m := by
  induction l with
  | nil => simp [S]
  | cons c l ih => simp only [List.cons_append, S, ih]; omega
theorem T_append (l m : List UInt8) : T (l ++ m) = T l + (m.length : Int) * S l + T m := by
  induction l with
  | nil => simp [S, T]
  | cons c l ih =>
    simp only [List.cons_append, S, T, ih, List.length_append]
    have e : (((l.length + m.length : Nat) : Int) + 1) * (c.toNat : Int) = ((l.length : Int) + 1) * (c.toNat : Int) + (m.length : Int) * (c.toNat : Int) := by
      rw [← Int.add_mul]; congr 1; omega
    rw [e, Int.mul_add]
    omega
theorem S_nonneg (l : List UInt8) : 0 ≤ S l := by
  induction l with
  | nil => simp [S]
  | cons c l ih => simp only [S]; omega
theorem T_nonneg (l : List UInt8) : 0 ≤ T l := by
  induction l with
  | nil => simp [T]
  | cons c l ih =>
    simp only [T]
    have : 0 ≤ ((l.length : Int) + 1) * (c.toNat : Int) := Int.mul_nonneg (by omega) (by omega)
    omega

theorem AA_nil (a : Int) : AA a [] = a := by simp [AA, S]
theorem BB_nil (a b : Int) : BB a b [] = b := by simp [BB, T]
theorem AA_snoc (a : Int) (l : List UInt8) (c : UInt8) : AA a (l ++ [c]) = AA a l + (c.toNat : Int) := by
  simp only [AA, S_append, S]; omega
theorem BB_snoc (a b : Int) (l : List UInt8) (c : UInt8) : BB a b (l ++ [c]) = BB a b l + (AA a l + (c.toNat : Int)) := by
  simp only [BB, AA, T_append, T, List.length_append, List.length_cons, List.length_nil]
  have e : ((l.length + (0 + 1) : Nat) : Int) * a = (l.length : Int) * a + a := by
    rw [show ((l.length + (0 + 1) : Nat) : Int) = (l.length : Int) + 1 by omega, Int.add_mul]; omega
  rw [e]
  simp
  omega
theorem AA_append (a : Int) (l m : List UInt8) : AA a (l ++ m) = AA (AA a l) m := by
  simp only [AA, S_append]; omega
theorem BB_append (a b : Int) (l m : List UInt8) : BB a b (l ++ m) = BB (AA a l) (BB a b l) m := by
  simp only [BB, AA, T_append, List.length_append]
  have e : ((l.length + m.length : Nat) : Int) * a = (l.length : Int) * a + (m.length : Int) * a := by
    rw [show ((l.length + m.length : Nat) : Int) = (l.length : Int) + (m.length : Int) by omega, Int.add_mul]
  rw [e, Int.mul_add]
  omega

theorem AA_le (a : Int) (l : List UInt8) : a ≤ AA a l ∧ AA a l ≤ a + 255 * (l.length : Int) := by
  unfold AA
  have := S_nonneg l
  refine ⟨by omega, ?_⟩
  induction l with
  | nil => simp [S]
  | cons c l ih =>
    have hc : c.toNat < 256 := c.toNat_lt
    have := ih (S_nonneg l)
    simp only [S, List.length_cons]
    omega
theorem T_le (l : List UInt8) : 2 * T l ≤ 255 * ((l.length : Int) * ((l.length : Int) + 1)) := by
  induction l with
  | nil => simp [T]
  | cons c l ih =>
    have hc : c.toNat < 256 := c.toNat_lt
    simp only [T, List.length_cons]
    have h1 : ((l.length : Int) + 1) * (c.toNat : Int) ≤ ((l.length : Int) + 1) * 255 := Int.mul_le_mul_of_nonneg_left (by omega) (by omega)
    have e : ((l.length + 1 : Nat) : Int) * (((l.length + 1 : Nat) : Int) + 1) = (l.length : Int) * ((l.length : Int) + 1) + 2 * ((l.length : Int) + 1) := by
      rw [show ((l.length + 1 : Nat) : Int) = (l.length : Int) + 1 by omega, show (l.length : Int) + 1 + 1 = (l.length : Int) + 2 by omega, Int.mul_comm, Int.add_mul, Int.mul_comm (l.length : Int)]
    rw [e]
    omega
theorem BB_le (a b : Int) (l : List UInt8) (h0 : 0 ≤ a) (h1 : a < 65521) (hb : 0 ≤ b) (hb1 : b < 65521) (hl : l.length ≤ 5000) : 0 ≤ BB a b l ∧ BB a b l ≤ 3515803020 := by
  unfold BB
  have hT := T_le l
  have hT0 := T_nonneg l
  have h2 : (l.length : Int) * a ≤ 5000 * 65520 := by
    have := Int.mul_le_mul (show (l.length : Int) ≤ 5000 by omega) (show a ≤ 65520 by omega) h0 (by omega)
    omega
  have h2' : 0 ≤ (l.length : Int) * a := Int.mul_nonneg (by omega) h0
  have h3 : (l.length : Int) * ((l.length : Int) + 1) ≤ 5000 * 5001 := Int.mul_le_mul (by omega) (by omega) (by omega) (by omega)
  omega

/-- a number and its rest by 65521, times another one -/
theorem mul_mod (n a : Int) : n * (a % 65521) = n * a - 65521 * (n * (a / 65521)) := by
  have h : a % 65521 = a - 65521 * (a / 65521) := by omega
  rw [h, Int.mul_sub]
  have : n * (65521 * (a / 65521)) = 65521 * (n * (a / 65521)) := by
    rw [← Int.mul_assoc, Int.mul_comm n 65521, Int.mul_assoc]
  rw [this]
theorem AA_mod (a : Int) (l : List UInt8) : AA (a % 65521) l % 65521 = AA a l % 65521 := by unfold AA; omega
theorem BB_mod (a b : Int) (l : List UInt8) : BB (a % 65521) (b % 65521) l % 65521 = BB a b l % 65521 := by
  unfold BB
  have := mul_mod (l.length : Int) a
  omega

/-- a sum of its parts -/
def pk (a b : Int) : Int := (b % 65521) * 65536 + a % 65521
def lo (s : Int) : Int := s % 65536
def hi (s : Int) : Int := s / 65536
theorem pk_bd (a b : Int) : 0 ≤ pk a b ∧ pk a b < 4294967296 := by unfold pk; omega
theorem lo_pk (a b : Int) : lo (pk a b) = a % 65521 := by unfold pk lo; omega
theorem hi_pk (a b : Int) : hi (pk a b) = b % 65521 := by unfold pk hi; omega
theorem pk_congr {a b c d : Int} (h : a % 65521 = c % 65521) (k : b % 65521 = d % 65521) : pk a b = pk c d := by unfold pk; rw [h, k]

/-- a sum goes on with a text -/
def more (s : Int) (l : List UInt8) : Int := pk (AA (lo s) l) (BB (lo s) (hi s) l)
theorem more_bd (s : Int) (l : List UInt8) : 0 ≤ more s l ∧ more s l < 4294967296 := pk_bd _ _
theorem more_append (s : Int) (l m : List UInt8) : more s (l ++ m) = more (more s l) m := by
  unfold more
  rw [lo_pk, hi_pk, AA_append, BB_append]
  exact pk_congr (AA_mod _ _).symm (BB_mod _ _ _).symm
def sum (s : Int) : List (List UInt8) → Int
  | [] => s
  | l :: ls => sum (more s l) ls
theorem sum_snoc (s : Int) (ls : List (List UInt8)) (l : List UInt8) : sum s (ls ++ [l]) = more (sum s ls) l := by
  induction ls generalizing s with
  | nil => rfl
  | cons x ls ih => exact ih _
theorem sum_bd (s : Int) (ls : List (List UInt8)) (h : 0 ≤ s ∧ s < 4294967296) : 0 ≤ sum s ls ∧ sum s ls < 4294967296 := by
  induction ls generalizing s with
  | nil => exact h
  | cons x ls ih => exact ih _ (more_bd _ _)
/-- two sums are put together -/
def join (x y n : Int) : Int := pk (lo x + lo y + 65520) (hi x + hi y + (max n 0) * (lo x + 65520))
theorem join_bd (x y n : Int) : 0 ≤ join x y n ∧ join x y n < 4294967296 := pk_bd _ _

theorem parts (l m : List UInt8) : join (more 1 l) (more 1 m) (m.length : Int) = more 1 (l ++ m) := by
  unfold join more
  simp only [lo_pk, hi_pk]
  rw [show lo 1 = 1 from rfl, show hi 1 = 0 from rfl, AA_append, BB_append]
  rw [show max (m.length : Int) 0 = (m.length : Int) by omega]
  apply pk_congr
  · unfold AA; omega
  · have h := mul_mod (m.length : Int) (AA 1 l)
    rw [Int.mul_add]
    generalize hz : BB 1 0 l = z
    unfold BB
    simp only [Int.mul_one]
    rw [h]
    omega

/-- one byte that is another one -/
theorem turned (l m : List UInt8) (c d : UInt8) (h : c ≠ d) : more 1 (l ++ c :: m) ≠ more 1 (l ++ d :: m) := by
  intro e
  have h1 : lo (more 1 (l ++ c :: m)) = lo (more 1 (l ++ d :: m)) := by rw [e]
  simp only [more, lo_pk, AA, S_append, S] at h1
  have hc := c.toNat_lt
  have hd := d.toNat_lt
  have hne : c.toNat ≠ d.toNat := fun e => h (UInt8.toNat_inj.1 e)
  omega
/-- two unlike neighbours that are changed about -/
theorem swapped (l m : List UInt8) (c d : UInt8) (h : c ≠ d) : more 1 (l ++ c :: d :: m) ≠ more 1 (l ++ d :: c :: m) := by
  intro e
  have h1 : hi (more 1 (l ++ c :: d :: m)) = hi (more 1 (l ++ d :: c :: m)) := by rw [e]
  simp only [more, hi_pk, BB, T_append, T, List.length_append, List.length_cons] at h1
  have hc := c.toNat_lt
  have hd := d.toNat_lt
  have hne : c.toNat ≠ d.toNat := fun e => h (UInt8.toNat_inj.1 e)
  generalize ((l.length + (m.length + 1 + 1) : Nat) : Int) * lo 1 = u at h1
  generalize ((m.length + 1 + 1 : Nat) : Int) * S l = v at h1
  rw [show ((m.length + 1 : Nat) : Int) + 1 = ((m.length : Int) + 1) + 1 by omega, Int.add_mul ((m.length : Int) + 1) 1 (c.toNat : Int), Int.add_mul ((m.length : Int) + 1) 1 (d.toNat : Int)] at h1
  generalize ((m.length : Int) + 1) * (c.toNat : Int) = x at h1
  generalize ((m.length : Int) + 1) * (d.toNat : Int) = y at h1
  omega
end Go.Proofs.Ytgmoakbmomaffaa.Sums
