/-
  How many members a set has: the sum of bits, reckoned byte by byte. Plain.
-/
import Derived.Test.YtdamocjbkdknaaaFleetBits2
namespace Go.Proofs.Ytdamocjbkdknaaa.Fleet
set_option linter.unusedVariables false

def mask (m : Nat) : Nat → Nat
  | 0 => 0
  | n + 1 => m + 256 * mask m n
def val : List Nat → Nat
  | [] => 0
  | b :: r => b + 256 * val r
theorem and_split (a0 a1 c0 c1 : Nat) (ha : a0 < 256) (hc : c0 < 256) : (a0 + 256 * a1) &&& (c0 + 256 * c1) = (a0 &&& c0) + 256 * (a1 &&& c1) := by
  have h0 : a0 &&& c0 < 2 ^ 8 := Nat.lt_of_le_of_lt Nat.and_le_left ha
  have e : ∀ x y, x + 256 * y = 2 ^ 8 * y + x := fun x y => by omega
  apply Nat.eq_of_testBit_eq
  intro i
  rw [Nat.testBit_and, e a0, e c0, e (a0 &&& c0), Nat.testBit_two_pow_mul_add _ (show a0 < 2 ^ 8 by omega), Nat.testBit_two_pow_mul_add _ (show c0 < 2 ^ 8 by omega), Nat.testBit_two_pow_mul_add _ h0]
  split
  · rw [Nat.testBit_and]
  · rw [Nat.testBit_and]
def g1 (b : Nat) : Nat := ((b / 2) &&& 85) + (b &&& 85)
def g2 (b : Nat) : Nat := ((b / 4) &&& 51) + (b &&& 51)
def g3 (b : Nat) : Nat := (b / 16 + b) &&& 15
theorem m1 : ∀ b : Fin 256, ∀ u : Fin 2, (b.val / 2 + 128 * u.val) &&& 85 = (b.val / 2) &&& 85 := by decide +kernel
theorem m2 : ∀ b : Fin 256, ∀ u : Fin 4, (b.val / 4 + 64 * u.val) &&& 51 = (b.val / 4) &&& 51 := by decide +kernel
theorem m3 : ∀ b : Fin 69, ∀ u : Fin 5, (b.val / 16 + 16 * u.val + b.val) &&& 15 = (b.val / 16 + b.val) &&& 15 := by decide +kernel
theorem g1_lt : ∀ b : Fin 256, g1 b.val < 256 := by decide +kernel
theorem g2_lt : ∀ b : Fin 256, g2 (g1 b.val) ≤ 68 ∧ g2 (g1 b.val) % 16 ≤ 4 := by decide +kernel
def cnt8 (b : Nat) : Nat := g3 (g2 (g1 b))
theorem cnt8_le : ∀ b : Fin 256, cnt8 b.val ≤ 8 := by decide +kernel
theorem cnt8_eq : ∀ b : Fin 256, cnt8 b.val = b.val % 2 + b.val / 2 % 2 + b.val / 4 % 2 + b.val / 8 % 2 + b.val / 16 % 2 + b.val / 32 % 2 + b.val / 64 % 2 + b.val / 128 % 2 := by decide +kernel
theorem st1 : ∀ bs : List Nat, (∀ b ∈ bs, b < 256) → ((val bs / 2) &&& mask 85 bs.length) + (val bs &&& mask 85 bs.length) = val (bs.map g1)
  | [], _ => by simp [val, mask]
  | b :: r, h => by
    have hb := h b (by simp)
    have ih := st1 r (fun x hx => h x (by simp [hx]))
    have e : (b + 256 * val r) / 2 = (b / 2 + 128 * (val r % 2)) + 256 * (val r / 2) := by omega
    simp only [val, mask, List.length_cons, List.map_cons]
    rw [e, and_split _ _ _ _ (by omega) (by omega), and_split _ _ _ _ hb (by omega), m1 ⟨b, hb⟩ ⟨val r % 2, Nat.mod_lt _ (by omega)⟩, ← ih]
    unfold g1
    simp only
    omega
theorem st2 : ∀ bs : List Nat, (∀ b ∈ bs, b < 256) → ((val bs / 4) &&& mask 51 bs.length) + (val bs &&& mask 51 bs.length) = val (bs.map g2)
  | [], _ => by simp [val, mask]
  | b :: r, h => by
    have hb := h b (by simp)
    have ih := st2 r (fun x hx => h x (by simp [hx]))
    have e : (b + 256 * val r) / 4 = (b / 4 + 64 * (val r % 4)) + 256 * (val r / 4) := by omega
    simp only [val, mask, List.length_cons, List.map_cons]
    rw [e, and_split _ _ _ _ (by omega) (by omega), and_split _ _ _ _ hb (by omega), m2 ⟨b, hb⟩ ⟨val r % 4, Nat.mod_lt _ (by omega)⟩, ← ih]
    unfold g2
    simp only
    omega
theorem val_mod16 : ∀ bs : List Nat, (∀ b ∈ bs, b ≤ 68 ∧ b % 16 ≤ 4) → val bs % 16 ≤ 4
  | [], _ => by simp [val]
  | b :: r, h => by
    have := h b (by simp)
    simp only [val]
    omega
theorem st3 : ∀ bs : List Nat, (∀ b ∈ bs, b ≤ 68 ∧ b % 16 ≤ 4) → ((val bs / 16) + val bs) &&& mask 15 bs.length = val (bs.map g3)
  | [], _ => by simp [val, mask]
  | b :: r, h => by
    have hb := h b (by simp)
    have ih := st3 r (fun x hx => h x (by simp [hx]))
    have hm := val_mod16 r (fun x hx => h x (by simp [hx]))
    have e : (b + 256 * val r) / 16 + (b + 256 * val r) = (b / 16 + 16 * (val r % 16) + b) + 256 * (val r / 16 + val r) := by omega
    simp only [val, mask, List.length_cons, List.map_cons]
    rw [e, and_split _ _ _ _ (by omega) (by omega), m3 ⟨b, by omega⟩ ⟨val r % 16, by omega⟩, ih]
    rfl
def bytesOf : Nat → Nat → List Nat
  | 0, _ => []
  | n + 1, s => s % 256 :: bytesOf n (s / 256)
theorem bytesOf_len : ∀ n s, (bytesOf n s).length = n
  | 0, _ => rfl
  | n + 1, s => by simp [bytesOf, bytesOf_len n]
theorem bytesOf_lt : ∀ n s, ∀ b ∈ bytesOf n s, b < 256
  | 0, _, b, h => by simp [bytesOf] at h
  | n + 1, s, b, h => by
    rcases List.mem_cons.1 h with rfl | h
    · exact Nat.mod_lt _ (by omega)
    · exact bytesOf_lt n _ b h
theorem bytesOf_val : ∀ n s, s < 256 ^ n → val (bytesOf n s) = s
  | 0, s, h => by simp at h; subst h; rfl
  | n + 1, s, h => by
    rw [bytesOf, val, bytesOf_val n (s / 256) (by rw [Nat.pow_succ] at h; omega)]
    omega
/-- the sum of a set's bits -/
def pop : Nat → Nat → Nat
  | 0, _ => 0
  | n + 1, s => cnt8 (s % 256) + pop n (s / 256)
theorem bitsL_one (f k s : Nat) : (bitsL (f + 1) k s).length = s % 2 + (bitsL f (k + 1) (s / 2)).length := by
  rw [bitsL, List.length_append]
  by_cases h : s % 2 = 1
  · rw [if_pos h, h]; rfl
  · rw [if_neg h]
    have : s % 2 = 0 := by omega
    rw [this]; rfl
theorem bitsL_byte (f k s : Nat) : (bitsL (f + 8) k s).length = cnt8 (s % 256) + (bitsL f (k + 8) (s / 256)).length := by
  rw [bitsL_one (f + 7), bitsL_one (f + 6), bitsL_one (f + 5), bitsL_one (f + 4), bitsL_one (f + 3), bitsL_one (f + 2), bitsL_one (f + 1), bitsL_one f, cnt8_eq ⟨s % 256, Nat.mod_lt _ (by omega)⟩]
  have e : s / 2 / 2 / 2 / 2 / 2 / 2 / 2 / 2 = s / 256 := by simp only [Nat.div_div_eq_div_mul]
  have ek : k + 1 + 1 + 1 + 1 + 1 + 1 + 1 + 1 = k + 8 := by omega
  have h0 : s % 2 = s % 256 % 2 := by omega
  have h1 : s / 2 % 2 = s % 256 / 2 % 2 := by omega
  have h2 : s / 2 / 2 % 2 = s % 256 / 4 % 2 := by omega
  have h3 : s / 2 / 2 / 2 % 2 = s % 256 / 8 % 2 := by omega
  have h4 : s / 2 / 2 / 2 / 2 % 2 = s % 256 / 16 % 2 := by omega
  have h5 : s / 2 / 2 / 2 / 2 / 2 % 2 = s % 256 / 32 % 2 := by omega
  have h6 : s / 2 / 2 / 2 / 2 / 2 / 2 % 2 = s % 256 / 64 % 2 := by omega
  have h7 : s / 2 / 2 / 2 / 2 / 2 / 2 / 2 % 2 = s % 256 / 128 % 2 := by omega
  rw [e, ek, h0, h1, h2, h3, h4, h5, h6, h7]
  simp only [Nat.add_assoc]
theorem bitsL_pop : ∀ n k s, (bitsL (8 * n) k s).length = pop n s
  | 0, k, s => rfl
  | n + 1, k, s => by
    rw [Nat.mul_add, Nat.mul_one, bitsL_byte, bitsL_pop n]
    rfl
theorem pop_mem (s : Nat) : pop 8 s = (memL s).length := by rw [← bitsL_mem, ← bitsL_pop 8 0 s]
theorem pop_sum : ∀ n s, pop n s = ((bytesOf n s).map cnt8).sum
  | 0, _ => rfl
  | n + 1, s => by rw [pop, bytesOf, List.map_cons, List.sum_cons, pop_sum n]
theorem div_of {m a z x : Nat} (hx : x = a + m * z) (ha : a < m) : x / m = z := by
  subst hx
  rw [Nat.add_mul_div_left _ _ (by omega), Nat.div_eq_of_lt ha, Nat.zero_add]
theorem mod_of {m a z x : Nat} (hx : x = a + m * z) (ha : a < m) : x % m = a := by
  subst hx
  rw [Nat.add_mul_mod_self_left, Nat.mod_eq_of_lt ha]
theorem hstep {a t A T : Nat} (ha : a ≤ A) (ht : t ≤ T) : a + 256 * t ≤ A + 256 * T := by omega
theorem h8 {a0 a1 a2 a3 a4 a5 a6 a7 : Nat} (h0 : a0 ≤ 64) (h1 : a1 ≤ 64) (h2 : a2 ≤ 64) (h3 : a3 ≤ 64) (h4 : a4 ≤ 64) (h5 : a5 ≤ 64) (h6 : a6 ≤ 64) (h7 : a7 ≤ 64) : a0 + 256 * (a1 + 256 * (a2 + 256 * (a3 + 256 * (a4 + 256 * (a5 + 256 * (a6 + 256 * (a7))))))) < 9223372036854775808 :=
  Nat.lt_of_le_of_lt (hstep h0 (hstep h1 (hstep h2 (hstep h3 (hstep h4 (hstep h5 (hstep h6 h7))))))) (by decide)
theorem fk1 (c0 c1 c2 c3 c4 c5 c6 c7 x : Nat) (h0 : c0 < 256) (hx : x = c0 + 256 * (c1 + 256 * (c2 + 256 * (c3 + 256 * (c4 + 256 * (c5 + 256 * (c6 + 256 * (c7)))))))) : x / 256 = c1 + 256 * (c2 + 256 * (c3 + 256 * (c4 + 256 * (c5 + 256 * (c6 + 256 * (c7)))))) := div_of (a := c0) hx h0
theorem fy1 (c0 c1 c2 c3 c4 c5 c6 c7 x x1 : Nat) (h0 : c0 < 256) (hx : x = c0 + 256 * (c1 + 256 * (c2 + 256 * (c3 + 256 * (c4 + 256 * (c5 + 256 * (c6 + 256 * (c7)))))))) (e1 : x1 = x + x / 256) : x1 = (c0 + c1) + 256 * ((c1 + c2) + 256 * ((c2 + c3) + 256 * ((c3 + c4) + 256 * ((c4 + c5) + 256 * ((c5 + c6) + 256 * ((c6 + c7) + 256 * (c7))))))) := by
  have k := fk1 c0 c1 c2 c3 c4 c5 c6 c7 x h0 hx
  rw [e1, k, hx]
  clear e1 k hx h0
  omega
theorem fk2 (d0 d1 d2 d3 d4 d5 d6 d7 x : Nat) (h0 : d0 < 256) (h1 : d1 < 256) (hx : x = d0 + 256 * (d1 + 256 * (d2 + 256 * (d3 + 256 * (d4 + 256 * (d5 + 256 * (d6 + 256 * (d7)))))))) : x / 65536 = d2 + 256 * (d3 + 256 * (d4 + 256 * (d5 + 256 * (d6 + 256 * (d7))))) := by
  refine div_of (a := d0 + 256 * d1) ?_ (by omega)
  rw [hx]
  clear hx h0 h1
  omega
theorem fy2 (c0 c1 c2 c3 c4 c5 c6 c7 x1 x2 : Nat) (h0 : c0 + c1 < 256) (h1 : c1 + c2 < 256) (hx : x1 = (c0 + c1) + 256 * ((c1 + c2) + 256 * ((c2 + c3) + 256 * ((c3 + c4) + 256 * ((c4 + c5) + 256 * ((c5 + c6) + 256 * ((c6 + c7) + 256 * (c7)))))))) (e2 : x2 = x1 + x1 / 65536) : x2 = (c0 + c1 + c2 + c3) + 256 * ((c1 + c2 + c3 + c4) + 256 * ((c2 + c3 + c4 + c5) + 256 * ((c3 + c4 + c5 + c6) + 256 * ((c4 + c5 + c6 + c7) + 256 * ((c5 + c6 + c7) + 256 * ((c6 + c7) + 256 * (c7))))))) := by
  have k := fk2 _ _ _ _ _ _ _ _ x1 h0 h1 hx
  rw [e2, k, hx]
  clear e2 k hx h0 h1
  omega
theorem fk3 (d0 d1 d2 d3 d4 d5 d6 d7 x : Nat) (h0 : d0 < 256) (h1 : d1 < 256) (h2 : d2 < 256) (h3 : d3 < 256) (hx : x = d0 + 256 * (d1 + 256 * (d2 + 256 * (d3 + 256 * (d4 + 256 * (d5 + 256 * (d6 + 256 * (d7)))))))) : x / 4294967296 = d4 + 256 * (d5 + 256 * (d6 + 256 * (d7))) := by
  refine div_of (a := d0 + 256 * (d1 + 256 * (d2 + 256 * d3))) ?_ (Nat.lt_of_le_of_lt (hstep (Nat.le_of_lt_succ h0) (hstep (Nat.le_of_lt_succ h1) (hstep (Nat.le_of_lt_succ h2) (Nat.le_of_lt_succ h3)))) (by decide))
  rw [hx]
  clear hx h0 h1 h2 h3
  omega
theorem fy3 (c0 c1 c2 c3 c4 c5 c6 c7 x2 x3 : Nat) (h0 : c0 + c1 + c2 + c3 < 256) (h1 : c1 + c2 + c3 + c4 < 256) (h2 : c2 + c3 + c4 + c5 < 256) (h3 : c3 + c4 + c5 + c6 < 256) (hx : x2 = (c0 + c1 + c2 + c3) + 256 * ((c1 + c2 + c3 + c4) + 256 * ((c2 + c3 + c4 + c5) + 256 * ((c3 + c4 + c5 + c6) + 256 * ((c4 + c5 + c6 + c7) + 256 * ((c5 + c6 + c7) + 256 * ((c6 + c7) + 256 * (c7)))))))) (e3 : x3 = x2 + x2 / 4294967296) : x3 = (c0 + c1 + c2 + c3 + c4 + c5 + c6 + c7) + 256 * ((c1 + c2 + c3 + c4 + c5 + c6 + c7) + 256 * ((c2 + c3 + c4 + c5 + c6 + c7) + 256 * ((c3 + c4 + c5 + c6 + c7) + 256 * ((c4 + c5 + c6 + c7) + 256 * ((c5 + c6 + c7) + 256 * ((c6 + c7) + 256 * (c7))))))) := by
  have k := fk3 _ _ _ _ _ _ _ _ x2 h0 h1 h2 h3 hx
  rw [e3, k, hx]
  clear e3 k hx h0 h1 h2 h3
  omega
theorem fin_sum (c0 c1 c2 c3 c4 c5 c6 c7 : Nat) (h0 : c0 ≤ 8) (h1 : c1 ≤ 8) (h2 : c2 ≤ 8) (h3 : c3 ≤ 8) (h4 : c4 ≤ 8) (h5 : c5 ≤ 8) (h6 : c6 ≤ 8) (h7 : c7 ≤ 8) (x x1 x2 x3 : Nat)
    (hx : x = val [c0, c1, c2, c3, c4, c5, c6, c7]) (e1 : x1 = x + x / 256) (e2 : x2 = x1 + x1 / 65536) (e3 : x3 = x2 + x2 / 4294967296) : x3 % 128 = c0 + c1 + c2 + c3 + c4 + c5 + c6 + c7 ∧ x3 < 9223372036854775808 ∧ x1 < 9223372036854775808 ∧ x2 < 9223372036854775808 := by
  have y0 : x = c0 + 256 * (c1 + 256 * (c2 + 256 * (c3 + 256 * (c4 + 256 * (c5 + 256 * (c6 + 256 * (c7))))))) := hx
  have y1 := fy1 c0 c1 c2 c3 c4 c5 c6 c7 x x1 (by omega) y0 e1
  have y2 := fy2 c0 c1 c2 c3 c4 c5 c6 c7 x1 x2 (by clear y0 y1 hx e1 e2 e3; omega) (by clear y0 y1 hx e1 e2 e3; omega) y1 e2
  have y3 := fy3 c0 c1 c2 c3 c4 c5 c6 c7 x2 x3 (by clear y0 y1 y2 hx e1 e2 e3; omega) (by clear y0 y1 y2 hx e1 e2 e3; omega) (by clear y0 y1 y2 hx e1 e2 e3; omega) (by clear y0 y1 y2 hx e1 e2 e3; omega) y2 e3
  have hs : c0 + c1 + c2 + c3 + c4 + c5 + c6 + c7 ≤ 64 := by clear y0 y1 y2 y3 hx e1 e2 e3; omega
  clear hx e1 e2 e3 y0
  refine ⟨?_, ?_, ?_, ?_⟩
  · refine mod_of (z := 2 * ((c1 + c2 + c3 + c4 + c5 + c6 + c7) + 256 * ((c2 + c3 + c4 + c5 + c6 + c7) + 256 * ((c3 + c4 + c5 + c6 + c7) + 256 * ((c4 + c5 + c6 + c7) + 256 * ((c5 + c6 + c7) + 256 * ((c6 + c7) + 256 * (c7)))))))) ?_ (by clear y1 y2 y3; omega)
    rw [y3]
    clear y1 y2 y3 hs h0 h1 h2 h3 h4 h5 h6 h7
    omega
  · rw [y3]; clear y1 y2 y3; exact h8 (by omega) (by omega) (by omega) (by omega) (by omega) (by omega) (by omega) (by omega)
  · rw [y1]; clear y1 y2 y3; exact h8 (by omega) (by omega) (by omega) (by omega) (by omega) (by omega) (by omega) (by omega)
  · rw [y2]; clear y1 y2 y3; exact h8 (by omega) (by omega) (by omega) (by omega) (by omega) (by omega) (by omega) (by omega)
end Go.Proofs.Ytdamocjbkdknaaa.Fleet
