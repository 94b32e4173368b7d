/-
  Contracts of muster/sums.Join and of the document's answer for layer 2 (musterref02: More, Sum, Join), for every argument.
-/
import Derived.Test.YtgmoakbmomaffaaSumsBase
namespace Go.Proofs.Ytgmoakbmomaffaa.SumsW
open Go.RowKit Mem
set_option linter.unusedVariables false

/-- a product of two rests: it does not wrap -/
theorem wrapmul (n z : Int) (h : 0 ≤ n) : (IntKind.u64.wrap (n % 65521 * (z % 65521))).tmod 65521 = (n * z) % 65521 := by
  have b1 : 0 ≤ n % 65521 ∧ n % 65521 < 65521 := by omega
  have b2 : 0 ≤ z % 65521 ∧ z % 65521 < 65521 := by omega
  have m1 : 0 ≤ n % 65521 * (z % 65521) := Int.mul_nonneg b1.1 b2.1
  have m2 : n % 65521 * (z % 65521) ≤ 65520 * 65520 := Int.mul_le_mul (by omega) (by omega) b2.1 (by omega)
  rw [IntWalk.u64_in _ (by omega), Int.tmod_eq_emod_of_nonneg m1]
  exact (Int.mul_emod n z 65521).symm
theorem mul_zp (n z : Int) : (n * (z + 65521 - 1)) % 65521 = (n * (z + 65520)) % 65521 := by rw [show z + 65521 - 1 = z + 65520 by omega]
theorem join_eq (x y n : Int) (h : 0 ≤ n) : ((Sums.hi x % 65521 + Sums.hi y % 65521 + (IntKind.u64.wrap (n % 65521 * ((Sums.lo x % 65521 + 65521 - 1) % 65521))).tmod 65521) % 4294967296 % 65521) * 65536 + (Sums.lo y + (Sums.lo x % 65521 + 65521 - 1)) % 65521 = Sums.join x y n := by
  rw [wrapmul n _ h, mul_zp]
  unfold Sums.join Sums.pk
  rw [show max n 0 = n by omega, Int.mul_add, Int.mul_add, Sums.mul_mod]
  generalize n * Sums.lo x = u
  generalize n * (Sums.lo x / 65521) = v
  omega
theorem join_eq0 (x y n : Int) (h : n < 0) : (Sums.hi x + Sums.hi y) % 65521 * 65536 + (Sums.lo y + (Sums.lo x % 65521 + 65521 - 1)) % 65521 = Sums.join x y n := by
  unfold Sums.join Sums.pk
  rw [show max n 0 = 0 by omega, Int.zero_mul]
  omega
theorem rjoin_eq0 (x y n : Int) (h : n < 0) : (x / 65536 + y / 65536) % 65521 * 65536 + (x % 65536 % 65521 + y % 65536 % 65521 + 65521 - 1) % 65521 = Sums.join x y n := by
  rw [← join_eq0 x y n h]
  unfold Sums.lo Sums.hi
  omega
theorem rjoin_eq (x y n : Int) (h : 0 ≤ n) (x0 : 0 ≤ x) (x1 : x < 4294967296) (y0 : 0 ≤ y) (y1 : y < 4294967296) :
    (wrap64 (x / 65536 % 65521 + y / 65536 % 65521 + wrap64 (n % 65521 * ((x % 65536 % 65521 + 65521 - 1) % 65521)))).tmod 65521 % 4294967296 * 65536 % 4294967296 +
      (x % 65536 % 65521 + y % 65536 % 65521 + 65521 - 1) % 65521 = Sums.join x y n := by
  have b1 : 0 ≤ n % 65521 ∧ n % 65521 < 65521 := by omega
  have b2 : 0 ≤ (x % 65536 % 65521 + 65521 - 1) % 65521 ∧ (x % 65536 % 65521 + 65521 - 1) % 65521 < 65521 := by omega
  have m1 : 0 ≤ n % 65521 * ((x % 65536 % 65521 + 65521 - 1) % 65521) := Int.mul_nonneg b1.1 b2.1
  have m2 : n % 65521 * ((x % 65536 % 65521 + 65521 - 1) % 65521) ≤ 65520 * 65520 := Int.mul_le_mul (by omega) (by omega) b2.1 (by omega)
  have e : n % 65521 * ((x % 65536 % 65521 + 65521 - 1) % 65521) % 65521 = (n * (x % 65536 % 65521 + 65520)) % 65521 := by
    rw [show x % 65536 % 65521 + 65521 - 1 = x % 65536 % 65521 + 65520 by omega]
    exact (Int.mul_emod n _ 65521).symm
  rw [IntWalk.wrap64_in (n % 65521 * ((x % 65536 % 65521 + 65521 - 1) % 65521)) (by omega)]
  generalize n % 65521 * ((x % 65536 % 65521 + 65521 - 1) % 65521) = p at *
  rw [IntWalk.wrap64_in _ (by omega), Int.tmod_eq_emod_of_nonneg (by omega)]
  unfold Sums.join Sums.pk Sums.lo Sums.hi
  rw [show max n 0 = n by omega]
  rw [Int.mul_add, Sums.mul_mod] at e
  rw [Int.mul_add]
  generalize n * (x % 65536) = u at *
  generalize n * (x % 65536 / 65521) = v at *
  omega

set_option maxHeartbeats 400000 in
theorem join_any (x y n : Int) (w : World) (x0 : 0 ≤ x) (x1 : x < 4294967296) (y0 : 0 ≤ y) (y1 : y < 4294967296) (n0 : -9223372036854775808 ≤ n) (n1 : n ≤ 9223372036854775807) :
    Calls Try.prog 21 #[.int .u32 x, .int .u32 y, .int .i64 n] w fun e w' => e = .returned (.int .u32 (Sums.join x y n)) ∧ Below w.heap.size w w' := by
  by_cases hn : n < 0
  all_goals
    go_enter Try.func21, Try.ntmps21
    go_wp2_with fail
    refine (split_any x _ x0 x1).mono ?_
    rintro e w1 ⟨rfl, hb1⟩
    go_wp2_with fail
    refine (split_any y _ y0 y1).mono ?_
    rintro e w2 ⟨rfl, hb2⟩
    go_wp2_with fail
    refine (whole_any _ _ _ (by omega) (by omega) (by omega) (by omega)).mono ?_
    rintro e w3 ⟨rfl, hb3⟩
    go_wp2_with fail
    go_ret
    refine ⟨ret_int (by first | exact join_eq x y n (by omega) | exact join_eq0 x y n hn), ?_⟩
    have h12 := below_step hb1 hb2
    exact ((h12.alloc h12.size _).alloc (by simp; have := h12.size; omega) _).trans (hb3.mono (by simp; have := h12.size; omega))

def RMoreRel (s : ByteArray) (a b : Int) (u v i : Value) : Prop :=
  ∃ k : Nat, k ≤ s.size ∧ i = .int .i64 k ∧ u = .int .i64 (Sums.AA a (s.data.toList.take k) % 65521) ∧ v = .int .i64 (Sums.BB a b (s.data.toList.take k) % 65521)

set_option maxHeartbeats 400000 in
theorem rmore_any (sum : Int) (s : ByteArray) (w : World) (h0 : 0 ≤ sum) (h1 : sum < 4294967296) (hs : s.size ≤ maxLen) :
    Calls Try.prog 20 #[.int .u32 sum, .string s] w fun e w' => e = .returned (.int .u32 (Sums.more sum s.data.toList)) ∧ w = w' := by
  unfold maxLen at hs
  go_enter Try.func20, Try.ntmps20
  go_wp2_with fail
  go_loop [5, 6, 7] (fun u v i => RMoreRel s (sum % 65536) (sum / 65536) u v i) (fun _ _ i => s.size - (intOf i).toNat)
  case atStart => exact ⟨0, by omega, rfl, by rw [List.take_zero, Sums.AA_nil], by rw [List.take_zero, Sums.BB_nil]⟩
  case round =>
    obtain ⟨k, hk, rfl, rfl, rfl⟩ := hrel
    obtain ⟨x, hx⟩ : ∃ x, x = Sums.AA (sum % 65536) (s.data.toList.take k) % 65521 := ⟨_, rfl⟩
    obtain ⟨y, hy⟩ : ∃ y, y = Sums.BB (sum % 65536) (sum / 65536) (s.data.toList.take k) % 65521 := ⟨_, rfl⟩
    rw [← hx, ← hy]
    have hx0 : 0 ≤ x ∧ x < 65521 := by omega
    have hy0 : 0 ≤ y ∧ y < 65521 := by omega
    by_cases hlt : k < s.size
    · have HX : Hid (Sums.AA (sum % 65536) (s.data.toList.take (k + 1)) % 65521 = (x + (s[k].toNat : Int)) % 65521) := by rw [take_snoc s k hlt, Sums.AA_snoc, hx]; show _ = _; omega
      have HY : Hid (Sums.BB (sum % 65536) (sum / 65536) (s.data.toList.take (k + 1)) % 65521 = (y + (x + (s[k].toNat : Int)) % 65521) % 65521) := by rw [take_snoc s k hlt, Sums.BB_snoc, hx, hy]; show _ = _; omega
      have hcb : (s[k].toNat : Int) < 256 := by have := s[k].toNat_lt; omega
      clear hx hy
      go_wp2_with fail
      exact ⟨⟨k + 1, by omega, by go_num, by rw [HX.out], by rw [HY.out]⟩, by simp [intOf]; omega⟩
    · have HX := Lib.hid hx
      have HY := Lib.hid hy
      clear hx hy
      go_wp2_with fail
      go_ret
      refine ⟨ret_int ?_, rfl⟩
      rw [HX.out, HY.out, List.take_of_length_le (by simp; omega)]
      exact rfl

set_option maxHeartbeats 400000 in
theorem rjoin_any (x y n : Int) (w : World) (x0 : 0 ≤ x) (x1 : x < 4294967296) (y0 : 0 ≤ y) (y1 : y < 4294967296) (n0 : -9223372036854775808 ≤ n) (n1 : n ≤ 9223372036854775807) :
    Calls Try.prog 22 #[.int .u32 x, .int .u32 y, .int .i64 n] w fun e w' => e = .returned (.int .u32 (Sums.join x y n)) ∧ w = w' := by
  by_cases hn : n < 0
  all_goals
    go_enter Try.func22, Try.ntmps22
    go_wp2_with fail
    go_ret
    exact ⟨ret_int (by first | exact rjoin_eq0 x y n hn | exact rjoin_eq x y n (by omega) x0 x1 y0 y1), rfl⟩

def RSumRel (l : List ByteArray) (t i : Value) : Prop :=
  ∃ k : Nat, k ≤ l.length ∧ i = .int .i64 k ∧ t = .int .u32 (Sums.sum 1 ((l.take k).map (·.data.toList)))

set_option maxHeartbeats 400000 in
theorem rsum_any (A : Option Addr) (n c : Nat) (l : List ByteArray) (w : World) (h : Strs w A n l) (hn : n ≤ maxLen) (hs : ∀ s ∈ l, s.size ≤ maxLen) :
    Calls Try.prog 18 #[.slice A n c] w fun e w' => e = .returned (.int .u32 (Sums.sum 1 (l.map (·.data.toList)))) ∧ w = w' := by
  unfold maxLen at hn
  have hl := h.len
  subst hl
  go_enter Try.func18, Try.ntmps18
  go_wp2_with fail
  go_loop [3, 4] (fun t i => RSumRel l t i) (fun _ i => l.length - (intOf i).toNat)
  case atStart => exact ⟨0, by omega, rfl, rfl⟩
  case round =>
    obtain ⟨k, hk, rfl, rfl⟩ := hrel
    by_cases hlt : k < l.length
    · obtain ⟨b, off, s, rfl, hbl, hsk, hc⟩ := h.at_ hlt
      have hbd := Sums.sum_bd 1 ((l.take k).map (·.data.toList)) (by omega)
      have hm := rmore_any (Sums.sum 1 ((l.take k).map (·.data.toList))) s w hbd.1 hbd.2 (hs s (mem_of_at hsk))
      have HT : Hid (Sums.sum 1 ((l.take (k + 1)).map (·.data.toList)) = Sums.more (Sums.sum 1 ((l.take k).map (·.data.toList))) s.data.toList) := by
        rw [take_snoc_some hsk, List.map_append, List.map_cons, List.map_nil, Sums.sum_snoc]; exact rfl
      generalize Sums.sum 1 ((l.take k).map (·.data.toList)) = x at *
      have HM := Lib.hid hm
      clear hm hsk hs h
      go_wp2_with fail
      refine HM.out.mono ?_
      rintro e w2 ⟨rfl, rfl⟩
      go_wp2_with fail
      exact ⟨⟨k + 1, by omega, by go_num, by rw [HT.out]⟩, by simp [intOf]; omega⟩
    · go_wp2_with fail
      go_ret
      exact ⟨ret_int (by rw [List.take_of_length_le (by first | omega | (rw [List.length_map]; omega))]), rfl⟩
end Go.Proofs.Ytgmoakbmomaffaa.SumsW
