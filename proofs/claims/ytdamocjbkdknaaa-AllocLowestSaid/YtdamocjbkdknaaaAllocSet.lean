/-
  Contracts: math/bits.OnesCount64; muster/nodeset's Count.
-/
import Derived.Test.YtdamocjbkdknaaaAllocPop
namespace Go.Proofs.Ytdamocjbkdknaaa.FleetW
open Go.RowKit Mem Fleet
set_option linter.unusedVariables false
set_option linter.unusedSimpArgs false
set_option linter.unnecessarySimpa false

theorem bits_and_i64 (a b : Nat) (ha : a < 2 ^ 63) (hb : b < 2 ^ 63) : bits .and .i64 (a : Int) (b : Int) = ((a &&& b : Nat) : Int) := by
  unfold bits
  show IntKind.i64.wrap _ = _
  have e : ((BitVec.ofInt IntKind.i64.bits (a : Int)) &&& (BitVec.ofInt IntKind.i64.bits (b : Int))).toNat = a &&& b := by
    show ((BitVec.ofInt 64 (a : Int)) &&& (BitVec.ofInt 64 (b : Int))).toNat = a &&& b
    rw [BitVec.toNat_and, bv_nat a (by omega), bv_nat b (by omega)]
  have hlt : a &&& b < 2 ^ 63 := Nat.lt_of_le_of_lt Nat.and_le_left ha
  rw [e]
  exact IntWalk.i64_in _ (by omega)
structure Pop (s : Nat) where
  (A1 A2 X1 B1 B2 X2 C X3 X4 X5 X6 R : Nat)
  h1 : (s / 2) &&& 6148914691236517205 = A1
  h2 : s &&& 6148914691236517205 = A2
  h3 : A1 + A2 = X1
  h4 : (X1 / 4) &&& 3689348814741910323 = B1
  h5 : X1 &&& 3689348814741910323 = B2
  h6 : B1 + B2 = X2
  h7 : X2 / 16 + X2 = C
  h8 : C &&& 1085102592571150095 = X3
  h9 : X3 + X3 / 256 = X4
  h10 : X4 + X4 / 65536 = X5
  h11 : X5 + X5 / 4294967296 = X6
  h12 : X6 &&& 127 = R
  l1 : X1 < 2 ^ 64
  l2 : X2 < 2 ^ 64
  l3 : C < 2 ^ 64
  l4 : X4 < 2 ^ 63
  l5 : X5 < 2 ^ 63
  l6 : X6 < 2 ^ 63
  r : R = (memL s).length
theorem val_lt : ∀ bs : List Nat, (∀ b ∈ bs, b < 256) → val bs < 256 ^ bs.length
  | [], _ => by simp [val]
  | b :: r, h => by
    have := val_lt r (fun x hx => h x (by simp [hx]))
    have hb := h b (by simp)
    simp only [val, List.length_cons, Nat.pow_succ]
    omega
theorem list8 {bs : List Nat} (h : bs.length = 8) : ∃ a b c d e f g i, bs = [a, b, c, d, e, f, g, i] := by
  match bs, h with
  | [a, b, c, d, e, f, g, i], _ => exact ⟨a, b, c, d, e, f, g, i, rfl⟩
theorem popOf (s : Nat) (hs : s < 2 ^ 64) : Nonempty (Pop s) := by
  have hv : val (bytesOf 8 s) = s := bytesOf_val 8 s (by omega)
  have hl := bytesOf_len 8 s
  have hb := bytesOf_lt 8 s
  obtain ⟨bs, hbs⟩ : ∃ bs, bs = bytesOf 8 s := ⟨_, rfl⟩
  rw [← hbs] at hv hl hb
  have s1 := st1 bs hb
  have hb1 : ∀ b ∈ bs.map g1, b < 256 := fun b h => by obtain ⟨x, hx, rfl⟩ := List.mem_map.1 h; exact g1_lt ⟨x, hb x hx⟩
  have s2 := st2 (bs.map g1) hb1
  have hb2 : ∀ b ∈ (bs.map g1).map g2, b ≤ 68 ∧ b % 16 ≤ 4 := fun b h => by
    obtain ⟨y, hy, rfl⟩ := List.mem_map.1 h
    obtain ⟨x, hx, rfl⟩ := List.mem_map.1 hy
    exact g2_lt ⟨x, hb x hx⟩
  have s3 := st3 ((bs.map g1).map g2) hb2
  have hm : ((bs.map g1).map g2).map g3 = bs.map cnt8 := by simp only [List.map_map]; rfl
  have l1 := val_lt _ hb1
  have l2 := val_lt ((bs.map g1).map g2) (fun b h => by have := (hb2 b h).1; omega)
  simp only [List.length_map, hl] at s1 s2 s3 l1 l2
  rw [hv] at s1
  have k1 : mask 85 8 = 6148914691236517205 := by decide
  have k2 : mask 51 8 = 3689348814741910323 := by decide
  have k3 : mask 15 8 = 1085102592571150095 := by decide
  rw [k1] at s1
  rw [k2] at s2
  rw [k3, hm] at s3
  obtain ⟨c0, c1, c2, c3, c4, c5, c6, c7, hc⟩ := list8 (show (bs.map cnt8).length = 8 by simp [hl])
  have hle : ∀ b ∈ bs.map cnt8, b ≤ 8 := fun b h => by obtain ⟨x, hx, rfl⟩ := List.mem_map.1 h; exact cnt8_le ⟨x, hb x hx⟩
  rw [hc] at hle
  obtain ⟨f1, f2, f3, f4⟩ := fin_sum c0 c1 c2 c3 c4 c5 c6 c7 (hle _ (by simp)) (hle _ (by simp)) (hle _ (by simp)) (hle _ (by simp)) (hle _ (by simp)) (hle _ (by simp)) (hle _ (by simp)) (hle _ (by simp)) _ _ _ _ (by rw [← hc]) rfl rfl rfl
  have hr : (memL s).length = c0 + c1 + c2 + c3 + c4 + c5 + c6 + c7 := by
    rw [← pop_mem, pop_sum, ← hbs, hc]
    simp [List.sum_cons, Nat.add_assoc]
  have hC : val ((bs.map g1).map g2) / 16 + val ((bs.map g1).map g2) < 2 ^ 64 := by
    have h8' : val ((bs.map g1).map g2) ≤ 68 * 72340172838076673 := by
      obtain ⟨e0, e1, e2, e3, e4, e5, e6, e7, he⟩ := list8 (show ((bs.map g1).map g2).length = 8 by simp [hl])
      rw [he] at hb2 ⊢
      exact Nat.le_trans (hstep (hb2 e0 (by simp)).1 (hstep (hb2 e1 (by simp)).1 (hstep (hb2 e2 (by simp)).1 (hstep (hb2 e3 (by simp)).1 (hstep (hb2 e4 (by simp)).1 (hstep (hb2 e5 (by simp)).1 (hstep (hb2 e6 (by simp)).1 (hstep (hb2 e7 (by simp)).1 (Nat.le_refl 0))))))))) (by decide)
    omega
  refine ⟨⟨_, _, _, _, _, _, _, _, _, _, _, _, rfl, rfl, s1, rfl, rfl, s2, rfl, s3, rfl, rfl, rfl, rfl, ?_, ?_, hC, f3, f4, f2, ?_⟩⟩
  · have : (256 : Nat) ^ 8 = 2 ^ 64 := by decide
    omega
  · have : (256 : Nat) ^ 8 = 2 ^ 64 := by decide
    omega
  · rw [hr, ← f1]
    exact Nat.and_two_pow_sub_one_eq_mod _ 7
set_option maxHeartbeats 2000000 in
set_option maxRecDepth 100000 in
theorem ones_any (s : Nat) (w : World) (hs : s < 2 ^ 64) : Calls Try.prog 66 #[.int .u64 (s : Int)] w fun e w' => e = .returned (.int .i64 ((memL s).length : Int)) ∧ w = w' := by
  obtain ⟨P⟩ := popOf s hs
  obtain ⟨A1, A2, X1, B1, B2, X2, C, X3, X4, X5, X6, R, h1, h2, h3, h4, h5, h6, h7, h8, h9, h10, h11, h12, l1, l2, l3, l4, l5, l6, hr⟩ := P
  have z1 : ((s / 2 : Nat) : Int) = (s : Int) / 2 := by omega
  have z2 : ((X1 / 4 : Nat) : Int) = (X1 : Int) / 4 := by omega
  have E1 := bits_and (s / 2) 6148914691236517205 (by omega) (by decide)
  have E2 := bits_and s 6148914691236517205 hs (by decide)
  have E4 := bits_and (X1 / 4) 3689348814741910323 (by omega) (by decide)
  have E5 := bits_and X1 3689348814741910323 l1 (by decide)
  have E8 := bits_and C 1085102592571150095 l3 (by decide)
  have E12 := bits_and_i64 X6 127 l6 (by decide)
  rw [h1, z1] at E1
  rw [h2] at E2
  rw [h4, z2] at E4
  rw [h5] at E5
  rw [h8] at E8
  rw [h12] at E12
  have W1 : IntKind.u64.wrap ((A1 : Int) + (A2 : Int)) = (X1 : Int) := by
    have e : (A1 : Int) + (A2 : Int) = ((X1 : Nat) : Int) := by omega
    rw [e]; exact wrap_u64 _ l1
  have W2 : IntKind.u64.wrap ((B1 : Int) + (B2 : Int)) = (X2 : Int) := by
    have e : (B1 : Int) + (B2 : Int) = ((X2 : Nat) : Int) := by omega
    rw [e]; exact wrap_u64 _ l2
  have W3 : IntKind.u64.wrap ((X2 : Int) / 16 + (X2 : Int)) = (C : Int) := by
    have e : (X2 : Int) / 16 + (X2 : Int) = ((C : Nat) : Int) := by omega
    rw [e]; exact wrap_u64 _ l3
  have W4 : IntKind.u64.wrap ((X3 : Int) + (X3 : Int) / 256) = (X4 : Int) := by
    have e : (X3 : Int) + (X3 : Int) / 256 = ((X4 : Nat) : Int) := by omega
    rw [e]; exact wrap_u64 _ (by omega)
  have W5 : IntKind.u64.wrap ((X4 : Int) + (X4 : Int) / 65536) = (X5 : Int) := by
    have e : (X4 : Int) + (X4 : Int) / 65536 = ((X5 : Nat) : Int) := by omega
    rw [e]; exact wrap_u64 _ (by omega)
  have W6 : IntKind.u64.wrap ((X5 : Int) + (X5 : Int) / 4294967296) = (X6 : Int) := by
    have e : (X5 : Int) + (X5 : Int) / 4294967296 = ((X6 : Nat) : Int) := by omega
    rw [e]; exact wrap_u64 _ (by omega)
  have W7 : wrap64 (X6 : Int) = (X6 : Int) := IntWalk.wrap64_in _ ⟨by omega, by omega⟩
  have HE1 := Lib.hid E1
  have HE2 := Lib.hid E2
  have HE4 := Lib.hid E4
  have HE5 := Lib.hid E5
  have HE8 := Lib.hid E8
  have HE12 := Lib.hid E12
  have HW1 := Lib.hid W1
  have HW2 := Lib.hid W2
  have HW3 := Lib.hid W3
  have HW4 := Lib.hid W4
  have HW5 := Lib.hid W5
  have HW6 := Lib.hid W6
  have HW7 := Lib.hid W7
  have HR := Lib.hid hr
  clear E1 E2 E4 E5 E8 E12 W1 W2 W3 W4 W5 W6 W7 z1 z2 h1 h2 h3 h4 h5 h6 h7 h8 h9 h10 h11 h12 hr l1 l2 l3 l4 l5 l6 hs
  go_enter Try.func66, Try.ntmps66
  go_wp2_with fail
  go_ret
  refine ⟨ret_int ?_, rfl⟩
  erw [HE1.out, HE2.out, HW1.out, HE4.out, HE5.out, HW2.out, HW3.out, HE8.out, HW4.out, HW5.out, HW6.out]
  rw [HW7.out]
  erw [HE12.out]
  rw [HR.out]
theorem count_any (s : Nat) (w : World) (hs : s < 2 ^ 64) : Calls Try.prog 43 #[.int .u64 (s : Int)] w fun e w' => e = .returned (.int .i64 ((memL s).length : Int)) ∧ w = w' := by
  have HO := Lib.hid (ones_any s w hs)
  generalize (memL s).length = n at HO ⊢
  go_enter Try.func43, Try.ntmps43
  go_wp2_with fail
  refine HO.out.mono ?_
  rintro e w' ⟨rfl, rfl⟩
  go_wp2_with fail
  go_ret
  exact ⟨rfl, rfl⟩
theorem and_pow (s k : Nat) : s &&& 2 ^ k = if s.testBit k then 2 ^ k else 0 := by
  apply Nat.eq_of_testBit_eq
  intro i
  rw [Nat.testBit_and, Nat.testBit_two_pow]
  by_cases hi : k = i
  · subst hi
    cases h : s.testBit k <;> simp
  · cases h : s.testBit k <;> simp [hi]
/-- is the k-th bit set, as the program asks -/
theorem bits_has (s k : Nat) (P : Nat) (hs : s < 2 ^ 64) (hk : k < 64) (hP : P = 2 ^ k) : (bits .and .u64 (s : Int) (P : Int) != 0) = s.testBit k := by
  rw [hP, bits_and s (2 ^ k) hs (pow_lt64 hk), and_pow]
  have hp := Nat.two_pow_pos k
  cases h : s.testBit k
  · simp
  · simp only [if_true, bne_iff_ne]
    omega
end Go.Proofs.Ytdamocjbkdknaaa.FleetW
