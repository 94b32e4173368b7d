/-
  Contracts of muster/nodeset: one, Of; muster/fleet's where, Free, Up, Of.
-/
import Derived.Test.YtdamocjbkdknaaaFleetCheck
namespace Go.Proofs.Ytdamocjbkdknaaa.FleetW
open Go.RowKit Mem Fleet
set_option linter.unusedVariables false
set_option linter.unusedSimpArgs false
set_option linter.unnecessarySimpa false

theorem pow_lt64 {n : Nat} (h : n < 64) : 2 ^ n < 2 ^ 64 := Nat.pow_lt_pow_right (by omega) h
theorem one_any (n : Nat) (w : World) (hn : n < 64) : Calls Try.prog 67 #[.int .i64 n] w fun e w' => e = .returned (.int .u64 ((2 ^ n : Nat) : Int)) ∧ w = w' := by
  have HW := Lib.hid (wrap_u64 (2 ^ n) (pow_lt64 hn))
  go_enter Try.func67, Try.ntmps67
  go_wp2_with fail
  go_ret
  exact ⟨ret_int (by have := HW.out; simpa using this), rfl⟩
theorem one_is (P n : Nat) (w : World) (hn : n < 64) (hp : P = 2 ^ n) : Calls Try.prog 67 #[.int .i64 n] w fun e w' => e = .returned (.int .u64 (P : Int)) ∧ w = w' := by rw [hp]; exact one_any n w hn
/-- the sum of the members' bits -/
def setM (m : List Nat) : Nat := (m.map (2 ^ ·)).sum
theorem setM_snoc (m : List Nat) (k : Nat) : setM (m ++ [k]) = setM m + 2 ^ k := by simp [setM]
theorem setM_lt_aux : ∀ (n : Nat) (m : List Nat) (b : Nat), m.length = n → m.Pairwise (· < ·) → (∀ x ∈ m, x < b) → setM m < 2 ^ b := by
  intro n
  induction n with
  | zero =>
    intro m b hl _ _
    have : m = [] := List.eq_nil_of_length_eq_zero hl
    subst this
    exact Nat.two_pow_pos b
  | succ n ih =>
    intro m b hl hp hb
    rcases List.eq_nil_or_concat m with rfl | ⟨m', k, rfl⟩
    · simp at hl
    · simp only [List.concat_eq_append] at *
      rw [setM_snoc]
      rw [List.pairwise_append] at hp
      have h1 := ih m' k (by simpa using hl) hp.1 (fun x hx => hp.2.2 x hx k (by simp))
      have h2 : k < b := hb k (by simp)
      have h3 : 2 ^ (k + 1) ≤ 2 ^ b := Nat.pow_le_pow_right (by omega) (by omega)
      rw [Nat.pow_succ] at h3
      omega
theorem setM_lt (m : List Nat) (b : Nat) (hp : m.Pairwise (· < ·)) (hb : ∀ x ∈ m, x < b) : setM m < 2 ^ b := setM_lt_aux _ m b rfl hp hb
theorem and_new {s k : Nat} (h : s < 2 ^ k) : s &&& 2 ^ k = 0 := by
  apply Nat.eq_of_testBit_eq
  intro i
  rw [Nat.testBit_and, Nat.testBit_two_pow, Nat.zero_testBit]
  by_cases hi : k = i
  · subst hi
    rw [Nat.testBit_lt_two_pow h]
    rfl
  · simp [hi]
theorem or_new {s k : Nat} (h : s < 2 ^ k) : s ||| 2 ^ k = s + 2 ^ k := by
  have := Nat.two_pow_add_eq_or_of_lt h 1
  rw [Nat.mul_one] at this
  rw [Nat.or_comm, ← this, Nat.add_comm]
def nats (m : List Nat) : List Int := m.map (fun (k : Nat) => (k : Int))
def OfPost (s : Nat) (w : World) (e : Ending) (w' : World) : Prop := e = .returned (.tuple #[.int .u64 (s : Int), .int .i64 0]) ∧ w = w'
set_option maxHeartbeats 1000000 in
theorem nof_any (A : Option Addr) (n c : Nat) (m : List Nat) (w : World) (h : Ints w A n (nats m)) (hn : n ≤ maxLen) (hp : m.Pairwise (· < ·)) (hm : ∀ x ∈ m, x < 64) :
    Calls Try.prog 70 #[.slice A n c] w (OfPost (setM m) w) := by
  unfold maxLen at hn
  have hlen := h.len
  have hlm : (nats m).length = m.length := by simp [nats]
  rw [hlm] at hlen
  subst hlen
  have HH := Lib.hid h
  have HP := Lib.hid hp
  have HM := Lib.hid hm
  clear h hp hm hlm
  go_enter Try.func70, Try.ntmps70
  go_wp2_with fail
  go_loop [4, 9] (fun s i => ∃ k : Nat, k ≤ m.length ∧ i = .int .i64 k ∧ s = .int .u64 ((setM (m.take k) : Nat) : Int)) (fun _ i => m.length - (intOf i).toNat)
  case atStart => exact ⟨0, by omega, rfl, rfl⟩
  case round =>
    obtain ⟨k, hk, rfl, rfl⟩ := hrel
    by_cases hlt : k < m.length
    · obtain ⟨b, off, z, rfl, hb, hz, d0⟩ := Lst.int HH.out hlt
      obtain ⟨x, hx⟩ : ∃ x, m[k]? = some x := ⟨_, List.getElem?_eq_getElem hlt⟩
      have hzx : z = (x : Int) := by
        rw [nats, List.getElem?_map, hx] at hz
        injection hz with hz
        exact hz.symm
      subst hzx
      have hx64 := HM.out x (mem_of_at hx)
      have hS : setM (m.take k) < 2 ^ x := by
        refine setM_lt _ _ (HP.out.sublist (List.take_sublist _ _)) fun y hy => ?_
        obtain ⟨j, hj, rfl⟩ := List.mem_take_iff_getElem.1 hy
        obtain ⟨hk', rfl⟩ := List.getElem?_eq_some_iff.1 hx
        exact List.pairwise_iff_getElem.1 HP.out j k (by omega) hk' (by omega)
      have hp64 := pow_lt64 hx64
      have e1 : setM (m.take (k + 1)) = setM (m.take k) + 2 ^ x := by rw [take_snoc_some hx, setM_snoc]
      obtain ⟨P, hP⟩ : ∃ P, P = 2 ^ x := ⟨_, rfl⟩
      have hand := bits_and (setM (m.take k)) (2 ^ x) (by omega) hp64
      have hor := bits_or (setM (m.take k)) (2 ^ x) (by omega) hp64
      rw [and_new hS] at hand
      rw [or_new hS, ← e1] at hor
      rw [← hP] at hand hor
      have HOne := Lib.hid (one_is P x w hx64 hP)
      have HS' := Lib.hid e1
      obtain ⟨S, hSS⟩ : ∃ S : Nat, S = setM (m.take k) := ⟨_, rfl⟩
      obtain ⟨S', hSS'⟩ : ∃ S' : Nat, S' = setM (m.take (k + 1)) := ⟨_, rfl⟩
      rw [← hSS] at hand hor ⊢
      rw [← hSS'] at hor
      have HS2 := Lib.hid hSS'
      have hx0 : (0 : Int) ≤ (x : Int) := by omega
      have hx1 : (x : Int) < 64 := by omega
      clear hz hx hS hp64 e1 hP hSS hSS' HS'
      simp only [Int.natCast_zero] at hand
      go_wp2_with fail
      refine HOne.out.mono ?_
      rintro e w' ⟨rfl, rfl⟩
      go_wp2_with fail
      refine HOne.out.mono ?_
      rintro e w' ⟨rfl, rfl⟩
      go_wp2_with fail
      go_round
      case rel => exact ⟨k + 1, by omega, by go_num, by rw [← HS2.out]⟩
      case measure => simp [intOf]; omega
    · obtain rfl : k = m.length := by omega
      rw [List.take_length]
      go_wp2_with fail
      go_ret2
      exact ⟨rfl, rfl⟩
end Go.Proofs.Ytdamocjbkdknaaa.FleetW
