/-
  Contracts of musterref09: bit, Has, List, Set. (gen_allocref09.py)
-/
import Derived.Test.YtdamocjbkdknaaaAllocHeld
import Derived.Test.YtdamocjbkdknaaaFleetRSets
namespace Go.Proofs.Ytdamocjbkdknaaa.FleetW
open Go.RowKit Mem Fleet
set_option linter.unusedVariables false
set_option linter.unusedSimpArgs false
set_option linter.unnecessarySimpa false

set_option maxHeartbeats 1000000 in
theorem r9bit_any (n : Nat) (w : World) (hn : n < 64) : Calls Try.prog 73 #[.int .i64 n] w fun e w' => e = .returned (.int .u64 ((2 ^ n : Nat) : Int)) ∧ w = w' := by
  go_enter Try.func73, Try.ntmps73
  go_wp2_with fail
  go_loop [3, 4] (fun s i => ∃ k : Nat, k ≤ n ∧ i = .int .i64 k ∧ s = .int .u64 ((2 ^ k : Nat) : Int)) (fun _ i => n - (intOf i).toNat)
  case atStart => exact ⟨0, by omega, rfl, rfl⟩
  case round =>
    obtain ⟨k, hk, rfl, rfl⟩ := hrel
    by_cases hlt : k < n
    · obtain ⟨P, hP⟩ : ∃ P, P = 2 ^ k := ⟨_, rfl⟩
      have h1 : 2 ^ (k + 1) ≤ 2 ^ 63 := Nat.pow_le_pow_right (by omega) (by omega)
      rw [Nat.pow_succ, ← hP] at h1
      have h2 : (P : Int) * 2 ≤ 18446744073709551615 := by omega
      have h3 : (0 : Int) ≤ (P : Int) * 2 := by omega
      have HP := Lib.hid hP
      rw [← hP]
      clear hP h1
      go_wp2_with fail
      go_round
      case rel => exact ⟨k + 1, by omega, by go_num, by rw [Nat.pow_succ, ← HP.out]; go_num⟩
      case measure => simp [intOf]; omega
    · obtain rfl : k = n := by omega
      obtain ⟨P, hP⟩ : ∃ P, P = 2 ^ k := ⟨_, rfl⟩
      rw [← hP]
      have HP2 := Lib.hid hP
      clear hP
      go_wp2_with fail
      go_ret
      exact ⟨ret_int (by rw [HP2.out]; simp), rfl⟩
theorem r9bit_is (P n : Nat) (w : World) (hn : n < 64) (hp : P = 2 ^ n) : Calls Try.prog 73 #[.int .i64 n] w fun e w' => e = .returned (.int .u64 (P : Int)) ∧ w = w' := by rw [hp]; exact r9bit_any n w hn
set_option maxHeartbeats 2000000 in
set_option maxRecDepth 100000 in
theorem r9list_any (s : Nat) (w : World) (hs : s < 2 ^ 64) : Calls Try.prog 63 #[.int .u64 (s : Int)] w (NewI (memL s) w) := by
  have H0 : Hid ([] ++ bitsL (64 - 0) 0 s = memL s) := bitsL_mem s
  go_enter Try.func63, Try.ntmps63
  go_wp2_with fail
  go_loopw [0, 3, 4] (fun S X Y wr => RLRel w s S X Y wr) (fun S _ _ _ => (intOf S).toNat)
  case atStart => exact ⟨0, s, none, 0, 0, [], by omega, rfl, rfl, rfl, by omega, hs, SOwn.nil _ _ _ _, H0.out, Below.refl _ _⟩
  case round =>
    obtain ⟨k, s', A1, n1, c1, done, hk, rfl, rfl, rfl, hnk, hlt, ho, hd, hbel⟩ := hrel
    have HO := Lib.hid ho
    have HD := Lib.hid hd
    have HLt := Lib.hid hlt
    clear ho hd hlt
    by_cases h0 : s' = 0
    · subst h0
      have HF : Hid (done = memL s) := by
        show _ = _
        have := HD.out
        rw [bitsL_zero, List.append_nil] at this
        exact this
      have hln : (memL s).length = n1 := by
        have := HO.out.1
        rw [HF.out] at this
        simpa [nats] using this
      have HL := Lib.hid hln
      clear hln
      go_wp2_with fail
      go_ret
      unfold NewI
      rw [HL.out]
      exact ⟨A1, c1, rfl, by rw [← HF.out]; exact HO.out, hbel⟩
    · have hk64 : k < 64 := by
        rcases Nat.lt_or_ge k 64 with h | h
        · exact h
        · have : k = 64 := by omega
          have hh := HLt.out
          rw [this] at hh
          simp at hh
          omega
      have hpos : 0 < (s' : Int) := by omega
      have hlt' : s' / 2 < 2 ^ (64 - (k + 1)) := by
        have hh := HLt.out
        have e : 64 - k = (64 - (k + 1)) + 1 := by omega
        rw [e, Nat.pow_succ] at hh
        omega
      have hub : (s' : Int) ≤ 18446744073709551615 := by
        have hh := HLt.out
        have : 2 ^ (64 - k) ≤ 2 ^ 64 := Nat.pow_le_pow_right (by omega) (by omega)
        omega
      have HLt' := Lib.hid hlt'
      have HSt := Lib.hid (bits_step (s := s') hk64)
      have hq : (s' : Int) / 2 = ((s' / 2 : Nat) : Int) := by omega
      have hless : s' / 2 < s' := by omega
      clear hlt'
      by_cases h1 : s' % 2 = 1
      · rw [if_pos h1] at HSt
        have e1 : ((s' : Int) % 2 == 1) = true := by rw [beq_iff_eq]; omega
        have e1' : (s' % 2 == 1) = true := by rw [beq_iff_eq]; exact h1
        have HN : Hid ((done ++ [k]) ++ bitsL (64 - (k + 1)) (k + 1) (s' / 2) = memL s) := by
          show _ = _
          rw [← HD.out, HSt.out, List.append_assoc]
        have HQ := Lib.hid hq
        obtain ⟨U, hU⟩ : ∃ U, U = wr.alloc (.cells #[.int .i64 (k : Int)] 3) := ⟨_, rfl⟩
        have bU : Below wr.heap.size wr U := by rw [hU]; exact (Below.refl _ _).alloc (Nat.le_refl _) _
        have sU : Ints U (some ⟨wr.heap.size, 0, none⟩) 1 [(k : Int)] := by rw [hU]; exact Lst.new layI wr (k : Int) #[.int .i64 (k : Int)] 3 rfl
        obtain ⟨A2, c2, w3, hrun, o3, b3, _, _⟩ := app_s layI (P := Try.prog) U w.heap.size 51 51 3 _ 8 Try.underlying51 intInfo rfl A1 n1 c1 _ (HO.out.below bU) (some ⟨wr.heap.size, 0, none⟩) 1 1 [(k : Int)] sU (by simp only [maxLen]; omega) (by omega) (Nat.le_trans hbel.size bU.size)
        have hnn : nats done ++ [(k : Int)] = nats (done ++ [k]) := by rw [nats_append]; rfl
        rw [hnn] at o3
        have HR := Lib.hid hrun
        have HO2 := Lib.hid o3
        rw [hU] at HR
        have b03 := (below_step hbel bU).trans b3
        clear hrun o3 sU hU hnn hq h1 h0
        go_wp2_with (at_builtin; refine wpList_app2 rfl _ _ rfl rfl rfl HR.out ?_)
        refine ⟨⟨k + 1, s' / 2, A2, n1 + 1, c2, done ++ [k], by omega, ?_, rfl, by go_num, by omega, HLt'.out, HO2.out, HN.out, b03⟩, ?_⟩
        · first | rfl | (rw [← HQ.out])
        · simp [intOf]; omega
      · rw [if_neg h1, List.nil_append] at HSt
        have e1 : ((s' : Int) % 2 == 1) = false := by rw [beq_eq_false_iff_ne]; omega
        have e1' : (s' % 2 == 1) = false := by rw [beq_eq_false_iff_ne]; exact h1
        have HN : Hid (done ++ bitsL (64 - (k + 1)) (k + 1) (s' / 2) = memL s) := by
          show _ = _
          rw [← HD.out, HSt.out]
        have HQ := Lib.hid hq
        clear hq h1 h0
        go_wp2_with fail
        refine ⟨⟨k + 1, s' / 2, A1, n1, c1, done, by omega, ?_, rfl, by go_num, by omega, HLt'.out, HO.out, HN.out, hbel⟩, ?_⟩
        · first | rfl | (rw [← HQ.out])
        · simp [intOf]; omega
theorem div_bit {s n : Nat} : (((s / 2 ^ n % 2 : Nat) : Int) == 1) = s.testBit n := by
  rw [Nat.testBit_eq_decide_div_mod_eq]
  by_cases h : s / 2 ^ n % 2 = 1
  · simp [h]
  · have : ¬ (((s / 2 ^ n % 2 : Nat) : Int) = 1) := by omega
    simp only [decide_eq_false h]
    exact beq_eq_false_iff_ne.2 this
set_option maxHeartbeats 1000000 in
theorem r9has_any (s n : Nat) (w : World) (hs : s < 2 ^ 64) (hn : n < 64) (r : Bool) (hr : s.testBit n = r) : Calls Try.prog 72 #[.int .u64 (s : Int), .int .i64 n] w fun e w' => e = .returned (.bool r) ∧ w = w' := by
  obtain ⟨P, hP⟩ : ∃ P, P = 2 ^ n := ⟨_, rfl⟩
  have HB := Lib.hid (r9bit_is P n w hn hP)
  have hpos : 0 < P := by rw [hP]; exact Nat.two_pow_pos n
  have e1 : ((s : Int) / (P : Int) % 2 == 1) = r := by
    rw [← hr, ← div_bit, ← hP]
    congr 1
  have hd : (s : Int) / (P : Int) = ((s / P : Nat) : Int) := by simp
  have hb := Nat.div_le_self s P
  have HE := Lib.hid e1
  have HD := Lib.hid hd
  have g1 : decide ((n : Int) < 0) = false := by simp
  have g2 : decide (63 < (n : Int)) = false := by simp; omega
  have h0 : (0 : Int) ≤ (s : Int) / (P : Int) := Int.ediv_nonneg (by omega) (by omega)
  have h1 : (s : Int) / (P : Int) ≤ 18446744073709551615 := by
    obtain ⟨D, hD⟩ : ∃ D, D = s / P := ⟨_, rfl⟩
    rw [hd, ← hD]
    rw [← hD] at hb
    omega
  have hne : ((P : Int) == 0) = false := by rw [beq_eq_false_iff_ne]; omega
  have hne' : (P : Int) ≠ 0 := by omega
  clear hP e1 hd hr hb
  go_enter Try.func72, Try.ntmps72
  go_wp2_with fail
  refine HB.out.mono ?_
  rintro e w1 ⟨rfl, rfl⟩
  go_wp2_with fail
  go_ret
  rw [HE.out]
  exact ⟨rfl, rfl⟩
def R9Rel (w : World) (m : List Nat) (X Y : Value) (wr : World) : Prop := ∃ k : Nat, k ≤ m.length ∧ X = .int .u64 ((setM (m.take k) : Nat) : Int) ∧ Y = .int .i64 k ∧ wr = w
set_option maxHeartbeats 2000000 in
theorem r9set_any (A : Option Addr) (n c : Nat) (m : List Nat) (w : World) (h : Ints w A n (nats m)) (hn : n ≤ maxLen) (hp : m.Pairwise (· < ·)) (hm : ∀ x ∈ m, x < 64) :
    Calls Try.prog 65 #[.slice A n c] w fun e w' => e = .returned (.int .u64 ((setM m : Nat) : Int)) ∧ w = w' := by
  have hlen : n = m.length := by have := h.len; simpa [nats] using this.symm
  subst hlen
  have HH := Lib.hid h
  have HP := Lib.hid hp
  have HM := Lib.hid hm
  unfold maxLen at hn
  clear h hp hm
  go_enter Try.func65, Try.ntmps65
  go_wp2_with fail
  go_loopw [3, 4] (fun X Y wr => R9Rel w m X Y wr) (fun _ Y _ => m.length - (intOf Y).toNat)
  case atStart => exact ⟨0, by omega, rfl, rfl, rfl⟩
  case round =>
    obtain ⟨k, hk, rfl, rfl, rfl⟩ := hrel
    by_cases hlt : k < m.length
    · obtain ⟨b, off, z, rfl, hb, hz, d0⟩ := Lst.int HH.out hlt
      obtain ⟨x, hx⟩ : ∃ x, m[k]? = some x := ⟨_, List.getElem?_eq_getElem hlt⟩
      have hzx : z = (x : Int) := by
        rw [nats, List.getElem?_map, hx] at hz
        injection hz with hz
        exact hz.symm
      subst hzx
      have hx64 := HM.out x (mem_of_at hx)
      have hS : setM (m.take k) < 2 ^ x := by
        refine setM_lt _ _ (HP.out.sublist (List.take_sublist _ _)) fun y hy => ?_
        obtain ⟨j, hj, rfl⟩ := List.mem_take_iff_getElem.1 hy
        obtain ⟨hk', rfl⟩ := List.getElem?_eq_some_iff.1 hx
        exact List.pairwise_iff_getElem.1 HP.out j k (by omega) hk' (by omega)
      have hp64 := pow_lt64 hx64
      have e1 : setM (m.take (k + 1)) = setM (m.take k) + 2 ^ x := by rw [take_snoc_some hx, setM_snoc]
      have hsum : setM (m.take k) + 2 ^ x < 2 ^ 64 := by
        rw [← e1]
        exact setM_lt _ _ (HP.out.sublist (List.take_sublist _ _)) fun y hy => HM.out y (List.mem_of_mem_take hy)
      have HHas := Lib.hid (r9has_any (setM (m.take k)) x wr (by omega) hx64 false (Nat.testBit_lt_two_pow hS))
      obtain ⟨P, hP⟩ : ∃ P, P = 2 ^ x := ⟨_, rfl⟩
      have HBit := Lib.hid (r9bit_is P x wr hx64 hP)
      obtain ⟨T, hT⟩ : ∃ T, T = setM (m.take k) := ⟨_, rfl⟩
      rw [← hT] at HHas ⊢
      rw [← hP, ← hT] at e1 hsum
      have HS' := Lib.hid e1
      have h2 : (T : Int) + (P : Int) ≤ 18446744073709551615 := by omega
      have h3 : (0 : Int) ≤ (T : Int) + (P : Int) := by omega
      clear hS hp64 e1 hx hz hP hT hsum
      go_wp2_with fail
      refine HHas.out.mono ?_
      rintro e w1 ⟨rfl, rfl⟩
      go_wp2_with fail
      refine HBit.out.mono ?_
      rintro e w1 ⟨rfl, rfl⟩
      go_wp2_with fail
      exact ⟨⟨k + 1, by omega, by rw [HS'.out]; go_num, by go_num, rfl⟩, by simp [intOf]; omega⟩
    · obtain rfl : k = m.length := by omega
      have HE : Hid (setM (m.take m.length) = setM m) := by show _ = _; rw [List.take_length]
      go_wp2_with fail
      go_ret
      rw [HE.out]
      exact ⟨rfl, rfl⟩
end Go.Proofs.Ytdamocjbkdknaaa.FleetW
