/-
  Contracts of musterref10: Check, Now, At, Least, Flat.
-/
import Derived.Test.YthfnmighhoighaaProf3
namespace Go.Proofs.Ythfnmighhoighaa.ProfW
open Go.RowKit Mem Prof
set_option linter.unusedVariables false

set_option maxHeartbeats 1000000 in
theorem now_any (A : Option Addr) (n c : Nat) (p : List Stp) (t : Int) (w : World) (h : Steps w A n p) (hn : n ≤ maxLen) :
    Calls Try.prog 74 #[.slice A n c, .int .i64 t] w fun e w' => e = .returned (.int .i64 (now p t)) ∧ w = w' := by
  unfold maxLen at hn
  have hl := h.len
  subst hl
  go_enter Try.func74, Try.ntmps74
  go_wp2_with fail
  go_loop [5, 6] (fun x i => ∃ k : Nat, k ≤ p.length ∧ i = .int .i64 k ∧ x = .int .i64 (now (p.take k) t)) (fun _ i => p.length - (intOf i).toNat)
  case atStart => exact ⟨0, by omega, rfl, rfl⟩
  case round =>
    obtain ⟨k, hk, rfl, rfl⟩ := hrel
    by_cases hlt : k < p.length
    · obtain ⟨b, off, s, rfl, _, hs, c0, c1⟩ := Lst.two h hlt
      have HN : Hid (now (p.take (k + 1)) t = if s.1 ≤ t then s.2 else now (p.take k) t) := by show _ = _; rw [take_snoc_some hs, now_snoc]
      clear hs h
      by_cases hst : s.1 ≤ t
      · rw [if_pos hst] at HN
        go_wp2_with fail
        go_round
        case rel => exact ⟨k + 1, by omega, by go_num, by rw [HN.out]⟩
        case measure => simp [intOf]; omega
      · rw [if_neg hst] at HN
        go_wp2_with fail
        go_round
        case rel => exact ⟨k + 1, by omega, by go_num, by rw [HN.out]⟩
        case measure => simp [intOf]; omega
    · go_wp2_with fail
      go_ret
      exact ⟨ret_int (by rw [List.take_of_length_le (by omega)]), rfl⟩

def RChkRel (w : World) (p : List Stp) (i : Value) (wr : World) : Prop := ∃ k d : Nat, k ≤ p.length ∧ i = .int .i64 k ∧ (∀ j, j < k → stepB p j = true) ∧ wr = w.drewN d
set_option maxHeartbeats 2000000 in
set_option maxRecDepth 100000 in
theorem rcheck_any (A : Option Addr) (n c : Nat) (p : List Stp) (w : World) (h : Steps w A n p) (hn : n ≤ maxLen) :
    Calls Try.prog 62 #[.slice A n c] w (Drew (.int .i64 (chkE p)) w) := by
  unfold maxLen at hn
  have hlen := h.len
  subst hlen
  by_cases h0 : p.length = 0
  · have hq : p.length < 1 := by omega
    have HC := Lib.hid (chkE_no (chkB_empty h0))
    clear h0 h
    go_enter Try.func62, Try.ntmps62
    go_wp2_with fail
    go_ret
    exact ⟨ret_int HC.out.symm, 0, rfl⟩
  · have hq : 1 ≤ p.length := by omega
    by_cases h1 : 1000 < p.length
    · have HC := Lib.hid (chkE_no (chkB_long h1))
      clear h0 h
      go_enter Try.func62, Try.ntmps62
      go_wp2_with fail
      go_ret
      exact ⟨ret_int HC.out.symm, 0, rfl⟩
    · have hpos : 0 < p.length := by omega
      obtain ⟨b, off, s0, rfl, hb, hs0, c0, c1⟩ := Lst.two h hpos
      rw [Nat.zero_mul, Nat.add_zero] at c0
      by_cases hz : s0.1 = 0
      · have hqz : (s0.1 != 0) = false := by simp [hz]
        have HS0 := Lib.hid hs0
        have HZ := Lib.hid hz
        have hle : p.length ≤ 1000 := by omega
        clear h0 h1 hs0 hz
        go_enter Try.func62, Try.ntmps62
        go_wp2_with fail
        go_loopw [3] (fun i wr => RChkRel w p i wr) (fun i _ => p.length - (intOf i).toNat)
        case atStart => exact ⟨0, 0, by omega, rfl, by omega, rfl⟩
        case round =>
          obtain ⟨k, d, hk, rfl, hall, rfl⟩ := hrel
          have HAll := Lib.hid hall
          clear hall c0 c1
          by_cases hlt : k < p.length
          · obtain ⟨b', off', s, e, hb', hs, d0, d1⟩ := Lst.two h hlt
            injection e with e
            injection e with e1 e2
            subst e1 e2
            have HS := Lib.hid hs
            clear hs
            by_cases hf : fitB s.2 = true
            · obtain ⟨hf1, hf2⟩ := fitB_iff.1 hf
              have HFt := Lib.hid hf
              clear hf
              by_cases ha : s.1 ≤ 1000000
              · by_cases hk0 : k = 0
                · have hk1 : decide (0 < k) = false := by simp [hk0]
                  have hk2 : ¬ 0 < k := by omega
                  have HG := Lib.hid (stepB_yes HS.out HFt.out ha (.inl hk0))
                  clear hk0
                  go_wp2_with fail
                  go_quiet (fail)
                  go_wp2_with fail
                  exact ⟨⟨k + 1, _, by omega, by go_num, all_lt HAll.out HG.out, rfl⟩, by simp [intOf]; omega⟩
                · have hk1 : decide (0 < k) = true := by simp; omega
                  have hk2 : 0 < k := by omega
                  obtain ⟨b', off', r, e, _, hr, f0, f1⟩ := Lst.two h (show k - 1 < p.length by omega)
                  injection e with e
                  injection e with e1 e2
                  subst e1 e2
                  have HR := Lib.hid hr
                  have hw1 : IntKind.i64.wrap ((k : Int) - 1) = (k : Int) - 1 := IntWalk.i64_in _ (by omega)
                  have hw2 : (0 : Int) ≤ (k : Int) - 1 := by omega
                  have hw3 : (1 : Int) ≤ (k : Int) := by omega
                  have hw4 : ((k : Int) - 1).toNat = k - 1 := by omega
                  have hw5 : (k : Int) - 1 < (p.length : Int) := by omega
                  have HK := Lib.hid hk0
                  clear hk0 hr
                  by_cases hu : s.1 ≤ r.1
                  · have hu1 : decide (s.1 ≤ r.1) = true := by simpa using hu
                    have HC := Lib.hid (chkE_no (chkB_bad hlt (stepB_prev HS.out HR.out HK.out (.inl hu))))
                    go_wp2_with fail
                    go_quiet (fail)
                    go_wp2_with fail
                    go_ret
                    exact ⟨ret_int HC.out.symm, _, World.drewN_drewN _ _ _⟩
                  · have hu1 : decide (s.1 ≤ r.1) = false := by simpa using hu
                    by_cases hv : s.2 = r.2
                    · have hv1 : (s.2 == r.2) = true := by simpa using hv
                      have HC := Lib.hid (chkE_no (chkB_bad hlt (stepB_prev HS.out HR.out HK.out (.inr hv.symm))))
                      clear hv
                      go_wp2_with fail
                      go_quiet (fail)
                      go_wp2_with fail
                      go_ret
                      exact ⟨ret_int HC.out.symm, _, World.drewN_drewN _ _ _⟩
                    · have hv1 : (s.2 == r.2) = false := by simpa using hv
                      have HG := Lib.hid (stepB_yes HS.out HFt.out ha (.inr ⟨r, HR.out, by omega, fun e => hv e.symm⟩))
                      go_wp2_with fail
                      go_quiet (fail)
                      go_wp2_with fail
                      exact ⟨⟨k + 1, _, by omega, by go_num, all_lt HAll.out HG.out, rfl⟩, by simp [intOf]; omega⟩
              · have HC := Lib.hid (chkE_no (chkB_bad hlt (stepB_at HS.out (by omega))))
                go_wp2_with fail
                go_ret
                exact ⟨ret_int HC.out.symm, _, rfl⟩
            · have HC := Lib.hid (chkE_no (chkB_bad hlt (stepB_fit HS.out (by simpa using hf))))
              have hf2 : s.2 < -1000000 ∨ (-1000000 ≤ s.2 ∧ 1000000 < s.2) := by rw [fitB_iff] at hf; omega
              clear hf
              rcases hf2 with q1 | ⟨q1, q2⟩
              all_goals
                go_wp2_with fail
                go_ret
                exact ⟨ret_int HC.out.symm, _, rfl⟩
          · have HC := Lib.hid (chkE_yes (chkB_good hle HS0.out HZ.out (fun i hi => HAll.out i (by omega))))
            go_wp2_with fail
            go_ret
            exact ⟨ret_int HC.out.symm, _, rfl⟩
      · have hqz : (s0.1 != 0) = true := by simpa using hz
        have HC := Lib.hid (chkE_no (chkB_head hs0 hz))
        clear h0 h hs0 hz
        go_enter Try.func62, Try.ntmps62
        go_wp2_with fail
        go_ret
        exact ⟨ret_int HC.out.symm, 0, rfl⟩

theorem tick_cases {t : Int} (h : tickB t = false) : t < 0 ∨ (0 ≤ t ∧ 1000000 < t) := by
  simp only [tickB, Bool.and_eq_false_iff, decide_eq_false_iff_not] at h
  omega
end Go.Proofs.Ythfnmighhoighaa.ProfW
