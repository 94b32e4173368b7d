/-
  Contracts of musterref10: Check, Now, At, Least, Flat.
-/
import Derived.Test.YtmjjbodglbdadaaProf3
namespace Go.Proofs.Ytmjjbodglbdadaa.ProfW
open Go.RowKit Mem Prof
set_option linter.unusedVariables false

set_option maxHeartbeats 1000000 in
theorem now_any (A : Option Addr) (n c : Nat) (p : List Stp) (t : Int) (w : World) (h : Steps w A n p) (hn : n ≤ maxLen) :
    Calls Try.prog 38 #[.slice A n c, .int .i64 t] w fun e w' => e = .returned (.int .i64 (now p t)) ∧ w = w' := by
  unfold maxLen at hn
  have hl := h.len
  subst hl
  go_enter Try.func38, Try.ntmps38
  go_wp2_with fail
  go_loop [5, 6] (fun x i => ∃ k : Nat, k ≤ p.length ∧ i = .int .i64 k ∧ x = .int .i64 (now (p.take k) t)) (fun _ i => p.length - (intOf i).toNat)
  case atStart => exact ⟨0, by omega, rfl, rfl⟩
  case round =>
    obtain ⟨k, hk, rfl, rfl⟩ := hrel
    by_cases hlt : k < p.length
    · obtain ⟨b, off, s, rfl, _, hs, c0, c1⟩ := Lst.two h hlt
      have HN : Hid (now (p.take (k + 1)) t = if s.1 ≤ t then s.2 else now (p.take k) t) := by show _ = _; rw [take_snoc_some hs, now_snoc]
      clear hs h
      by_cases hst : s.1 ≤ t
      · rw [if_pos hst] at HN
        go_wp2_with fail
        go_round
        case rel => exact ⟨k + 1, by omega, by go_num, by rw [HN.out]⟩
        case measure => simp [intOf]; omega
      · rw [if_neg hst] at HN
        go_wp2_with fail
        go_round
        case rel => exact ⟨k + 1, by omega, by go_num, by rw [HN.out]⟩
        case measure => simp [intOf]; omega
    · go_wp2_with fail
      go_ret
      exact ⟨ret_int (by rw [List.take_of_length_le (by omega)]), rfl⟩

def RChkRel (w : World) (p : List Stp) (i : Value) (wr : World) : Prop := ∃ k d : Nat, k ≤ p.length ∧ i = .int .i64 k ∧ (∀ j, j < k → stepB p j = true) ∧ wr = w.drewN d
set_option maxHeartbeats 2000000 in
set_option maxRecDepth 100000 in
theorem rcheck_any (A : Option Addr) (n c : Nat) (p : List Stp) (w : World) (h : Steps w A n p) (hn : n ≤ maxLen) :
    Calls Try.prog 15 #[.slice A n c] w (Drew (.int .i64 (chkE p)) w) := by
  unfold maxLen at hn
  have hlen := h.len
  subst hlen
  by_cases h0 : p.length = 0
  · have hq : p.length < 1 := by omega
    have HC := Lib.hid (chkE_no (chkB_empty h0))
    clear h0 h
    go_enter Try.func15, Try.ntmps15
    go_wp2_with fail
    go_ret
    exact ⟨ret_int HC.out.symm, 0, rfl⟩
  · have hq : 1 ≤ p.length := by omega
    by_cases h1 : 1000 < p.length
    · have HC := Lib.hid (chkE_no (chkB_long h1))
      clear h0 h
      go_enter Try.func15, Try.ntmps15
      go_wp2_with fail
      go_ret
      exact ⟨ret_int HC.out.symm, 0, rfl⟩
    · have hpos : 0 < p.length := by omega
      obtain ⟨b, off, s0, rfl, hb, hs0, c0, c1⟩ := Lst.two h hpos
      rw [Nat.zero_mul, Nat.add_zero] at c0
      by_cases hz : s0.1 = 0
      · have hqz : (s0.1 != 0) = false := by simp [hz]
        have HS0 := Lib.hid hs0
        have HZ := Lib.hid hz
        have hle : p.length ≤ 1000 := by omega
        clear h0 h1 hs0 hz
        go_enter Try.func15, Try.ntmps15
        go_wp2_with fail
        go_loopw [3] (fun i wr => RChkRel w p i wr) (fun i _ => p.length - (intOf i).toNat)
        case atStart => exact ⟨0, 0, by omega, rfl, by omega, rfl⟩
        case round =>
          obtain ⟨k, d, hk, rfl, hall, rfl⟩ := hrel
          have HAll := Lib.hid hall
          clear hall c0 c1
          by_cases hlt : k < p.length
          · obtain ⟨b', off', s, e, hb', hs, d0, d1⟩ := Lst.two h hlt
            injection e with e
            injection e with e1 e2
            subst e1 e2
            have HS := Lib.hid hs
            clear hs
            by_cases hf : fitB s.2 = true
            · obtain ⟨hf1, hf2⟩ := fitB_iff.1 hf
              have HFt := Lib.hid hf
              clear hf
              by_cases ha : s.1 ≤ 1000000
              · by_cases hk0 : k = 0
                · have hk1 : decide (0 < k) = false := by simp [hk0]
                  have hk2 : ¬ 0 < k := by omega
                  have HG := Lib.hid (stepB_yes HS.out HFt.out ha (.inl hk0))
                  clear hk0
                  go_wp2_with fail
                  go_quiet (fail)
                  go_wp2_with fail
                  exact ⟨⟨k + 1, _, by omega, by go_num, all_lt HAll.out HG.out, rfl⟩, by simp [intOf]; omega⟩
                · have hk1 : decide (0 < k) = true := by simp; omega
                  have hk2 : 0 < k := by omega
                  obtain ⟨b', off', r, e, _, hr, f0, f1⟩ := Lst.two h (show k - 1 < p.length by omega)
                  injection e with e
                  injection e with e1 e2
                  subst e1 e2
                  have HR := Lib.hid hr
                  have hw1 : IntKind.i64.wrap ((k : Int) - 1) = (k : Int) - 1 := IntWalk.i64_in _ (by omega)
                  have hw2 : (0 : Int) ≤ (k : Int) - 1 := by omega
                  have hw3 : (1 : Int) ≤ (k : Int) := by omega
                  have hw4 : ((k : Int) - 1).toNat = k - 1 := by omega
                  have hw5 : (k : Int) - 1 < (p.length : Int) := by omega
                  have HK := Lib.hid hk0
                  clear hk0 hr
                  by_cases hu : s.1 ≤ r.1
                  · have hu1 : decide (s.1 ≤ r.1) = true := by simpa using hu
                    have HC := Lib.hid (chkE_no (chkB_bad hlt (stepB_prev HS.out HR.out HK.out (.inl hu))))
                    go_wp2_with fail
                    go_quiet (fail)
                    go_wp2_with fail
                    go_ret
                    exact ⟨ret_int HC.out.symm, _, World.drewN_drewN _ _ _⟩
                  · have hu1 : decide (s.1 ≤ r.1) = false := by simpa using hu
                    by_cases hv : s.2 = r.2
                    · have hv1 : (s.2 == r.2) = true := by simpa using hv
                      have HC := Lib.hid (chkE_no (chkB_bad hlt (stepB_prev HS.out HR.out HK.out (.inr hv.symm))))
                      clear hv
                      go_wp2_with fail
                      go_quiet (fail)
                      go_wp2_with fail
                      go_ret
                      exact ⟨ret_int HC.out.symm, _, World.drewN_drewN _ _ _⟩
                    · have hv1 : (s.2 == r.2) = false := by simpa using hv
                      have HG := Lib.hid (stepB_yes HS.out HFt.out ha (.inr ⟨r, HR.out, by omega, fun e => hv e.symm⟩))
                      go_wp2_with fail
                      go_quiet (fail)
                      go_wp2_with fail
                      exact ⟨⟨k + 1, _, by omega, by go_num, all_lt HAll.out HG.out, rfl⟩, by simp [intOf]; omega⟩
              · have HC := Lib.hid (chkE_no (chkB_bad hlt (stepB_at HS.out (by omega))))
                go_wp2_with fail
                go_ret
                exact ⟨ret_int HC.out.symm, _, rfl⟩
            · have HC := Lib.hid (chkE_no (chkB_bad hlt (stepB_fit HS.out (by simpa using hf))))
              have hf2 : s.2 < -1000000 ∨ (-1000000 ≤ s.2 ∧ 1000000 < s.2) := by rw [fitB_iff] at hf; omega
              clear hf
              rcases hf2 with q1 | ⟨q1, q2⟩
              all_goals
                go_wp2_with fail
                go_ret
                exact ⟨ret_int HC.out.symm, _, rfl⟩
          · have HC := Lib.hid (chkE_yes (chkB_good hle HS0.out HZ.out (fun i hi => HAll.out i (by omega))))
            go_wp2_with fail
            go_ret
            exact ⟨ret_int HC.out.symm, _, rfl⟩
      · have hqz : (s0.1 != 0) = true := by simpa using hz
        have HC := Lib.hid (chkE_no (chkB_head hs0 hz))
        clear h0 h hs0 hz
        go_enter Try.func15, Try.ntmps15
        go_wp2_with fail
        go_ret
        exact ⟨ret_int HC.out.symm, 0, rfl⟩

theorem tick_cases {t : Int} (h : tickB t = false) : t < 0 ∨ (0 ≤ t ∧ 1000000 < t) := by
  simp only [tickB, Bool.and_eq_false_iff, decide_eq_false_iff_not] at h
  omega
set_option maxHeartbeats 1000000 in
theorem rat_any (A : Option Addr) (n c : Nat) (p : List Stp) (t : Int) (w : World) (h : Steps w A n p) (hn : n ≤ maxLen) :
    Calls Try.prog 17 #[.slice A n c, .int .i64 t] w (Drew (.int .i64 (atT p t)) w) := by
  have HCk := Lib.hid (rcheck_any A n c p w h hn)
  cases hc : chkB p
  · rw [chkE_no hc] at HCk
    have HF : Hid (atT p t = 0) := by show _ = _; simp [atT, hc]
    clear hc h
    go_enter Try.func17, Try.ntmps17
    go_wp2_with fail
    refine HCk.out.mono ?_
    rintro e w1 ⟨rfl, d1, rfl⟩
    go_wp2_with fail
    go_ret
    exact ⟨ret_int HF.out.symm, d1, rfl⟩
  · rw [chkE_yes hc] at HCk
    cases ht : tickB t
    · have HF : Hid (atT p t = 0) := by show _ = _; simp [atT, ht]
      have htc := tick_cases ht
      clear hc ht h
      rcases htc with q1 | ⟨q1, q2⟩
      all_goals
        go_enter Try.func17, Try.ntmps17
        go_wp2_with fail
        refine HCk.out.mono ?_
        rintro e w1 ⟨rfl, d1, rfl⟩
        go_wp2_with fail
        go_ret
        exact ⟨ret_int HF.out.symm, d1, rfl⟩
    · have HF : Hid (atT p t = now p t) := by show _ = _; simp [atT, hc, ht]
      have ht0 : 0 ≤ t := by simp [tickB] at ht; exact ht.1
      have ht1 : t ≤ 1000000 := by simp [tickB] at ht; exact ht.2
      have HH := Lib.hid h
      clear hc ht h
      go_enter Try.func17, Try.ntmps17
      go_wp2_with fail
      refine HCk.out.mono ?_
      rintro e w1 ⟨rfl, d1, rfl⟩
      go_wp2_with fail
      refine (now_any A n c p t _ (HH.out.below (below_drewN (Below.refl _ _) d1)) hn).mono ?_
      rintro e w2 ⟨rfl, rfl⟩
      go_wp2_with fail
      go_ret
      exact ⟨ret_int HF.out.symm, d1, rfl⟩
set_option maxHeartbeats 2000000 in
set_option maxRecDepth 100000 in
theorem rleast_any (A : Option Addr) (n c : Nat) (p : List Stp) (a b : Int) (w : World) (h : Steps w A n p) (hn : n ≤ maxLen) :
    Calls Try.prog 19 #[.slice A n c, .int .i64 a, .int .i64 b] w (Drew (.int .i64 (leastT p a b)) w) := by
  have HCk := Lib.hid (rcheck_any A n c p w h hn)
  have hl := h.len
  subst hl
  cases hc : chkB p
  · rw [chkE_no hc] at HCk
    have HF : Hid (leastT p a b = 0) := by show _ = _; simp [leastT, hc]
    clear hc h
    go_enter Try.func19, Try.ntmps19
    go_wp2_with fail
    refine HCk.out.mono ?_
    rintro e w1 ⟨rfl, d1, rfl⟩
    go_wp2_with fail
    go_ret
    exact ⟨ret_int HF.out.symm, d1, rfl⟩
  · rw [chkE_yes hc] at HCk
    have hfew := chkB_few hc
    cases ht : tickB a
    · have HF : Hid (leastT p a b = 0) := by show _ = _; simp [leastT, ht]
      have htc := tick_cases ht
      clear hc ht h
      rcases htc with q1 | ⟨q1, q2⟩
      all_goals
        go_enter Try.func19, Try.ntmps19
        go_wp2_with fail
        refine HCk.out.mono ?_
        rintro e w1 ⟨rfl, d1, rfl⟩
        go_wp2_with fail
        go_ret
        exact ⟨ret_int HF.out.symm, d1, rfl⟩
    · have ht0 : 0 ≤ a := by simp [tickB] at ht; exact ht.1
      have ht1 : a ≤ 1000000 := by simp [tickB] at ht; exact ht.2
      by_cases hab : a < b
      · have HF : Hid (leastT p a b = least p a b) := by show _ = _; simp [leastT, hc, ht, hab]
        have HH := Lib.hid h
        clear hc ht h
        go_enter Try.func19, Try.ntmps19
        go_wp2_with fail
        refine HCk.out.mono ?_
        rintro e w1 ⟨rfl, d1, rfl⟩
        go_wp2_with fail
        refine (now_any A p.length c p a _ (HH.out.below (below_drewN (Below.refl _ _) d1)) hn).mono ?_
        rintro e w2 ⟨rfl, rfl⟩
        go_wp2_with fail
        go_loopw [7, 8] (fun x i wr => ∃ k : Nat, k ≤ p.length ∧ i = .int .i64 k ∧ x = .int .i64 ((p.take k).foldl (leastF a b) (now p a)) ∧ wr = w.drewN d1) (fun _ i _ => p.length - (intOf i).toNat)
        case atStart => exact ⟨0, by omega, rfl, rfl, rfl⟩
        case round =>
          obtain ⟨k, hk, rfl, rfl, rfl⟩ := hrel
          obtain ⟨o, ho⟩ : ∃ o, o = (p.take k).foldl (leastF a b) (now p a) := ⟨_, rfl⟩
          have HO := Lib.hid ho
          rw [← ho]
          clear ho
          by_cases hlt : k < p.length
          · obtain ⟨bb, off, s, rfl, _, hs, c0, c1⟩ := Lst.two HH.out hlt
            have HNx : Hid ((p.take (k + 1)).foldl (leastF a b) (now p a) = leastF a b o s) := by
              show _ = _
              rw [take_snoc_some hs, List.foldl_append, List.foldl_cons, List.foldl_nil, ← HO.out]
            clear hs
            have hcs : (a < s.1 ∧ s.1 < b ∧ s.2 < o) ∨ (¬ a < s.1) ∨ (a < s.1 ∧ ¬ s.1 < b) ∨ (a < s.1 ∧ s.1 < b ∧ ¬ s.2 < o) := by omega
            rcases hcs with ⟨q1, q2, q3⟩ | q1 | ⟨q1, q2⟩ | ⟨q1, q2, q3⟩
            · rw [leastF, if_pos ⟨q1, q2, q3⟩] at HNx
              go_wp2_with fail
              exact ⟨⟨k + 1, by omega, by go_num, by rw [HNx.out], trivial⟩, by simp [intOf]; omega⟩
            all_goals
              rw [leastF, if_neg (by omega)] at HNx
              go_wp2_with fail
              exact ⟨⟨k + 1, by omega, by go_num, by rw [HNx.out], trivial⟩, by simp [intOf]; omega⟩
          · go_wp2_with fail
            go_ret
            exact ⟨ret_int (by rw [HF.out, HO.out, List.take_of_length_le (by omega)]; rfl), d1, rfl⟩
      · have hab' : b ≤ a := by omega
        have HF : Hid (leastT p a b = 0) := by show _ = _; simp [leastT]; intros; omega
        clear hc ht h
        go_enter Try.func19, Try.ntmps19
        go_wp2_with fail
        refine HCk.out.mono ?_
        rintro e w1 ⟨rfl, d1, rfl⟩
        go_wp2_with fail
        go_ret
        exact ⟨ret_int HF.out.symm, d1, rfl⟩
set_option maxHeartbeats 1000000 in
theorem rflat_any (n : Int) (w : World) : Calls Try.prog 22 #[.int .i64 n] w (NewS [(0, clampT n)] w) := by
  by_cases h1 : n < -1000000
  · have HC : Hid (clampT n = -1000000) := by show _ = _; rw [clampT, if_pos h1]
    have HN := flat_new n w
    rw [HC.out] at HN ⊢
    have HN2 := Lib.hid HN
    clear HN
    go_enter Try.func22, Try.ntmps22
    go_wp2_with fail
    go_ret
    exact HN2.out
  · by_cases h2 : 1000000 < n
    · have HC : Hid (clampT n = 1000000) := by show _ = _; rw [clampT, if_neg h1, if_pos h2]
      have HN := flat_new n w
      rw [HC.out] at HN ⊢
      have HN2 := Lib.hid HN
      clear HN
      go_enter Try.func22, Try.ntmps22
      go_wp2_with fail
      go_ret
      exact HN2.out
    · have HC : Hid (clampT n = n) := by show _ = _; rw [clampT, if_neg h1, if_neg h2]
      have HN := flat_new n w
      rw [HC.out] at HN ⊢
      have HN2 := Lib.hid HN
      clear HN
      go_enter Try.func22, Try.ntmps22
      go_wp2_with fail
      go_ret
      exact HN2.out
end Go.Proofs.Ytmjjbodglbdadaa.ProfW
