/-
  Contracts: profile.Add at any arguments; musterref10.Same; awake and Few of layer 10.
-/
import Derived.Test.YthfnmighhoighaaProf4
namespace Go.Proofs.Ythfnmighhoighaa.ProfW
open Go.RowKit Mem Prof
set_option linter.unusedVariables false

set_option maxHeartbeats 2000000 in
set_option maxRecDepth 100000 in
theorem add_any (A : Option Addr) (m c : Nat) (p : List Stp) (a b n : Int) (w : World) (h : Steps w A m p) (hm : m ≤ maxLen) (hc : m ≤ c) (hA : A = none → c = 0) :
    Calls Try.prog 61 #[.slice A m c, .int .i64 a, .int .i64 b, .int .i64 n] w (AddPost (add p a b n) w) := by
  have hl := h.len
  subst hl
  have HCk := Lib.hid (check_any A p.length c p w h hm)
  have HIn := in_any a
  have HFi := fits_any n
  cases hck : chkB p
  · rw [chkE_no hck] at HCk
    have HR : Hid (add p a b n = ([], 100)) := by show _ = _; rw [add, if_pos hck]
    clear hck h HIn HFi
    go_enter Try.func61, Try.ntmps61
    go_wp2_with fail
    go_step3
    go_wp2_with fail
    refine HCk.out.mono ?_
    rintro e w1 ⟨rfl, b1⟩
    go_wp2_with fail
    rw [Exit.noGoto_ret]
    go_ret2
    rw [HR.out]
    exact ⟨none, 0, rfl, SOwn.nil _ _ _ _, b1⟩
  · have hfew := chkB_few hck
    cases ht : tickB a
    · rw [chkE_yes hck] at HCk
      rw [ht] at HIn
      have HR : Hid (add p a b n = ([], 2)) := by
        show _ = _
        have : argB a b n = false := by simp only [tickB] at ht; simp only [argB, ht, Bool.false_and]
        rw [add, if_neg (by simp [hck]), if_pos this]
      have HI2 := Lib.hid HIn
      clear hck ht h HIn HFi
      go_enter Try.func61, Try.ntmps61
      go_wp2_with fail
      go_step3
      go_wp2_with fail
      refine HCk.out.mono ?_
      rintro e w1 ⟨rfl, b1⟩
      go_wp2_with fail
      refine (HI2.out _).mono ?_
      rintro e w2 ⟨rfl, rfl⟩
      go_wp2_with fail
      rw [Exit.noGoto_ret]
      go_ret2
      rw [HR.out]
      exact ⟨none, 0, rfl, SOwn.nil _ _ _ _, b1⟩
    · by_cases hba : b < a
      · rw [chkE_yes hck] at HCk
        rw [ht] at HIn
        have HR : Hid (add p a b n = ([], 2)) := by
          show _ = _
          have : argB a b n = false := by
            have : decide (a ≤ b) = false := by simp; omega
            simp only [argB, this, Bool.false_and, Bool.and_false]
          rw [add, if_neg (by simp [hck]), if_pos this]
        have HI2 := Lib.hid HIn
        clear hck ht h HIn HFi
        go_enter Try.func61, Try.ntmps61
        go_wp2_with fail
        go_step3
        go_wp2_with fail
        refine HCk.out.mono ?_
        rintro e w1 ⟨rfl, b1⟩
        go_wp2_with fail
        refine (HI2.out _).mono ?_
        rintro e w2 ⟨rfl, rfl⟩
        go_wp2_with fail
        rw [Exit.noGoto_ret]
        go_ret2
        rw [HR.out]
        exact ⟨none, 0, rfl, SOwn.nil _ _ _ _, b1⟩
      · cases hf : fitB n
        · rw [chkE_yes hck] at HCk
          rw [ht] at HIn
          rw [hf] at HFi
          have HR : Hid (add p a b n = ([], 2)) := by
            show _ = _
            have : argB a b n = false := by simp only [fitB] at hf; simp only [argB, Bool.and_assoc, hf, Bool.and_false]
            rw [add, if_neg (by simp [hck]), if_pos this]
          have HI2 := Lib.hid HIn
          have HF2 := Lib.hid HFi
          clear hck ht h HIn HFi hf
          go_enter Try.func61, Try.ntmps61
          go_wp2_with fail
          go_step3
          go_wp2_with fail
          refine HCk.out.mono ?_
          rintro e w1 ⟨rfl, b1⟩
          go_wp2_with fail
          refine (HI2.out _).mono ?_
          rintro e w2 ⟨rfl, rfl⟩
          go_wp2_with fail
          refine (HF2.out _).mono ?_
          rintro e w2 ⟨rfl, rfl⟩
          go_wp2_with fail
          rw [Exit.noGoto_ret]
          go_ret2
          rw [HR.out]
          exact ⟨none, 0, rfl, SOwn.nil _ _ _ _, b1⟩
        · by_cases hab : a < b
          · exact add_main A c p a b n w h hc hck ht hab hf
          · have hE : b = a := by omega
            have hC := chk_of hck
            have ha0 : 0 ≤ a := by simp [tickB] at ht; exact ht.1
            have ha1 : a ≤ 1000000 := by simp [tickB] at ht; exact ht.2
            have HR : Hid (add p a b n = (p, 0)) := by
              show _ = _
              obtain ⟨hn1, hn2⟩ := fitB_iff.1 hf
              have h1 : argB a b n = true := by simp [argB]; omega
              have h2 : out p a b n = p := by rw [hE]; exact out_same hC ha0 (by unfold Prof.End; omega)
              rw [add, if_neg (by simp [hck]), if_neg (by simp [h1]), h2, if_neg (by simp [hck])]
            rw [chkE_yes hck] at HCk
            rw [ht] at HIn
            rw [hf] at HFi
            have hq : (b == a) = true := by simp [hE]
            have HI2 := Lib.hid HIn
            have HF2 := Lib.hid HFi
            have HH := Lib.hid h
            have HA := Lib.hid hA
            clear hck ht h HIn HFi hf hE hC hA
            go_enter Try.func61, Try.ntmps61
            go_wp2_with fail
            go_step3
            go_wp2_with fail
            refine HCk.out.mono ?_
            rintro e w1 ⟨rfl, b1⟩
            go_wp2_with fail
            refine (HI2.out _).mono ?_
            rintro e w2 ⟨rfl, rfl⟩
            go_wp2_with fail
            refine (HF2.out _).mono ?_
            rintro e w2 ⟨rfl, rfl⟩
            go_wp2_with fail
            refine (clone_any A p.length c p w1 (HH.out.below b1) (by omega) HA.out).mono ?_
            rintro e w3 ⟨A3, c3, rfl, ho3, b3⟩
            go_wp2_with fail
            rw [Exit.noGoto_ret]
            go_ret2
            rw [HR.out]
            exact ⟨A3, c3, rfl, ho3.mono b1.size, below_step b1 b3⟩

set_option maxHeartbeats 1000000 in
set_option maxRecDepth 100000 in
theorem rsame_any (A B : Option Addr) (n m c d : Nat) (p q : List Stp) (w : World) (h : Steps w A n p) (g : Steps w B m q) (hn : n ≤ maxLen) (hm : m ≤ maxLen) :
    Calls Try.prog 42 #[.slice A n c, .slice B m d] w (Drew (.bool (decide (p = q))) w) := by
  unfold maxLen at hn hm
  have hl := h.len
  have hk := g.len
  subst hl hk
  by_cases hlen : p.length = q.length
  · have hne : ((p.length : Int) != (q.length : Int)) = false := by simp [hlen]
    have hne' : (p.length != q.length) = false := by simp [hlen]
    have HL := Lib.hid hlen
    have hle : p.length ≤ q.length := by omega
    have hle' : q.length ≤ p.length := by omega
    clear hlen
    go_enter Try.func42, Try.ntmps42
    go_wp2_with fail
    go_loopw [5] (fun i wr => ∃ k d : Nat, k ≤ p.length ∧ i = .int .i64 k ∧ p.take k = q.take k ∧ wr = w.drewN d) (fun i _ => p.length - (intOf i).toNat)
    case atStart => exact ⟨0, 0, by omega, rfl, by simp, rfl⟩
    case round =>
      obtain ⟨j, dd, hj, rfl, htk, rfl⟩ := hrel
      have HTK := Lib.hid htk
      clear htk
      by_cases hlt : j < p.length
      · obtain ⟨b1, o1, x, rfl, _, hx, c0, c1⟩ := Lst.two h hlt
        obtain ⟨b2, o2, y, rfl, _, hy, d0, d1⟩ := Lst.two g (show j < q.length by omega)
        have HX := Lib.hid hx
        have HY := Lib.hid hy
        clear hx hy h g
        by_cases h1 : x.1 = y.1
        · have e1 : (x.1 != y.1) = false := by simp [h1]
          by_cases h2 : x.2 = y.2
          · have e2 : (x.2 != y.2) = false := by simp [h2]
            have HT : Hid (p.take (j + 1) = q.take (j + 1)) := by
              show _ = _
              rw [take_snoc_some HX.out, take_snoc_some HY.out, HTK.out, Prod.ext h1 h2]
            clear h1 h2
            go_wp2_with fail
            go_quiet (fail)
            go_wp2_with fail
            exact ⟨⟨j + 1, _, by omega, by go_num, HT.out, rfl⟩, by simp [intOf]; omega⟩
          · have e2 : (x.2 != y.2) = true := by simpa using h2
            have HN : Hid (decide (p = q) = false) := by
              show _ = _
              rw [decide_eq_false_iff_not]
              intro e
              rw [e, HY.out] at HX
              have := HX.out
              injection this with this
              exact h2 (by rw [this])
            clear h1 h2
            go_wp2_with fail
            go_quiet (fail)
            go_wp2_with fail
            go_ret
            exact ⟨ret_bool HN.out.symm, _, World.drewN_drewN _ _ _⟩
        · have e1 : (x.1 != y.1) = true := by simpa using h1
          have HN : Hid (decide (p = q) = false) := by
            show _ = _
            rw [decide_eq_false_iff_not]
            intro e
            rw [e, HY.out] at HX
            have := HX.out
            injection this with this
            exact h1 (by rw [this])
          clear h1
          go_wp2_with fail
          go_quiet (fail)
          go_wp2_with fail
          go_ret
          exact ⟨ret_bool HN.out.symm, _, World.drewN_drewN _ _ _⟩
      · have HE : Hid (decide (p = q) = true) := by
          show _ = _
          rw [decide_eq_true_iff]
          have := HTK.out
          rwa [List.take_of_length_le (by omega), List.take_of_length_le (by omega)] at this
        go_wp2_with fail
        go_ret
        exact ⟨ret_bool HE.out.symm, _, rfl⟩
  · have hne : ((p.length : Int) != (q.length : Int)) = true := by rw [bne_iff_ne]; omega
    have hne' : (p.length != q.length) = true := by rw [bne_iff_ne]; omega
    have HN : Hid (decide (p = q) = false) := by
      show _ = _
      rw [decide_eq_false_iff_not]
      intro e
      exact hlen (by rw [e])
    clear hlen
    go_enter Try.func42, Try.ntmps42
    go_wp2_with fail
    go_ret
    exact ⟨ret_bool HN.out.symm, 0, rfl⟩
theorem few_any (A : Option Addr) (n c : Nat) (w : World) : Calls Try.prog 39 #[.slice A n c] w fun e w' => e = .returned (.bool (decide ((n : Int) ≤ 200))) ∧ w = w' := by
  go_enter Try.func39, Try.ntmps39
  go_wp2_with fail
  go_ret
  exact ⟨rfl, rfl⟩
end Go.Proofs.Ythfnmighhoighaa.ProfW
