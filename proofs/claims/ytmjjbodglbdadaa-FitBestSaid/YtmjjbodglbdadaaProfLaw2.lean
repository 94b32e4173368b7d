/-
  ProfileBack, ProfileLeast: the laws' walks.
-/
import Derived.Test.YtmjjbodglbdadaaProfLaw
namespace Go.Proofs.Ytmjjbodglbdadaa.ProfW
open Go.RowKit Mem Prof
set_option linter.unusedVariables false

theorem now_bd {p : List Stp} (h : Chk p) (t : Int) (ht : 0 ≤ t) : -1000000 ≤ now p t ∧ now p t ≤ 1000000 := by
  obtain ⟨s, hs, _, e, _⟩ := h.nf.up.now_spec t ht
  rw [e]
  exact ⟨h.lo s hs, h.hi s hs⟩
theorem atT_bd (p : List Stp) (t : Int) : -1000000 ≤ atT p t ∧ atT p t ≤ 1000000 := by
  unfold atT
  split
  · rename_i h
    exact now_bd (chk_of h.1) t (by have := h.2; simp [tickB] at this; exact this.1)
  · omega
set_option maxHeartbeats 2000000 in
set_option maxRecDepth 100000 in
theorem back_any (A : Option Addr) (m c : Nat) (p : List Stp) (s : Spn) (t : Int) (W : World) (h : ArgS W A m c p) :
    Calls Try.prog 6 #[.slice A m c, .agg #[.int .i64 s.a, .int .i64 s.b, .int .i64 s.n], .int .i64 t] W fun e w' => e = .returned (.bool true) ∧ Below W.heap.size W w' := by
  have HA : Hid (∀ w, Calls Try.prog 13 #[] w fun e w' => e = .returned (.bool true) ∧ Below w.heap.size w w') := awake_any
  obtain ⟨V, hV⟩ : ∃ V, V = W.alloc (.cells #[.int .i64 s.a, .int .i64 s.b, .int .i64 s.n] 34) := ⟨_, rfl⟩
  have bV : Below W.heap.size W V := by rw [hV]; exact (Below.refl _ _).alloc (Nat.le_refl _) _
  have k1 : Blk V W.heap.size 34 #[.int .i64 s.a, .int .i64 s.b, .int .i64 s.n] := by rw [hV]; exact Blk.new _ _ _
  have HV := Lib.hid hV
  have HW := Lib.hid h
  clear h hV
  by_cases hf : (m : Int) ≤ 200
  · have HF := Lib.hid (few_is true A m c V (by simpa using hf))
    obtain ⟨r1, hr1⟩ : ∃ r, r = add p s.a s.b s.n := ⟨_, rfl⟩
    have HR1 := Lib.hid hr1
    clear hr1
    obtain ⟨x0, x1, x2⟩ := blk3 k1
    by_cases h1 : r1.2 = 0
    · have e1 : (r1.2 != 0) = false := by simp [h1]
      have h1' := h1
      rw [HR1.out] at h1'
      obtain ⟨hp, ha, hq, _⟩ := add_ok h1'
      have hn0 := ha.n0
      have hn1 := ha.n1
      have HB : Hid (add r1.1 s.a s.b (-s.n) = (p, 0)) := by show _ = _; rw [HR1.out]; exact back h1'
      have HCq : Hid (chkE r1.1 = 0) := by
        show _ = _
        rw [HR1.out]
        obtain ⟨_, _, hq, e⟩ := add_ok h1'
        rw [e]
        exact chkE_yes (of_chk hq)
      obtain ⟨x, hx⟩ : ∃ x, x = atT p t := ⟨_, rfl⟩
      have HT : Hid (atT r1.1 t = x + moreT s.a s.b s.n t) := by show _ = _; rw [HR1.out, hx]; exact back_at t h1'
      have hxb := atT_bd p t
      rw [← hx] at hxb
      obtain ⟨hx0, hx1⟩ := hxb
      have HX := Lib.hid hx
      have ha0 := ha.a0
      clear hx h1 h1' hp ha hq
      go_enter Try.func6, Try.ntmps6
      go_wp2_with fail
      rw [← HV.out]
      refine HF.out.mono ?_
      rintro e w1 ⟨rfl, rfl⟩
      go_wp2_with fail
      refine (add_arg (HW.out.below bV) s.a s.b s.n).mono ?_
      rw [← HR1.out]
      rintro e w1 ⟨A1, c1, rfl, ho1, b1⟩
      have g1 := k1.below b1 k1.lt
      have bw1 := below_step bV b1
      clear x0 x1 x2 b1 bV k1
      obtain ⟨x0, x1, x2⟩ := blk3 g1
      go_wp2_with fail
      refine (add_arg (AddPost.arg ho1) s.a s.b (-s.n)).mono ?_
      rw [HB.out]
      rintro e w2 ⟨A2, c2, rfl, ho2, b2⟩
      have hq1 := (AddPost.arg ho1).below b2
      have j1 := g1.below b2 g1.lt
      have bw2 := below_step bw1 b2
      clear x0 x1 x2 b2 bw1 g1
      obtain ⟨x0, x1, x2⟩ := blk3 j1
      go_wp2_with fail
      refine (rsame_is true A2 A _ _ c2 c p p w2 (ho2.lst layS) (HW.out.st.below bw2) (SOwn.max ho2) HW.out.max (by simp)).mono ?_
      rintro e w5 ⟨rfl, dr, rfl⟩
      have hq2 := hq1.below (below_drewN (Below.refl _ _) dr)
      have l1 := j1.drewN dr
      have bw3 := below_drewN bw2 dr
      clear x0 x1 x2 j1 bw2 hq1 ho2
      obtain ⟨x0, x1, x2⟩ := blk3 l1
      go_wp2_with fail
      refine (check_is 0 A1 _ c1 r1.1 _ hq2.st hq2.max HCq.out).mono ?_
      rintro e w6 ⟨rfl, b6⟩
      have hq3 := hq2.below b6
      have m1 := l1.below b6 l1.lt
      have bw4 := below_step bw3 b6
      clear x0 x1 x2 l1 bw3 hq2 b6
      obtain ⟨x0, x1, x2⟩ := blk3 m1
      by_cases hmo : s.a ≤ t ∧ t < s.b ∧ 0 ≤ t ∧ t ≤ 1000000
      · have HM : Hid (moreT s.a s.b s.n t = s.n) := by show _ = _; rw [moreT, if_pos hmo]
        obtain ⟨q1, q2, q3, q4⟩ := hmo
        rw [HM.out] at HT
        go_wp2_with fail
        refine (at_is _ A1 _ c1 r1.1 t _ hq3.st hq3.max HT.out).mono ?_
        rintro e w7 ⟨rfl, b7⟩
        go_wp2_with fail
        refine (at_is _ A _ c p t _ (HW.out.st.below (below_step bw4 b7)) HW.out.max HX.out.symm).mono ?_
        rintro e w8 ⟨rfl, b8⟩
        go_wp2_with fail
        refine (HA.out _).mono ?_
        rintro e w9 ⟨rfl, b9⟩
        go_wp2_with fail
        go_ret
        exact ⟨rfl, below_step (below_step (below_step bw4 b7) b8) b9⟩
      · have HM : Hid (moreT s.a s.b s.n t = 0) := by show _ = _; rw [moreT, if_neg hmo]
        rw [HM.out, Int.add_zero] at HT
        have hmo2 : (¬ s.a ≤ t) ∨ (s.a ≤ t ∧ ¬ t < s.b) ∨ (s.a ≤ t ∧ t < s.b ∧ 0 ≤ t ∧ 1000000 < t) := by omega
        clear hmo
        rcases hmo2 with q1 | ⟨q1, q2⟩ | ⟨q1, q2, q3, q4⟩
        all_goals
          go_wp2_with fail
          refine (at_is _ A1 _ c1 r1.1 t _ hq3.st hq3.max HT.out).mono ?_
          rintro e w7 ⟨rfl, b7⟩
          go_wp2_with fail
          refine (at_is _ A _ c p t _ (HW.out.st.below (below_step bw4 b7)) HW.out.max HX.out.symm).mono ?_
          rintro e w8 ⟨rfl, b8⟩
          go_wp2_with fail
          refine (HA.out _).mono ?_
          rintro e w9 ⟨rfl, b9⟩
          go_wp2_with fail
          go_ret
          exact ⟨rfl, below_step (below_step (below_step bw4 b7) b8) b9⟩
    · have e1 : (r1.2 != 0) = true := by simpa using h1
      have hz : r1.1 = [] := by rw [HR1.out] at h1 ⊢; exact back_no h1
      have hz1 : ((r1.1.length : Int) == 0) = true := by simp [hz]
      have hz2 : (r1.1.length == 0) = true := by simp [hz]
      clear h1 hz
      go_enter Try.func6, Try.ntmps6
      go_wp2_with fail
      rw [← HV.out]
      refine HF.out.mono ?_
      rintro e w1 ⟨rfl, rfl⟩
      go_wp2_with fail
      refine (add_arg (HW.out.below bV) s.a s.b s.n).mono ?_
      rw [← HR1.out]
      rintro e w1 ⟨A1, c1, rfl, ho1, b1⟩
      go_wp2_with fail
      refine (HA.out _).mono ?_
      rintro e w6 ⟨rfl, hb6⟩
      go_wp2_with fail
      go_ret
      exact ⟨rfl, below_step (below_step bV b1) hb6⟩
  · have HF := Lib.hid (few_is false A m c V (by simpa using hf))
    go_enter Try.func6, Try.ntmps6
    go_wp2_with fail
    rw [← HV.out]
    refine HF.out.mono ?_
    rintro e w1 ⟨rfl, rfl⟩
    go_wp2_with fail
    refine (HA.out _).mono ?_
    rintro e w6 ⟨rfl, hb6⟩
    go_wp2_with fail
    go_ret
    exact ⟨rfl, below_step bV hb6⟩
end Go.Proofs.Ytmjjbodglbdadaa.ProfW
