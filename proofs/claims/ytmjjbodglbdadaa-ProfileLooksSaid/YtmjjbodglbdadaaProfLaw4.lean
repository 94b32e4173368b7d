/-
  ProfileLooks: the law's walk.
-/
import Derived.Test.YtmjjbodglbdadaaProfLaw
import Derived.Test.YtmjjbodglbdadaaProfRef
namespace Go.Proofs.Ytmjjbodglbdadaa.ProfW
open Go.RowKit Mem Prof
set_option linter.unusedVariables false

theorem Drew.below {r : Value} {w w' : World} {e : Ending} (h : Drew r w e w') : e = .returned r ∧ Below w.heap.size w w' := by
  obtain ⟨he, m, rfl⟩ := h
  exact ⟨he, below_drewN (Below.refl _ _) m⟩
set_option maxHeartbeats 2000000 in
set_option maxRecDepth 100000 in
theorem looks_any (A : Option Addr) (m c : Nat) (p : List Stp) (a b : Int) (W : World) (h : ArgS W A m c p) :
    Calls Try.prog 3 #[.slice A m c, .int .i64 a, .int .i64 b] W fun e w' => e = .returned (.bool true) ∧ Below W.heap.size W w' := by
  have HA : Hid (∀ w, Calls Try.prog 13 #[] w fun e w' => e = .returned (.bool true) ∧ Below w.heap.size w w') := awake_any
  have HW := Lib.hid h
  clear h
  by_cases hf : (m : Int) ≤ 200
  · have HF := Lib.hid (few_is true A m c W (by simpa using hf))
    obtain ⟨v1, hv1⟩ : ∃ v, v = chkE p := ⟨_, rfl⟩
    obtain ⟨v2, hv2⟩ : ∃ v, v = atT p a := ⟨_, rfl⟩
    obtain ⟨v3, hv3⟩ : ∃ v, v = leastT p a b := ⟨_, rfl⟩
    have H1 := Lib.hid hv1
    have H2 := Lib.hid hv2
    have H3 := Lib.hid hv3
    clear hv1 hv2 hv3
    go_enter Try.func3, Try.ntmps3
    go_wp2_with fail
    refine HF.out.mono ?_
    rintro e w1 ⟨rfl, rfl⟩
    go_wp2_with fail
    refine (check_any A m c p W HW.out.st HW.out.max).mono ?_
    rw [← H1.out]
    rintro e w1 ⟨rfl, b1⟩
    go_wp2_with fail
    refine (rcheck_any A m c p w1 (HW.out.st.below b1) HW.out.max).mono ?_
    rw [← H1.out]
    rintro e w2 ⟨rfl, d2, rfl⟩
    have b2 := below_drewN b1 d2
    clear b1
    go_wp2_with fail
    refine (at_any A m c p a _ (HW.out.st.below b2) HW.out.max).mono ?_
    rw [← H2.out]
    rintro e w3 ⟨rfl, b3⟩
    have b4 := below_step b2 b3
    clear b2 b3
    go_wp2_with fail
    refine (rat_any A m c p a _ (HW.out.st.below b4) HW.out.max).mono ?_
    rw [← H2.out]
    rintro e w4 ⟨rfl, d4, rfl⟩
    have b5 := below_drewN b4 d4
    clear b4
    go_wp2_with fail
    refine (least_any A m c p a b _ (HW.out.st.below b5) HW.out.max).mono ?_
    rw [← H3.out]
    rintro e w5 ⟨rfl, b6⟩
    have b7 := below_step b5 b6
    clear b5 b6
    go_wp2_with fail
    refine (rleast_any A m c p a b _ (HW.out.st.below b7) HW.out.max).mono ?_
    rw [← H3.out]
    rintro e w6 ⟨rfl, d6, rfl⟩
    have b8 := below_drewN b7 d6
    clear b7
    go_wp2_with fail
    refine (flat_any b _).mono ?_
    rintro e w7 ⟨A7, c7, rfl, ho7, b9⟩
    go_wp2_with fail
    refine (rflat_any b _).mono ?_
    rintro e w8 ⟨A8, c8, rfl, ho8, b10⟩
    have b11 := below_step (below_step b8 b9) b10
    go_wp2_with fail
    refine (rsame_is true A7 A8 _ _ c7 c8 _ _ _ ((ho7.below b10).lst layS) (ho8.lst layS) (SOwn.max ho7) (SOwn.max ho8) (by simp)).mono ?_
    rintro e w9 ⟨rfl, d9, rfl⟩
    go_wp2_with fail
    refine (HA.out _).mono ?_
    rintro e w10 ⟨rfl, b12⟩
    go_wp2_with fail
    go_ret
    exact ⟨rfl, below_step (below_drewN b11 d9) b12⟩
  · have HF := Lib.hid (few_is false A m c W (by simpa using hf))
    go_enter Try.func3, Try.ntmps3
    go_wp2_with fail
    refine HF.out.mono ?_
    rintro e w1 ⟨rfl, rfl⟩
    go_wp2_with fail
    refine (HA.out _).mono ?_
    rintro e w6 ⟨rfl, hb6⟩
    go_wp2_with fail
    go_ret
    exact ⟨rfl, hb6⟩
end Go.Proofs.Ytmjjbodglbdadaa.ProfW
