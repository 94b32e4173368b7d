/-
  ProfileAdds: the law's walk.
-/
import Derived.Test.YtmjjbodglbdadaaProfRef4
import Derived.Test.YtmjjbodglbdadaaProfLaw
namespace Go.Proofs.Ytmjjbodglbdadaa.ProfW
open Go.RowKit Mem Prof
set_option linter.unusedVariables false

set_option maxHeartbeats 2000000 in
set_option maxRecDepth 100000 in
theorem adds_any (A : Option Addr) (m c : Nat) (p : List Stp) (s : Spn) (B : Option Addr) (n d : Nat) (q : List Stp) (W : World) (h : ArgS W A m c p) (g : ArgS W B n d q) :
    Calls Try.prog 4 #[.slice A m c, .agg #[.int .i64 s.a, .int .i64 s.b, .int .i64 s.n], .slice B n d] W fun e w' => e = .returned (.bool true) ∧ Below W.heap.size W w' := by
  have HA : Hid (∀ w, Calls Try.prog 13 #[] w fun e w' => e = .returned (.bool true) ∧ Below w.heap.size w w') := awake_any
  obtain ⟨V, hV⟩ : ∃ V, V = W.alloc (.cells #[.int .i64 s.a, .int .i64 s.b, .int .i64 s.n] 34) := ⟨_, rfl⟩
  have bV : Below W.heap.size W V := by rw [hV]; exact (Below.refl _ _).alloc (Nat.le_refl _) _
  have k1 : Blk V W.heap.size 34 #[.int .i64 s.a, .int .i64 s.b, .int .i64 s.n] := by rw [hV]; exact Blk.new _ _ _
  have HV := Lib.hid hV
  have HW := Lib.hid h
  have HQ := Lib.hid g
  clear h g hV
  by_cases hf : (m : Int) ≤ 200
  · have HF := Lib.hid (few_is true A m c V (by simpa using hf))
    by_cases hf2 : (n : Int) ≤ 200
    · have HF2 := Lib.hid (few_is true B n d V (by simpa using hf2))
      obtain ⟨r1, hr1⟩ : ∃ r, r = add p s.a s.b s.n := ⟨_, rfl⟩
      have HR1 := Lib.hid hr1
      obtain ⟨sm, hsm⟩ : ∃ sm, sm = decide (p = q) := ⟨_, rfl⟩
      have HSm := Lib.hid hsm
      clear hr1 hsm
      obtain ⟨x0, x1, x2⟩ := blk3 k1
      go_enter Try.func4, Try.ntmps4
      go_wp2_with fail
      rw [← HV.out]
      refine HF.out.mono ?_
      rintro e w1 ⟨rfl, rfl⟩
      go_wp2_with fail
      refine HF2.out.mono ?_
      rintro e w1 ⟨rfl, rfl⟩
      go_wp2_with fail
      refine (add_arg (HW.out.below bV) s.a s.b s.n).mono ?_
      rw [← HR1.out]
      rintro e w1 ⟨A1, c1, rfl, ho1, b1⟩
      have g1 := k1.below b1 k1.lt
      have bw1 := below_step bV b1
      clear x0 x1 x2 b1 bV k1
      obtain ⟨x0, x1, x2⟩ := blk3 g1
      go_wp2_with fail
      refine (radd_any A m c p s.a s.b s.n w1 (HW.out.st.below bw1) HW.out.max).mono ?_
      rw [← HR1.out]
      rintro e w2 ⟨A2, c2, rfl, ho2, b2⟩
      have bw2 := below_step bw1 b2
      have ho1' := ho1.below b2
      clear x0 x1 x2 b2 bw1 g1 ho1
      go_wp2_with fail
      refine (rsame_is true A1 A2 _ _ c1 c2 r1.1 r1.1 w2 (ho1'.lst layS) (ho2.lst layS) (SOwn.max ho1') (SOwn.max ho2) (by simp)).mono ?_
      rintro e w3 ⟨rfl, d3, rfl⟩
      have bw3 := below_drewN bw2 d3
      go_wp2_with fail
      refine (psame_is sm A B _ _ c d p q _ (HW.out.st.below bw3) (HQ.out.st.below bw3) HW.out.max HQ.out.max HSm.out.symm).mono ?_
      rintro e w4 ⟨rfl, d4, rfl⟩
      have bw4 := below_drewN bw2 (d3 + d4)
      go_wp2_with fail
      refine (rsame_is sm A B _ _ c d p q _ (HW.out.st.below bw4) (HQ.out.st.below bw4) HW.out.max HQ.out.max HSm.out.symm).mono ?_
      rintro e w5 ⟨rfl, d5, rfl⟩
      have hss : (sm == sm) = true := by simp
      go_wp2_with fail
      refine (HA.out _).mono ?_
      rintro e w6 ⟨rfl, hb6⟩
      go_wp2_with fail
      go_ret
      exact ⟨rfl, below_step (below_drewN bw2 _) hb6⟩
    · have HF2 := Lib.hid (few_is false B n d V (by simpa using hf2))
      go_enter Try.func4, Try.ntmps4
      go_wp2_with fail
      rw [← HV.out]
      refine HF.out.mono ?_
      rintro e w1 ⟨rfl, rfl⟩
      go_wp2_with fail
      refine HF2.out.mono ?_
      rintro e w1 ⟨rfl, rfl⟩
      go_wp2_with fail
      refine (HA.out _).mono ?_
      rintro e w6 ⟨rfl, hb6⟩
      go_wp2_with fail
      go_ret
      exact ⟨rfl, below_step bV hb6⟩
  · have HF := Lib.hid (few_is false A m c V (by simpa using hf))
    go_enter Try.func4, Try.ntmps4
    go_wp2_with fail
    rw [← HV.out]
    refine HF.out.mono ?_
    rintro e w1 ⟨rfl, rfl⟩
    go_wp2_with fail
    refine (HA.out _).mono ?_
    rintro e w6 ⟨rfl, hb6⟩
    go_wp2_with fail
    go_ret
    exact ⟨rfl, below_step bV hb6⟩
end Go.Proofs.Ytmjjbodglbdadaa.ProfW
