/-
  FitLooks: the law's walk; the argument Ask, opened.
-/
import Derived.Test.YtmjjbodglbdadaaFit6
import Derived.Test.YtmjjbodglbdadaaProfLaw
import Derived.Test.YtmjjbodglbdadaaProfOpen
namespace Go.Proofs.Ytmjjbodglbdadaa.ProfW
open Go.ChangeShapes Go.WideShapes Go.ChangeAt Go.RowKit Go.Deep Mem Prof
set_option linter.unusedVariables false

theorem drew_ret {r : Value} {w w' : World} {e : Ending} (h : Drew r w e w') : Ret r w e w' := by
  obtain ⟨he, m, rfl⟩ := h
  exact ⟨he, below_drewN (Below.refl _ _) m⟩
section
variable {H : Type} {enc : TypeId × Value → H} {w : World} {base : Nat} {spare : Nat → Bool} {held : Bool}
set_option maxRecDepth 100000 in
theorem open_ask {r : Reach} {b0 : Nat} {v : Value} {d : DataW H} {p : List MemPlace} (hv : Value.okWide Try.prog w r b0 45 v) (h : DataW.Trod enc Try.prog w base spare held 45 v d p) :
    ∃ a : Spn, v = .agg #[.int .i64 a.a, .int .i64 a.b, .int .i64 a.n] ∧ ((-9223372036854775808 ≤ a.a ∧ a.a ≤ 9223372036854775807) ∧ (-9223372036854775808 ≤ a.b ∧ a.b ≤ 9223372036854775807) ∧ (-9223372036854775808 ≤ a.n ∧ a.n ≤ 9223372036854775807)) := by
  obtain ⟨v0, v1, v2, y0, y1, y2, n, rfl, _, _, t0, t1, t2⟩ := Joins.open_agg3 Try.underlying45 (by kernel_rfl) (by kernel_rfl) hv h
  obtain ⟨z0, q0, _, w0⟩ := DataW.trod_int Try.underlying3 t0
  obtain ⟨z1, q1, _, w1⟩ := DataW.trod_int Try.underlying3 t1
  obtain ⟨z2, q2, _, w2⟩ := DataW.trod_int Try.underlying3 t2
  simp at q0 q1 q2
  subst q0 q1 q2
  exact ⟨⟨z0, z1, z2⟩, rfl, bounds_i64 w0, bounds_i64 w1, bounds_i64 w2⟩
end
set_option maxHeartbeats 4000000 in
set_option maxRecDepth 100000 in
theorem fitlooks_any (A : Option Addr) (m c : Nat) (p : List Stp) (s : Spn) (W : World) (h : ArgS W A m c p) :
    Calls Try.prog 8 #[.slice A m c, .agg #[.int .i64 s.a, .int .i64 s.b, .int .i64 s.n]] W fun e w' => e = .returned (.bool true) ∧ Below W.heap.size W w' := by
  have HA : Hid (∀ w, Calls Try.prog 26 #[] w fun e w' => e = .returned (.bool true) ∧ Below w.heap.size w w') := awake11_any
  obtain ⟨V, hV⟩ : ∃ V, V = W.alloc (.cells #[.int .i64 s.a, .int .i64 s.b, .int .i64 s.n] 45) := ⟨_, rfl⟩
  have bV : Below W.heap.size W V := by rw [hV]; exact (Below.refl _ _).alloc (Nat.le_refl _) _
  have k1 : Blk V W.heap.size 45 #[.int .i64 s.a, .int .i64 s.b, .int .i64 s.n] := by rw [hV]; exact Blk.new _ _ _
  have HV := Lib.hid hV
  have HW := Lib.hid h
  clear h hV
  by_cases hf : (m : Int) ≤ 200
  · have HF := Lib.hid (few_is true A m c V (by simpa using hf))
    obtain ⟨o, ho⟩ : ∃ o, o = earl p s.a s.b s.n := ⟨_, rfl⟩
    obtain ⟨r1, hr1⟩ : ∃ r, r = takeT p s.a s.b s.n := ⟨_, rfl⟩
    obtain ⟨fb, hfb⟩ : ∃ b, b = fitsT p s.a s.b s.n := ⟨_, rfl⟩
    have HO := Lib.hid ho
    have HR1 := Lib.hid hr1
    have HFb := Lib.hid hfb
    clear ho hr1 hfb
    obtain ⟨ov, hov⟩ : ∃ v, v = o.getD 0 := ⟨_, rfl⟩
    obtain ⟨ob, hob⟩ : ∃ v, v = o.isSome := ⟨_, rfl⟩
    have HEV : Hid (earlV o = .tuple #[.int .i64 ov, .bool ob]) := by rw [hov, hob]; rfl
    clear hov hob
    obtain ⟨x0, x1, x2⟩ := blk3 k1
    go_enter Try.func8, Try.ntmps8
    go_wp2_with fail
    rw [← HV.out]
    refine HF.out.mono ?_
    rintro e w1 ⟨rfl, rfl⟩
    go_wp2_with fail
    refine (earl_any A m c p s.a s.b s.n V (HW.out.st.below bV) HW.out.max).mono ?_
    rw [← HO.out]
    rintro e w1 ⟨rfl, b1⟩
    rw [HEV.out]
    have g1 := k1.below b1 k1.lt
    have bw1 := below_step bV b1
    clear x0 x1 x2 b1 bV k1
    obtain ⟨x0, x1, x2⟩ := blk3 g1
    go_wp2_with fail
    refine (rearl_any A m c p s.a s.b s.n w1 (HW.out.st.below bw1) HW.out.max).mono ?_
    rw [← HO.out]
    rintro e w2 ⟨rfl, b2⟩
    rw [HEV.out]
    have g2 := g1.below b2 g1.lt
    have bw2 := below_step bw1 b2
    clear x0 x1 x2 b2 bw1 g1
    obtain ⟨x0, x1, x2⟩ := blk3 g2
    go_wp2_with fail
    refine (take_any A m c p s.a s.b s.n w2 (HW.out.st.below bw2) HW.out.max HW.out.le HW.out.bare).mono ?_
    rw [← HR1.out]
    rintro e w3 ⟨A3, c3, rfl, ho3, b3⟩
    have g3 := g2.below b3 g2.lt
    have bw3 := below_step bw2 b3
    clear x0 x1 x2 b3 bw2 g2
    obtain ⟨x0, x1, x2⟩ := blk3 g3
    go_wp2_with fail
    refine (rtake_any A m c p s.a s.b s.n w3 (HW.out.st.below bw3) HW.out.max).mono ?_
    rw [← HR1.out]
    rintro e w4 ⟨A4, c4, rfl, ho4, b4⟩
    have ho3' := ho3.below b4
    have g4 := g3.below b4 g3.lt
    have bw4 := below_step bw3 b4
    clear x0 x1 x2 b4 bw3 g3 ho3
    have HS : Hid (∀ w', Blk w' W.heap.size 45 #[.int .i64 s.a, .int .i64 s.b, .int .i64 s.n] → (w'.cell? ⟨W.heap.size, 0, none⟩ = some (.int .i64 s.a) ∧ w'.cell? ⟨W.heap.size, 1, none⟩ = some (.int .i64 s.b) ∧ w'.cell? ⟨W.heap.size, 2, none⟩ = some (.int .i64 s.n))) := fun w' hk => blk3 hk
    have HSm := Lib.hid (rsame_is true A3 A4 _ _ c3 c4 r1.1 r1.1 w4.drew ((ho3'.below ((Below.refl _ _).drew)).lst layS) ((ho4.below ((Below.refl _ _).drew)).lst layS) (SOwn.max ho3') (SOwn.max ho4) (by simp) |>.mono fun _ _ h => drew_ret h)
    have HFp : Hid (∀ w', Below W.heap.size W w' → Calls Try.prog 31 #[.slice A m c, .int .i64 s.a, .int .i64 s.b, .int .i64 s.n] w' (Ret (.bool fb) w')) := fun w' hb' => fits_r fb A m c p s.a s.b s.n w' (HW.out.st.below hb') HW.out.max HFb.out.symm
    have HFr : Hid (∀ w', Below W.heap.size W w' → Calls Try.prog 32 #[.slice A m c, .int .i64 s.a, .int .i64 s.b, .int .i64 s.n] w' (Ret (.bool fb) w')) := fun w' hb' => (rfits_is fb A m c p s.a s.b s.n w' (HW.out.st.below hb') HW.out.max HFb.out.symm).mono fun _ _ h => drew_ret h
    have e1 : (ov == ov) = true := by simp
    have e2 : (ob == ob) = true := by simp
    have e3 : (r1.2 == r1.2) = true := by simp
    have e4 : (fb == fb) = true := by simp
    go_wp2_with fail
    go_region_held3 (fun w' => w'.cell? ⟨W.heap.size, 0, none⟩ = some (.int .i64 s.a) ∧ w'.cell? ⟨W.heap.size, 1, none⟩ = some (.int .i64 s.b) ∧ w'.cell? ⟨W.heap.size, 2, none⟩ = some (.int .i64 s.n))
      (first | with_reducible exact HS.out _ g4.drew | with_reducible exact HS.out _ g7 | with_reducible exact HS.out _ g6 | with_reducible exact HS.out _ g5 | with_reducible exact HS.out _ g8)
      (first
        | (go_at_call 20; refine HSm.out.mono ?_; rintro e w5 ⟨rfl, b5⟩; have g5 := g4.drew.below b5 g4.drew.lt; have bw5 := below_step bw4.drew b5)
        | (go_at_call 31; refine (HFp.out w6 bw6).mono ?_; rintro e w7 ⟨rfl, b7⟩; have g7 := g6.below b7 g6.lt; have bw7 := below_step bw6 b7)
        | (go_at_call 31; refine (HFp.out w5 bw5).mono ?_; rintro e w6 ⟨rfl, b6⟩; have g6 := g5.below b6 g5.lt; have bw6 := below_step bw5 b6)
        | (go_at_call 32; refine (HFr.out w6 bw6).mono ?_; rintro e w7 ⟨rfl, b7⟩; have g7 := g6.below b7 g6.lt; have bw7 := below_step bw6 b7)
        | (go_at_call 32; refine (HFr.out w5 bw5).mono ?_; rintro e w6 ⟨rfl, b6⟩; have g6 := g5.below b6 g5.lt; have bw6 := below_step bw5 b6)
        | (go_at_call 26; refine (HA.out w7).mono ?_; rintro e w8 ⟨rfl, b8⟩; have bw8 := below_step bw7 b8; have g8 := g7.below b8 g7.lt))
    all_goals go_wp2_with fail
    all_goals go_ret
    all_goals exact ⟨rfl, bw8⟩
  · have HF := Lib.hid (few_is false A m c V (by simpa using hf))
    go_enter Try.func8, Try.ntmps8
    go_wp2_with fail
    rw [← HV.out]
    refine HF.out.mono ?_
    rintro e w1 ⟨rfl, rfl⟩
    go_wp2_with fail
    refine (HA.out _).mono ?_
    rintro e w6 ⟨rfl, hb6⟩
    go_wp2_with fail
    go_ret
    exact ⟨rfl, below_step bV hb6⟩
end Go.Proofs.Ytmjjbodglbdadaa.ProfW
