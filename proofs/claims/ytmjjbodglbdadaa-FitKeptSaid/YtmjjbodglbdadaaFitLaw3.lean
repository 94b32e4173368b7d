/-
  FitKept: the law's walk.
-/
import Derived.Test.YtmjjbodglbdadaaFitLaw
import Derived.Test.YtmjjbodglbdadaaFitPlain3
import Derived.Deep.DeepCutAuto
namespace Go.Proofs.Ytmjjbodglbdadaa.ProfW
open Go.ChangeShapes Go.WideShapes Go.ChangeAt Go.RowKit Go.Deep Mem Prof
set_option linter.unusedVariables false

/-- an ask and a span, side by side -/
structure AskS (w : World) (g : Nat) (s t : Spn) : Prop where
  a : Blk w g 45 #[.int .i64 s.a, .int .i64 s.b, .int .i64 s.n]
  b : Blk w (g + 1) 34 #[.int .i64 t.a, .int .i64 t.b, .int .i64 t.n]
theorem AskS.below {w w' : World} {g : Nat} {s t : Spn} (h : AskS w g s t) (hb : Below w.heap.size w w') : AskS w' g s t := ⟨h.a.below hb h.a.lt, h.b.below hb h.b.lt⟩
theorem AskS.new (w : World) (s t : Spn) : AskS ((w.alloc (.cells #[.int .i64 s.a, .int .i64 s.b, .int .i64 s.n] 45)).alloc (.cells #[.int .i64 t.a, .int .i64 t.b, .int .i64 t.n] 34)) w.heap.size s t := by
  refine ⟨(Blk.new w _ _).alloc _, ?_⟩
  have := Blk.new (w.alloc (.cells #[.int .i64 s.a, .int .i64 s.b, .int .i64 s.n] 45)) 34 #[.int .i64 t.a, .int .i64 t.b, .int .i64 t.n]
  simpa using this
theorem AskS.cells {w : World} {g : Nat} {s t : Spn} (h : AskS w g s t) : (w.cell? ⟨g, 0, none⟩ = some (.int .i64 s.a) ∧ w.cell? ⟨g, 1, none⟩ = some (.int .i64 s.b) ∧ w.cell? ⟨g, 2, none⟩ = some (.int .i64 s.n)) ∧ w.cell? ⟨g + 1, 0, none⟩ = some (.int .i64 t.a) ∧ w.cell? ⟨g + 1, 1, none⟩ = some (.int .i64 t.b) ∧ w.cell? ⟨g + 1, 2, none⟩ = some (.int .i64 t.n) := ⟨blk3 h.a, blk3 h.b⟩
set_option maxHeartbeats 4000000 in
set_option maxRecDepth 100000 in
theorem kept_main (A : Option Addr) (m c : Nat) (p : List Stp) (s t : Spn) (W : World) (h : ArgS W A m c p) (hf : (m : Int) ≤ 200) (hfit : fitsT p s.a s.b s.n = true) (q : List Stp) (L : Int) (hk : takeT p s.a s.b s.n = (q, 0)) (hL1 : leastT p s.a (s.a + s.b) = L) (hL2 : leastT q s.a (s.a + s.b) = L - s.n) (hL3 : 0 ≤ L - s.n) (hL4 : L ≤ 1000000) :
    Calls Try.prog 11 #[.slice A m c, .agg #[.int .i64 s.a, .int .i64 s.b, .int .i64 s.n], .agg #[.int .i64 t.a, .int .i64 t.b, .int .i64 t.n]] W fun e w' => e = .returned (.bool true) ∧ Below W.heap.size W w' := by
  have HA : Hid (∀ w, Calls Try.prog 26 #[] w fun e w' => e = .returned (.bool true) ∧ Below w.heap.size w w') := awake11_any
  obtain ⟨V, hV⟩ : ∃ V, V = (W.alloc (.cells #[.int .i64 s.a, .int .i64 s.b, .int .i64 s.n] 45)).alloc (.cells #[.int .i64 t.a, .int .i64 t.b, .int .i64 t.n] 34) := ⟨_, rfl⟩
  have bV : Below W.heap.size W V := by rw [hV]; exact ((Below.refl _ _).alloc (Nat.le_refl _) _).alloc (by simp) _
  have k1 : AskS V W.heap.size s t := by rw [hV]; exact AskS.new W s t
  have HV := Lib.hid hV
  have HW := Lib.hid h
  have HF := Lib.hid (few_is true A m c V (by simpa using hf))
  have HFit := Lib.hid hfit
  have HK := Lib.hid hk
  have HL1 := Lib.hid hL1
  have HL2 := Lib.hid hL2
  have HMore : Hid (0 ≤ t.n → (add p t.a t.b t.n).2 = 0 → fitsT (add p t.a t.b t.n).1 s.a s.b s.n = true) := fun h1 h2 => more_kept hfit h1 h2
  obtain ⟨⟨x0, x1, x2⟩, y0, y1, y2⟩ := k1.cells
  obtain ⟨hck, hak⟩ := fits_ask hfit
  obtain ⟨q1, q2, q3, q4⟩ := ask_iff.1 hak
  obtain ⟨g0, g1, _⟩ := (fits_iff hck hak).1 hfit
  clear h hV hfit hk hL1 hL2 hck hak
  go_enter Try.func11, Try.ntmps11
  go_wp2_with fail
  rw [← HV.out]
  refine HF.out.mono ?_
  rintro e w1 ⟨rfl, rfl⟩
  go_wp2_with fail
  refine (fits_r true A m c p s.a s.b s.n V (HW.out.st.below bV) HW.out.max HFit.out).mono ?_
  rintro e w1 ⟨rfl, b1⟩
  have k2 := k1.below b1
  have bw1 := below_step bV b1
  clear x0 x1 x2 y0 y1 y2 b1 bV k1
  obtain ⟨⟨x0, x1, x2⟩, y0, y1, y2⟩ := k2.cells
  go_wp2_with fail
  refine (take_r q 0 A m c p s.a s.b s.n w1 (HW.out.st.below bw1) HW.out.max HW.out.le HW.out.bare HK.out).mono ?_
  rintro e w2 ⟨A2, c2, rfl, ho2, b2⟩
  have k3 := k2.below b2
  have bw2 := below_step bw1 b2
  have hq := ho2.lst layS
  have HQ := Lib.hid hq
  have HQm := Lib.hid (SOwn.max ho2)
  clear x0 x1 x2 y0 y1 y2 b2 bw1 k2 hq ho2
  obtain ⟨⟨x0, x1, x2⟩, y0, y1, y2⟩ := k3.cells
  have HLp : Hid (∀ w', Below W.heap.size W w' → Calls Try.prog 18 #[.slice A m c, .int .i64 s.a, .int .i64 (s.a + s.b)] w' (Ret (.int .i64 L) w')) := fun w' hb' => least_is L A m c p s.a (s.a + s.b) w' (HW.out.st.below hb') HW.out.max HL1.out
  have HLq : Hid (∀ w', Below w2.heap.size w2 w' → Calls Try.prog 18 #[.slice A2 q.length c2, .int .i64 s.a, .int .i64 (s.a + s.b)] w' (Ret (.int .i64 (L - s.n)) w')) := fun w' hb' => least_is (L - s.n) A2 q.length c2 q s.a (s.a + s.b) w' (HQ.out.below hb') HQm.out HL2.out
  have b0 := Below.refl w2.heap.size w2
  have hw1 : IntKind.i64.wrap (s.a + s.b) = s.a + s.b := IntWalk.i64_in _ (by omega)
  have hw2 : IntKind.i64.wrap (L - s.n) = L - s.n := IntWalk.i64_in _ (by omega)
  have hd : decide (L - s.n < 0) = false := by simp; omega
  have hd1 : ((L - s.n) != (L - s.n)) = false := by simp
  go_upto_region 6 with fail
  go_cut [77] (fun X wx => X = .bool false ∧ Below w2.heap.size w2 wx)
  case first =>
    have HS : Hid (∀ w', Below w2.heap.size w2 w' → (w'.cell? ⟨W.heap.size, 0, none⟩ = some (.int .i64 s.a) ∧ w'.cell? ⟨W.heap.size, 1, none⟩ = some (.int .i64 s.b) ∧ w'.cell? ⟨W.heap.size, 2, none⟩ = some (.int .i64 s.n))) := fun w' hk => (k3.below hk).cells.1
    go_region_held3 (fun w' => w'.cell? ⟨W.heap.size, 0, none⟩ = some (.int .i64 s.a) ∧ w'.cell? ⟨W.heap.size, 1, none⟩ = some (.int .i64 s.b) ∧ w'.cell? ⟨W.heap.size, 2, none⟩ = some (.int .i64 s.n))
      (first | with_reducible exact HS.out _ b0.drew | with_reducible exact HS.out _ b5 | with_reducible exact HS.out _ b4 | with_reducible exact HS.out _ b3)
      (first
        | (go_at_call 18; refine (HLq.out w4 b4).mono ?_; rintro e w5 ⟨rfl, d5⟩; have b5 := below_step b4 d5)
        | (go_at_call 18; refine (HLp.out w3 (below_step bw2 b3)).mono ?_; rintro e w4 ⟨rfl, d4⟩; have b4 := below_step b3 d4)
        | (go_at_call 18; refine (HLq.out w2.drew b0.drew).mono ?_; rintro e w3 ⟨rfl, d3⟩; have b3 := below_step b0.drew d3))
    all_goals go_wp2_with fail
    all_goals go_meet
    all_goals exact ⟨rfl, b5⟩
  case rest =>
    obtain ⟨rfl, b3⟩ := hcut
    have k4 := k3.below b3
    have bw3 := below_step bw2 b3
    clear x0 x1 x2 y0 y1 y2 k3 bw2 HLq HLp b0 b3 HQ hw1 hw2 hd hd1
    obtain ⟨⟨x0, x1, x2⟩, y0, y1, y2⟩ := k4.cells
    by_cases hn : t.n < 0
    · go_wp2_with fail
      refine (HA.out _).mono ?_
      rintro e w7 ⟨rfl, b7⟩
      go_wp2_with fail
      go_ret
      exact ⟨rfl, below_step bw3 b7⟩
    · have hn0 : 0 ≤ t.n := by omega
      clear hn
      have hm := HMore.out hn0
      obtain ⟨r, hr⟩ : ∃ r, r = add p t.a t.b t.n := ⟨_, rfl⟩
      rw [← hr] at hm
      obtain ⟨r, e⟩ := r
      simp only at hm
      have HM := Lib.hid hm
      have HR := Lib.hid hr.symm
      clear hm hr
      go_wp2_with fail
      refine (add_is r e A m c p t.a t.b t.n _ (HW.out.st.below bw3) HW.out.max HW.out.le HW.out.bare HR.out).mono ?_
      rintro e' w5 ⟨A5, c5, rfl, ho5, b5⟩
      have k5 := k4.below b5
      have bw5 := below_step bw3 b5
      have hq := ho5.lst layS
      have HQ := Lib.hid hq
      have HQm5 := Lib.hid (SOwn.max ho5)
      clear x0 x1 x2 y0 y1 y2 b5 bw3 k4 hq ho5
      obtain ⟨⟨x0, x1, x2⟩, y0, y1, y2⟩ := k5.cells
      by_cases he : e = 0
      · subst he
        have HM0 := Lib.hid (HM.out rfl)
        go_wp2_with fail
        refine (fits_r true A5 r.length c5 r s.a s.b s.n w5 HQ.out HQm5.out HM0.out).mono ?_
        rintro e' w6 ⟨rfl, b6⟩
        have bw6 := below_step bw5 b6
        clear x0 x1 x2 y0 y1 y2
        go_wp2_with fail
        refine (HA.out _).mono ?_
        rintro e' w7 ⟨rfl, b7⟩
        go_wp2_with fail
        go_ret
        exact ⟨rfl, below_step bw6 b7⟩
      · have he1 : (e != 0) = true := by simpa using he
        have he2 : (e == 0) = false := by simpa using he
        clear he
        go_wp2_with fail
        refine (HA.out _).mono ?_
        rintro e' w7 ⟨rfl, b7⟩
        go_wp2_with fail
        go_ret
        exact ⟨rfl, below_step bw5 b7⟩
set_option maxHeartbeats 4000000 in
set_option maxRecDepth 100000 in
theorem kept_any (A : Option Addr) (m c : Nat) (p : List Stp) (s t : Spn) (W : World) (h : ArgS W A m c p) :
    Calls Try.prog 11 #[.slice A m c, .agg #[.int .i64 s.a, .int .i64 s.b, .int .i64 s.n], .agg #[.int .i64 t.a, .int .i64 t.b, .int .i64 t.n]] W fun e w' => e = .returned (.bool true) ∧ Below W.heap.size W w' := by
  have HA : Hid (∀ w, Calls Try.prog 26 #[] w fun e w' => e = .returned (.bool true) ∧ Below w.heap.size w w') := awake11_any
  obtain ⟨V, hV⟩ : ∃ V, V = (W.alloc (.cells #[.int .i64 s.a, .int .i64 s.b, .int .i64 s.n] 45)).alloc (.cells #[.int .i64 t.a, .int .i64 t.b, .int .i64 t.n] 34) := ⟨_, rfl⟩
  have bV : Below W.heap.size W V := by rw [hV]; exact ((Below.refl _ _).alloc (Nat.le_refl _) _).alloc (by simp) _
  have k1 : AskS V W.heap.size s t := by rw [hV]; exact AskS.new W s t
  have HV := Lib.hid hV
  have HW := Lib.hid h
  clear hV
  obtain ⟨⟨x0, x1, x2⟩, y0, y1, y2⟩ := k1.cells
  by_cases hf : (m : Int) ≤ 200
  · have HF := Lib.hid (few_is true A m c V (by simpa using hf))
    cases hfit : fitsT p s.a s.b s.n
    · have HFit := Lib.hid hfit
      clear hfit h
      go_enter Try.func11, Try.ntmps11
      go_wp2_with fail
      rw [← HV.out]
      refine HF.out.mono ?_
      rintro e w1 ⟨rfl, rfl⟩
      go_wp2_with fail
      refine (fits_r false A m c p s.a s.b s.n V (HW.out.st.below bV) HW.out.max HFit.out).mono ?_
      rintro e w1 ⟨rfl, b1⟩
      clear x0 x1 x2 y0 y1 y2
      go_wp2_with fail
      refine (HA.out _).mono ?_
      rintro e w6 ⟨rfl, hb6⟩
      go_wp2_with fail
      go_ret
      exact ⟨rfl, below_step bV (below_step b1 hb6)⟩
    · rcases take_kept hfit with hk | ⟨q, hk, h1, h2, h3, h4⟩
      · have HFit := Lib.hid hfit
        have HK := Lib.hid hk
        clear hfit h hk
        go_enter Try.func11, Try.ntmps11
        go_wp2_with fail
        rw [← HV.out]
        refine HF.out.mono ?_
        rintro e w1 ⟨rfl, rfl⟩
        go_wp2_with fail
        refine (fits_r true A m c p s.a s.b s.n V (HW.out.st.below bV) HW.out.max HFit.out).mono ?_
        rintro e w1 ⟨rfl, b1⟩
        have k2 := k1.below b1
        have bw1 := below_step bV b1
        clear x0 x1 x2 y0 y1 y2 b1 bV k1
        obtain ⟨⟨x0, x1, x2⟩, y0, y1, y2⟩ := k2.cells
        go_wp2_with fail
        refine (take_r [] 3 A m c p s.a s.b s.n w1 (HW.out.st.below bw1) HW.out.max HW.out.le HW.out.bare HK.out).mono ?_
        rintro e w2 ⟨A2, c2, rfl, ho2, b2⟩
        clear x0 x1 x2 y0 y1 y2
        go_wp2_with fail
        refine (HA.out _).mono ?_
        rintro e w6 ⟨rfl, hb6⟩
        go_wp2_with fail
        go_ret
        exact ⟨rfl, below_step bw1 (below_step b2 hb6)⟩
      · exact kept_main A m c p s t W h hf hfit q _ hk h1 h2 h3 h4
  · have HF := Lib.hid (few_is false A m c V (by simpa using hf))
    go_enter Try.func11, Try.ntmps11
    go_wp2_with fail
    rw [← HV.out]
    refine HF.out.mono ?_
    rintro e w1 ⟨rfl, rfl⟩
    go_wp2_with fail
    refine (HA.out _).mono ?_
    rintro e w6 ⟨rfl, hb6⟩
    go_wp2_with fail
    go_ret
    exact ⟨rfl, below_step bV hb6⟩
end Go.Proofs.Ytmjjbodglbdadaa.ProfW
