/-
  FitFirst: the law's walk.
-/
import Derived.Test.YtmjjbodglbdadaaFitLaw
import Derived.Test.YtmjjbodglbdadaaFitPlain2
namespace Go.Proofs.Ytmjjbodglbdadaa.ProfW
open Go.ChangeShapes Go.WideShapes Go.ChangeAt Go.RowKit Go.Deep Mem Prof
set_option linter.unusedVariables false

/-- two asks, side by side -/
structure Asks2 (w : World) (g : Nat) (s t : Spn) : Prop where
  a : Blk w g 45 #[.int .i64 s.a, .int .i64 s.b, .int .i64 s.n]
  b : Blk w (g + 1) 45 #[.int .i64 t.a, .int .i64 t.b, .int .i64 t.n]
theorem Asks2.below {w w' : World} {g : Nat} {s t : Spn} (h : Asks2 w g s t) (hb : Below w.heap.size w w') : Asks2 w' g s t := ⟨h.a.below hb h.a.lt, h.b.below hb h.b.lt⟩
theorem Asks2.new (w : World) (s t : Spn) : Asks2 ((w.alloc (.cells #[.int .i64 s.a, .int .i64 s.b, .int .i64 s.n] 45)).alloc (.cells #[.int .i64 t.a, .int .i64 t.b, .int .i64 t.n] 45)) w.heap.size s t := by
  refine ⟨(Blk.new w _ _).alloc _, ?_⟩
  have := Blk.new (w.alloc (.cells #[.int .i64 s.a, .int .i64 s.b, .int .i64 s.n] 45)) 45 #[.int .i64 t.a, .int .i64 t.b, .int .i64 t.n]
  simpa using this
theorem Asks2.cells {w : World} {g : Nat} {s t : Spn} (h : Asks2 w g s t) : (w.cell? ⟨g, 0, none⟩ = some (.int .i64 s.a) ∧ w.cell? ⟨g, 1, none⟩ = some (.int .i64 s.b) ∧ w.cell? ⟨g, 2, none⟩ = some (.int .i64 s.n)) ∧ w.cell? ⟨g + 1, 0, none⟩ = some (.int .i64 t.a) ∧ w.cell? ⟨g + 1, 1, none⟩ = some (.int .i64 t.b) ∧ w.cell? ⟨g + 1, 2, none⟩ = some (.int .i64 t.n) := ⟨blk3 h.a, blk3 h.b⟩
theorem earl_r0 (A : Option Addr) (n c : Nat) (p : List Stp) (f0 long nodes : Int) (w : World) (h : Steps w A n p) (hn : n ≤ maxLen) (hr : earl p f0 long nodes = none) :
    Calls Try.prog 27 #[.slice A n c, .int .i64 f0, .int .i64 long, .int .i64 nodes] w (Ret2 0 false w) := by
  have := earl_any A n c p f0 long nodes w h hn
  unfold EarlPost at this
  rw [hr] at this
  exact this
set_option maxHeartbeats 4000000 in
set_option maxRecDepth 100000 in
theorem first_some (A : Option Addr) (m c : Nat) (p : List Stp) (s t : Spn) (x : Int) (W : World) (h : ArgS W A m c p) (hf : (m : Int) ≤ 200) (he : earl p s.a s.b s.n = some x) :
    Calls Try.prog 10 #[.slice A m c, .agg #[.int .i64 s.a, .int .i64 s.b, .int .i64 s.n], .agg #[.int .i64 t.a, .int .i64 t.b, .int .i64 t.n]] W fun e w' => e = .returned (.bool true) ∧ Below W.heap.size W w' := by
  have HA : Hid (∀ w, Calls Try.prog 26 #[] w fun e w' => e = .returned (.bool true) ∧ Below w.heap.size w w') := awake11_any
  obtain ⟨V, hV⟩ : ∃ V, V = (W.alloc (.cells #[.int .i64 s.a, .int .i64 s.b, .int .i64 s.n] 45)).alloc (.cells #[.int .i64 t.a, .int .i64 t.b, .int .i64 t.n] 45) := ⟨_, rfl⟩
  have bV : Below W.heap.size W V := by rw [hV]; exact ((Below.refl _ _).alloc (Nat.le_refl _) _).alloc (by simp) _
  have k1 : Asks2 V W.heap.size s t := by rw [hV]; exact Asks2.new W s t
  have HV := Lib.hid hV
  have HW := Lib.hid h
  have HE := Lib.hid he
  obtain ⟨hF0, hx1, hx2, hx3⟩ := earl_some he
  have HF0 := Lib.hid hF0
  have HF := Lib.hid (few_is true A m c V (by simpa using hf))
  have HY : Hid (s.a ≤ t.a → ∀ y, earl p t.a s.b s.n = some y → x ≤ y) := by
    show _ → _
    intro h1 y hy
    obtain ⟨q1, q2, _, _⟩ := earl_some hy
    obtain ⟨x', e', hle⟩ := earl_of (a := s.a) (y := y) (by omega) q1
    rw [he] at e'
    injection e' with e'
    omega
  have HZ : Hid (1 ≤ t.b → t.b ≤ s.b → 1 ≤ t.n → t.n ≤ s.n → ∃ z, earl p s.a t.b t.n = some z ∧ z ≤ x) := fun h1 h2 h3 h4 => earl_of hx1 (fits_less hF0 h1 h2 h3 h4)
  have hcase : (s.a ≤ t.a ∧ t.a < x ∧ fitsT p t.a s.b s.n = false) ∨ (s.a ≤ t.a ∧ x ≤ t.a) ∨ t.a < s.a := by
    by_cases q1 : s.a ≤ t.a
    · by_cases q2 : t.a < x
      · exact .inl ⟨q1, q2, hx3 _ q1 q2⟩
      · exact .inr (.inl ⟨q1, by omega⟩)
    · exact .inr (.inr (by omega))
  have HCase := Lib.hid hcase
  obtain ⟨⟨x0, x1, x2⟩, y0, y1, y2⟩ := k1.cells
  clear h hV he hF0 hx3 hcase
  go_enter Try.func10, Try.ntmps10
  go_wp2_with fail
  rw [← HV.out]
  refine HF.out.mono ?_
  rintro e w1 ⟨rfl, rfl⟩
  go_wp2_with fail
  refine (earl_r x A m c p s.a s.b s.n V (HW.out.st.below bV) HW.out.max HE.out).mono ?_
  rintro e w1 ⟨rfl, b1⟩
  have g1 := k1.below b1
  have bw1 := below_step bV b1
  clear x0 x1 x2 y0 y1 y2 b1 bV k1
  obtain ⟨⟨x0, x1, x2⟩, y0, y1, y2⟩ := g1.cells
  go_upto_region 4 with fail
  go_cut [67] (fun X wx => X = .bool false ∧ Asks2 wx W.heap.size s t ∧ Below W.heap.size W wx)
  case first =>
    rcases HCase.out with ⟨q1, q2, q3⟩ | ⟨q1, q2⟩ | q1
    · have HQ3 := Lib.hid q3
      clear q3
      go_wp2_with fail
      refine (fits_r true A m c p x s.b s.n w1 (HW.out.st.below bw1) HW.out.max HF0.out).mono ?_
      rintro e w2 ⟨rfl, b2⟩
      have g2 := g1.below b2
      have bw2 := below_step bw1 b2
      clear x0 x1 x2 y0 y1 y2 b2 bw1 g1
      obtain ⟨⟨x0, x1, x2⟩, y0, y1, y2⟩ := g2.cells
      go_wp2_with fail
      refine (fits_r false A m c p t.a s.b s.n w2 (HW.out.st.below bw2) HW.out.max HQ3.out).mono ?_
      rintro e w3 ⟨rfl, b3⟩
      have g3 := g2.below b3
      have bw3 := below_step bw2 b3
      go_wp2_with fail
      go_meet
      exact ⟨congrArg Value.bool (by simp; omega), g3, bw3⟩
    all_goals
      go_wp2_with fail
      refine (fits_r true A m c p x s.b s.n w1 (HW.out.st.below bw1) HW.out.max HF0.out).mono ?_
      rintro e w2 ⟨rfl, b2⟩
      have g2 := g1.below b2
      have bw2 := below_step bw1 b2
      clear x0 x1 x2 y0 y1 y2 b2 bw1 g1
      obtain ⟨⟨x0, x1, x2⟩, y0, y1, y2⟩ := g2.cells
      go_wp2_with fail
      go_meet
      exact ⟨congrArg Value.bool (by simp; omega), g2, bw2⟩
  case rest =>
    obtain ⟨rfl, g3, bw3⟩ := hcut
    clear x0 x1 x2 y0 y1 y2 g1 bw1 HCase
    obtain ⟨⟨x0, x1, x2⟩, y0, y1, y2⟩ := g3.cells
    obtain ⟨o, ho⟩ : ∃ o, o = earl p t.a s.b s.n := ⟨_, rfl⟩
    have HO := Lib.hid ho
    obtain ⟨ov, hov⟩ : ∃ v, v = o.getD 0 := ⟨_, rfl⟩
    obtain ⟨ob, hob⟩ : ∃ v, v = o.isSome := ⟨_, rfl⟩
    have HEV : Hid (earlV o = .tuple #[.int .i64 ov, .bool ob]) := by rw [hov, hob]; rfl
    have hco : (t.a < s.a) ∨ (s.a ≤ t.a ∧ ob = false) ∨ (s.a ≤ t.a ∧ ob = true ∧ x ≤ ov) := by
      by_cases q1 : s.a ≤ t.a
      · cases o with
        | none => exact .inr (.inl ⟨q1, hob⟩)
        | some y => exact .inr (.inr ⟨q1, hob, by rw [hov]; exact HY.out q1 y ho.symm⟩)
      · exact .inl (by omega)
    have HCo := Lib.hid hco
    clear hco hov hob ho
    go_wp2_with fail
    refine (earl_any A m c p t.a s.b s.n wc (HW.out.st.below bw3) HW.out.max).mono ?_
    rw [← HO.out]
    rintro e w4 ⟨rfl, b4⟩
    rw [HEV.out]
    have g4 := g3.below b4
    have bw4 := below_step bw3 b4
    clear x0 x1 x2 y0 y1 y2 b4 bw3 g3
    obtain ⟨⟨x0, x1, x2⟩, y0, y1, y2⟩ := g4.cells
    go_upto_region 9 with fail
    go_cut [118] (fun X wx => X = .bool false ∧ Asks2 wx W.heap.size s t ∧ Below W.heap.size W wx)
    case first =>
      rcases HCo.out with q1 | ⟨q1, rfl⟩ | ⟨q1, rfl, q2⟩
      all_goals
        go_wp2_with fail
        go_meet
        exact ⟨congrArg Value.bool (by simp; try omega), g4, bw4⟩
    case rest =>
      obtain ⟨rfl, g5, bw5⟩ := hcut
      clear x0 x1 x2 y0 y1 y2 g4 bw4 HCo
      obtain ⟨⟨x0, x1, x2⟩, y0, y1, y2⟩ := g5.cells
      have hcz : t.b < 1 ∨ (1 ≤ t.b ∧ s.b < t.b) ∨ (1 ≤ t.b ∧ t.b ≤ s.b ∧ t.n < 1) ∨ (1 ≤ t.b ∧ t.b ≤ s.b ∧ 1 ≤ t.n ∧ s.n < t.n) ∨ (1 ≤ t.b ∧ t.b ≤ s.b ∧ 1 ≤ t.n ∧ t.n ≤ s.n) := by omega
      rcases hcz with q1 | ⟨q1, q2⟩ | ⟨q1, q2, q3⟩ | ⟨q1, q2, q3, q4⟩ | ⟨q1, q2, q3, q4⟩
      case inr.inr.inr.inr =>
        obtain ⟨z, hz, hzx⟩ := HZ.out q1 q2 q3 q4
        have HZ1 := Lib.hid hz
        clear hz
        go_wp2_with fail
        refine (earl_r z A m c p s.a t.b t.n _ (HW.out.st.below bw5) HW.out.max HZ1.out).mono ?_
        rintro e w6 ⟨rfl, b6⟩
        have bw6 := below_step bw5 b6
        clear x0 x1 x2 y0 y1 y2 b6 bw5 g5
        go_wp2_with fail
        refine (HA.out _).mono ?_
        rintro e w7 ⟨rfl, b7⟩
        go_wp2_with fail
        go_ret
        exact ⟨rfl, below_step bw6 b7⟩
      all_goals
        go_wp2_with fail
        refine (HA.out _).mono ?_
        rintro e w7 ⟨rfl, b7⟩
        go_wp2_with fail
        go_ret
        exact ⟨rfl, below_step bw5 b7⟩
set_option maxHeartbeats 4000000 in
set_option maxRecDepth 100000 in
theorem first_none (A : Option Addr) (m c : Nat) (p : List Stp) (s t : Spn) (W : World) (h : ArgS W A m c p) (hf : (m : Int) ≤ 200) (he : earl p s.a s.b s.n = none) :
    Calls Try.prog 10 #[.slice A m c, .agg #[.int .i64 s.a, .int .i64 s.b, .int .i64 s.n], .agg #[.int .i64 t.a, .int .i64 t.b, .int .i64 t.n]] W fun e w' => e = .returned (.bool true) ∧ Below W.heap.size W w' := by
  have HA : Hid (∀ w, Calls Try.prog 26 #[] w fun e w' => e = .returned (.bool true) ∧ Below w.heap.size w w') := awake11_any
  obtain ⟨V, hV⟩ : ∃ V, V = (W.alloc (.cells #[.int .i64 s.a, .int .i64 s.b, .int .i64 s.n] 45)).alloc (.cells #[.int .i64 t.a, .int .i64 t.b, .int .i64 t.n] 45) := ⟨_, rfl⟩
  have bV : Below W.heap.size W V := by rw [hV]; exact ((Below.refl _ _).alloc (Nat.le_refl _) _).alloc (by simp) _
  have k1 : Asks2 V W.heap.size s t := by rw [hV]; exact Asks2.new W s t
  have HV := Lib.hid hV
  have HW := Lib.hid h
  have HE := Lib.hid he
  have HN := Lib.hid (fun y hy => earl_none he y hy)
  have HF := Lib.hid (few_is true A m c V (by simpa using hf))
  have HY : Hid (s.a ≤ t.a → earl p t.a s.b s.n = none) := by
    show _ → _
    intro h1
    cases hy : earl p t.a s.b s.n with
    | none => rfl
    | some y =>
      obtain ⟨q1, q2, _, _⟩ := earl_some hy
      rw [earl_none he y (by omega)] at q1
      cases q1
  obtain ⟨⟨x0, x1, x2⟩, y0, y1, y2⟩ := k1.cells
  clear h hV he
  go_enter Try.func10, Try.ntmps10
  go_wp2_with fail
  rw [← HV.out]
  refine HF.out.mono ?_
  rintro e w1 ⟨rfl, rfl⟩
  go_wp2_with fail
  refine (earl_r0 A m c p s.a s.b s.n V (HW.out.st.below bV) HW.out.max HE.out).mono ?_
  rintro e w1 ⟨rfl, b1⟩
  have g1 := k1.below b1
  have bw1 := below_step bV b1
  clear x0 x1 x2 y0 y1 y2 b1 bV k1
  obtain ⟨⟨x0, x1, x2⟩, y0, y1, y2⟩ := g1.cells
  by_cases q1 : s.a ≤ t.a
  · have HQ := Lib.hid (HN.out t.a q1)
    have HY1 := Lib.hid (HY.out q1)
    go_wp2_with fail
    refine (fits_r false A m c p t.a s.b s.n w1 (HW.out.st.below bw1) HW.out.max HQ.out).mono ?_
    rintro e w2 ⟨rfl, b2⟩
    have g2 := g1.below b2
    have bw2 := below_step bw1 b2
    clear x0 x1 x2 y0 y1 y2 b2 bw1 g1
    obtain ⟨⟨x0, x1, x2⟩, y0, y1, y2⟩ := g2.cells
    go_wp2_with fail
    refine (earl_r0 A m c p t.a s.b s.n w2 (HW.out.st.below bw2) HW.out.max HY1.out).mono ?_
    rintro e w3 ⟨rfl, b3⟩
    have g3 := g2.below b3
    have bw3 := below_step bw2 b3
    clear x0 x1 x2 y0 y1 y2 b3 bw2 g2
    obtain ⟨⟨x0, x1, x2⟩, y0, y1, y2⟩ := g3.cells
    have hcz : t.b < 1 ∨ (1 ≤ t.b ∧ s.b < t.b) ∨ (1 ≤ t.b ∧ t.b ≤ s.b ∧ t.n < 1) ∨ (1 ≤ t.b ∧ t.b ≤ s.b ∧ 1 ≤ t.n ∧ s.n < t.n) ∨ (1 ≤ t.b ∧ t.b ≤ s.b ∧ 1 ≤ t.n ∧ t.n ≤ s.n) := by omega
    rcases hcz with q1 | ⟨q1, q2⟩ | ⟨q1, q2, q3⟩ | ⟨q1, q2, q3, q4⟩ | ⟨q1, q2, q3, q4⟩
    all_goals
      go_wp2_with fail
      refine (HA.out _).mono ?_
      rintro e w7 ⟨rfl, b7⟩
      go_wp2_with fail
      go_ret
      exact ⟨rfl, below_step bw3 b7⟩
  · have q2 : t.a < s.a := by omega
    clear q1
    obtain ⟨o, ho⟩ : ∃ o, o = earl p t.a s.b s.n := ⟨_, rfl⟩
    have HO := Lib.hid ho
    obtain ⟨ov, hov⟩ : ∃ v, v = o.getD 0 := ⟨_, rfl⟩
    obtain ⟨ob, hob⟩ : ∃ v, v = o.isSome := ⟨_, rfl⟩
    have HEV : Hid (earlV o = .tuple #[.int .i64 ov, .bool ob]) := by rw [hov, hob]; rfl
    clear hov hob ho
    go_wp2_with fail
    refine (earl_any A m c p t.a s.b s.n w1 (HW.out.st.below bw1) HW.out.max).mono ?_
    rw [← HO.out]
    rintro e w3 ⟨rfl, b3⟩
    rw [HEV.out]
    have g3 := g1.below b3
    have bw3 := below_step bw1 b3
    clear x0 x1 x2 y0 y1 y2 b3 bw1 g1
    obtain ⟨⟨x0, x1, x2⟩, y0, y1, y2⟩ := g3.cells
    have hcz : t.b < 1 ∨ (1 ≤ t.b ∧ s.b < t.b) ∨ (1 ≤ t.b ∧ t.b ≤ s.b ∧ t.n < 1) ∨ (1 ≤ t.b ∧ t.b ≤ s.b ∧ 1 ≤ t.n ∧ s.n < t.n) ∨ (1 ≤ t.b ∧ t.b ≤ s.b ∧ 1 ≤ t.n ∧ t.n ≤ s.n) := by omega
    rcases hcz with q1 | ⟨q1, q2⟩ | ⟨q1, q2, q3⟩ | ⟨q1, q2, q3, q4⟩ | ⟨q1, q2, q3, q4⟩
    all_goals
      go_wp2_with fail
      refine (HA.out _).mono ?_
      rintro e w7 ⟨rfl, b7⟩
      go_wp2_with fail
      go_ret
      exact ⟨rfl, below_step bw3 b7⟩
set_option maxHeartbeats 1000000 in
set_option maxRecDepth 100000 in
theorem first_any (A : Option Addr) (m c : Nat) (p : List Stp) (s t : Spn) (W : World) (h : ArgS W A m c p) :
    Calls Try.prog 10 #[.slice A m c, .agg #[.int .i64 s.a, .int .i64 s.b, .int .i64 s.n], .agg #[.int .i64 t.a, .int .i64 t.b, .int .i64 t.n]] W fun e w' => e = .returned (.bool true) ∧ Below W.heap.size W w' := by
  by_cases hf : (m : Int) ≤ 200
  · cases he : earl p s.a s.b s.n with
    | none => exact first_none A m c p s t W h hf he
    | some x => exact first_some A m c p s t x W h hf he
  · have HA : Hid (∀ w, Calls Try.prog 26 #[] w fun e w' => e = .returned (.bool true) ∧ Below w.heap.size w w') := awake11_any
    have HF := Lib.hid (fun V => few_is false A m c V (by simpa using hf))
    go_enter Try.func10, Try.ntmps10
    go_wp2_with fail
    refine (HF.out _).mono ?_
    rintro e w1 ⟨rfl, rfl⟩
    go_wp2_with fail
    refine (HA.out _).mono ?_
    rintro e w6 ⟨rfl, hb6⟩
    go_wp2_with fail
    go_ret
    exact ⟨rfl, below_step (((Below.refl _ _).alloc (Nat.le_refl _) _).alloc (by simp) _) hb6⟩
end Go.Proofs.Ytmjjbodglbdadaa.ProfW
