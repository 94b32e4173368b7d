/-
  ProfileLeast: the law's walk.
-/
import Derived.Test.YtmjjbodglbdadaaProfLaw2
namespace Go.Proofs.Ytmjjbodglbdadaa.ProfW
open Go.RowKit Mem Prof
set_option linter.unusedVariables false

def hitB (p : List Stp) (a b L : Int) (s : Stp) : Bool := decide (a ≤ s.1) && decide (s.1 < b) && (atT p s.1 == L)
def foundB (p : List Stp) (a b L : Int) (k : Nat) : Bool := (atT p a == L) || (p.take k).any (hitB p a b L)
theorem foundB_snoc {p : List Stp} {a b L : Int} {k : Nat} {s : Stp} (hs : p[k]? = some s) : foundB p a b L (k + 1) = (foundB p a b L k || hitB p a b L s) := by
  unfold foundB
  rw [take_snoc_some hs, List.any_append, Bool.or_assoc]
  simp
theorem atT_now {p : List Stp} (hc : chkB p = true) {t : Int} (h0 : 0 ≤ t) (h1 : t ≤ 1000000) : atT p t = now p t := by
  unfold atT
  rw [if_pos ⟨hc, by simp [tickB, h0, h1]⟩]
theorem found_all {p : List Stp} (hc : chkB p = true) {a b : Int} (h0 : 0 ≤ a) (h1 : a ≤ 1000000) : foundB p a b (least p a b) p.length = true := by
  have hC := chk_of hc
  unfold foundB
  rw [List.take_length]
  rcases least_mem hC.nf.up a b with h | ⟨s, hs, g1, g2, g3⟩
  · rw [atT_now hc h0 h1, h]
    simp
  · rw [Bool.or_eq_true]
    refine .inr ?_
    rw [List.any_eq_true]
    refine ⟨s, hs, ?_⟩
    have hE := hC.le s hs
    unfold Prof.End at hE
    rw [hitB, atT_now hc (hC.nf.up.nonneg s hs) hE, g3]
    simp [g1, g2]
set_option maxHeartbeats 2000000 in
set_option maxRecDepth 100000 in
theorem pleast_main (A : Option Addr) (c : Nat) (p : List Stp) (s : Spn) (t : Int) (W : World) (h : ArgS W A p.length c p) (hf : p.length ≤ 200) (hc : chkB p = true) (ha0 : 0 ≤ s.a) (ha1 : s.a ≤ 1000000) (hab : s.a < s.b) :
    Calls Try.prog 7 #[.slice A p.length c, .agg #[.int .i64 s.a, .int .i64 s.b, .int .i64 s.n], .int .i64 t] W fun e w' => e = .returned (.bool true) ∧ Below W.heap.size W w' := by
  have HA : Hid (∀ w, Calls Try.prog 13 #[] w fun e w' => e = .returned (.bool true) ∧ Below w.heap.size w w') := awake_any
  obtain ⟨V, hV⟩ : ∃ V, V = W.alloc (.cells #[.int .i64 s.a, .int .i64 s.b, .int .i64 s.n] 34) := ⟨_, rfl⟩
  have bV : Below W.heap.size W V := by rw [hV]; exact (Below.refl _ _).alloc (Nat.le_refl _) _
  have k1 : Blk V W.heap.size 34 #[.int .i64 s.a, .int .i64 s.b, .int .i64 s.n] := by rw [hV]; exact Blk.new _ _ _
  have HV := Lib.hid hV
  have HW := Lib.hid h
  obtain ⟨L, hL⟩ : ∃ L, L = least p s.a s.b := ⟨_, rfl⟩
  have HLs : Hid (leastT p s.a s.b = L) := by show _ = _; rw [hL, leastT, if_pos ⟨hc, by simp [tickB, ha0, ha1], hab⟩]
  have HFa : Hid (foundB p s.a s.b L p.length = true) := by show _ = _; rw [hL]; exact found_all hc ha0 ha1
  have HTt : Hid (s.a ≤ t → t < s.b → t ≤ 1000000 → L ≤ atT p t) := by
    show s.a ≤ t → _
    intro q1 q2 q3
    rw [atT_now hc (by omega) q3, hL]
    exact least_le (chk_of hc).nf.up ha0 q1 q2
  have HCk := Lib.hid (chkE_yes hc)
  have HF := Lib.hid (few_is true A p.length c V (by simp; omega))
  obtain ⟨x0, x1, x2⟩ := blk3 k1
  obtain ⟨u, hu⟩ : ∃ u, u = atT p t := ⟨_, rfl⟩
  have HU := Lib.hid hu
  rw [← hu] at HTt
  clear h hV hL hc hu
  have hcase : (s.a ≤ t ∧ t < s.b ∧ t ≤ 1000000 ∧ L ≤ u) ∨ ((¬ s.a ≤ t) ∨ (s.a ≤ t ∧ ¬ t < s.b) ∨ (s.a ≤ t ∧ t < s.b ∧ 1000000 < t)) := by
    by_cases q1 : s.a ≤ t
    · by_cases q2 : t < s.b
      · by_cases q3 : t ≤ 1000000
        · exact .inl ⟨q1, q2, q3, HTt.out q1 q2 q3⟩
        · exact .inr (.inr (.inr ⟨q1, q2, by omega⟩))
      · exact .inr (.inr (.inl ⟨q1, q2⟩))
    · exact .inr (.inl q1)
  have HCase := Lib.hid hcase
  clear hcase HTt
  go_enter Try.func7, Try.ntmps7
  go_wp2_with fail
  rw [← HV.out]
  refine HF.out.mono ?_
  rintro e w1 ⟨rfl, rfl⟩
  go_wp2_with fail
  refine (check_is 0 A _ c p V (HW.out.st.below bV) HW.out.max HCk.out).mono ?_
  rintro e w1 ⟨rfl, b1⟩
  have bw1 := below_step bV b1
  have g1 := k1.below b1 k1.lt
  clear x0 x1 x2 bV b1 k1
  obtain ⟨x0, x1, x2⟩ := blk3 g1
  go_wp2_with fail
  refine (least_is L A _ c p _ _ w1 (HW.out.st.below bw1) HW.out.max HLs.out).mono ?_
  rintro e w2 ⟨rfl, b2⟩
  have bw2 := below_step bw1 b2
  have g2 := g1.below b2 g1.lt
  clear x0 x1 x2 bw1 b2 g1
  obtain ⟨x0, x1, x2⟩ := blk3 g2
  go_upto_region 4 with fail
  go_cut [62] (fun X wx => X = .bool false ∧ Blk wx W.heap.size 34 #[.int .i64 s.a, .int .i64 s.b, .int .i64 s.n] ∧ Below W.heap.size W wx)
  case first =>
    rcases HCase.out with ⟨q1, q2, q3, q4⟩ | q1 | ⟨q1, q2⟩ | ⟨q1, q2, q3⟩
    · go_wp2_with fail
      refine (at_is u A _ c p t w2 (HW.out.st.below bw2) HW.out.max HU.out.symm).mono ?_
      rintro e w3 ⟨rfl, b3⟩
      go_wp2_with fail
      go_meet
      exact ⟨congrArg Value.bool (by simpa using q4), g2.below b3 g2.lt, below_step bw2 b3⟩
    all_goals
      go_wp2_with fail
      go_meet
      exact ⟨rfl, g2, bw2⟩
  case rest =>
    obtain ⟨rfl, g3, bw3⟩ := hcut
    clear x0 x1 x2 g2 bw2 HCase HU HLs HF
    obtain ⟨x0, x1, x2⟩ := blk3 g3
    obtain ⟨va, hva⟩ : ∃ va, va = atT p s.a := ⟨_, rfl⟩
    have HVa := Lib.hid hva
    clear hva
    go_wp2_with fail
    refine (at_is va A _ c p s.a wc (HW.out.st.below bw3) HW.out.max HVa.out.symm).mono ?_
    rintro e w4 ⟨rfl, b4⟩
    have bw4 := below_step bw3 b4
    have g4 := g3.below b4 g3.lt
    clear x0 x1 x2 bw3 b4 g3
    go_wp2_with fail
    go_loopw [8, 9] (fun X Y wr => ∃ k : Nat, k ≤ p.length ∧ Y = .int .i64 k ∧ X = .bool (foundB p s.a s.b L k) ∧ Blk wr W.heap.size 34 #[.int .i64 s.a, .int .i64 s.b, .int .i64 s.n] ∧ Below W.heap.size W wr) (fun _ Y _ => p.length - (intOf Y).toNat)
    case atStart => exact ⟨0, by omega, rfl, by simp [foundB, HVa.out], g4, bw4⟩
    case round =>
      obtain ⟨k, hk, rfl, rfl, g5, bw5⟩ := hrel
      clear g4 bw4
      obtain ⟨x0, x1, x2⟩ := blk3 g5
      by_cases hlt : k < p.length
      · obtain ⟨ab, off, r, rfl, hbl, hr, d0, d1⟩ := Lst.two HW.out.st hlt
        have HN := Lib.hid (foundB_snoc (a := s.a) (b := s.b) (L := L) hr)
        clear hr
        obtain ⟨fk, hfk⟩ : ∃ fk, fk = foundB p s.a s.b L k := ⟨_, rfl⟩
        rw [← hfk] at HN
        rw [← hfk]
        clear hfk
        have HS : Hid (∀ w', Below W.heap.size W w' → Blk w' W.heap.size 34 #[.int .i64 s.a, .int .i64 s.b, .int .i64 s.n] → (w'.cell? ⟨ab, off + k * 2, none⟩ = some (.int .i64 r.1) ∧ w'.cell? ⟨W.heap.size, 0, none⟩ = some (.int .i64 s.a) ∧ w'.cell? ⟨W.heap.size, 1, none⟩ = some (.int .i64 s.b))) := by
          show ∀ w', _
          intro w' hb' hk'
          exact ⟨(hb'.cell (p := ⟨ab, off + k * 2, none⟩) hbl).trans d0, hk'.cell 0, hk'.cell 1⟩
        obtain ⟨va, hva⟩ : ∃ va, va = atT p r.1 := ⟨_, rfl⟩
        have HAt : Hid (∀ w', Below W.heap.size W w' → Calls Try.prog 16 #[.slice (some ⟨ab, off, none⟩) p.length c, .int .i64 r.1] w' (Ret (.int .i64 va) w')) := by
          show ∀ w', _
          intro w' hb'
          exact at_is va _ _ c p r.1 w' (HW.out.st.below hb') HW.out.max hva.symm
        have HH : Hid (hitB p s.a s.b L r = (decide (s.a ≤ r.1) && decide (r.1 < s.b) && (va == L))) := by show _ = _; rw [hitB, hva]
        rw [HH.out] at HN
        clear hva HH d0 d1
        obtain ⟨z0, _, _⟩ := HS.out wr bw5 g5
        cases fk
        · by_cases h1 : s.a ≤ r.1
          · have e1 : decide (s.a ≤ r.1) = true := by simpa using h1
            by_cases h2 : r.1 < s.b
            · have e2 : decide (r.1 < s.b) = true := by simpa using h2
              rw [e1, e2] at HN
              simp only [Bool.true_and, Bool.false_or] at HN
              go_wp2_with fail
              go_region_held3 (fun w' => w'.cell? ⟨ab, off + k * 2, none⟩ = some (.int .i64 r.1) ∧ w'.cell? ⟨W.heap.size, 0, none⟩ = some (.int .i64 s.a) ∧ w'.cell? ⟨W.heap.size, 1, none⟩ = some (.int .i64 s.b))
                (first | with_reducible exact HS.out _ bw5.drew g5.drew | with_reducible exact HS.out _ bw7 g7)
                (first | (go_at_call 16; refine (HAt.out wr.drew bw5.drew).mono ?_; rintro e w7 ⟨rfl, b7⟩; have bw7 : Below W.heap.size W w7 := below_step bw5.drew b7; have g7 := g5.drew.below b7 g5.drew.lt))
              go_wp2_with fail
              exact ⟨⟨k + 1, by omega, by go_num, by rw [HN.out], g7, bw7⟩, by simp [intOf]; omega⟩
            · have e2 : decide (r.1 < s.b) = false := by simpa using h2
              rw [e1, e2] at HN
              simp only [Bool.true_and, Bool.false_or, Bool.false_and] at HN
              go_wp2_with fail
              go_quiet (fail)
              go_wp2_with fail
              exact ⟨⟨k + 1, by omega, by go_num, by rw [HN.out], g5.drewN _, below_drewN bw5 _⟩, by simp [intOf]; omega⟩
          · have e1 : decide (s.a ≤ r.1) = false := by simpa using h1
            rw [e1] at HN
            simp only [Bool.false_or, Bool.false_and] at HN
            go_wp2_with fail
            go_quiet (fail)
            go_wp2_with fail
            exact ⟨⟨k + 1, by omega, by go_num, by rw [HN.out], g5.drewN _, below_drewN bw5 _⟩, by simp [intOf]; omega⟩
        · simp only [Bool.true_or] at HN
          go_wp2_with fail
          go_quiet (fail)
          go_wp2_with fail
          exact ⟨⟨k + 1, by omega, by go_num, by rw [HN.out], g5.drewN _, below_drewN bw5 _⟩, by simp [intOf]; omega⟩
      · obtain rfl : k = p.length := by omega
        rw [HFa.out]
        go_wp2_with fail
        refine (HA.out _).mono ?_
        rintro e w9 ⟨rfl, b9⟩
        go_wp2_with fail
        go_ret
        exact ⟨rfl, below_step bw5 b9⟩

set_option maxHeartbeats 1000000 in
set_option maxRecDepth 100000 in
theorem pleast_any (A : Option Addr) (m c : Nat) (p : List Stp) (s : Spn) (t : Int) (W : World) (h : ArgS W A m c p) :
    Calls Try.prog 7 #[.slice A m c, .agg #[.int .i64 s.a, .int .i64 s.b, .int .i64 s.n], .int .i64 t] W fun e w' => e = .returned (.bool true) ∧ Below W.heap.size W w' := by
  have hl := h.st.len
  subst hl
  by_cases hall : p.length ≤ 200 ∧ chkB p = true ∧ 0 ≤ s.a ∧ s.a ≤ 1000000 ∧ s.a < s.b
  · obtain ⟨h1, h2, h3, h4, h5⟩ := hall
    exact pleast_main A c p s t W h h1 h2 h3 h4 h5
  · have HA : Hid (∀ w, Calls Try.prog 13 #[] w fun e w' => e = .returned (.bool true) ∧ Below w.heap.size w w') := awake_any
    obtain ⟨V, hV⟩ : ∃ V, V = W.alloc (.cells #[.int .i64 s.a, .int .i64 s.b, .int .i64 s.n] 34) := ⟨_, rfl⟩
    have bV : Below W.heap.size W V := by rw [hV]; exact (Below.refl _ _).alloc (Nat.le_refl _) _
    have k1 : Blk V W.heap.size 34 #[.int .i64 s.a, .int .i64 s.b, .int .i64 s.n] := by rw [hV]; exact Blk.new _ _ _
    have HV := Lib.hid hV
    have HW := Lib.hid h
    clear h hV
    by_cases hf : p.length ≤ 200
    · have HF := Lib.hid (few_is true A p.length c V (by simp; omega))
      cases hc : chkB p
      · have HCk := Lib.hid (chkE_no hc)
        clear hc hall
        go_enter Try.func7, Try.ntmps7
        go_wp2_with fail
        rw [← HV.out]
        refine HF.out.mono ?_
        rintro e w1 ⟨rfl, rfl⟩
        go_wp2_with fail
        refine (check_is 100 A _ c p V (HW.out.st.below bV) HW.out.max HCk.out).mono ?_
        rintro e w1 ⟨rfl, b1⟩
        go_wp2_with fail
        refine (HA.out _).mono ?_
        rintro e w9 ⟨rfl, b9⟩
        go_wp2_with fail
        go_ret
        exact ⟨rfl, below_step (below_step bV b1) b9⟩
      · have hcase : s.a < 0 ∨ (0 ≤ s.a ∧ 1000000 < s.a) ∨ (0 ≤ s.a ∧ s.a ≤ 1000000 ∧ s.b ≤ s.a) := by
          by_cases q1 : 0 ≤ s.a
          · by_cases q2 : s.a ≤ 1000000
            · by_cases q3 : s.a < s.b
              · exact absurd ⟨hf, hc, q1, q2, q3⟩ hall
              · exact .inr (.inr ⟨q1, q2, by omega⟩)
            · exact .inr (.inl ⟨q1, by omega⟩)
          · exact .inl (by omega)
        have HCk := Lib.hid (chkE_yes hc)
        clear hc hall
        rcases hcase with q1 | ⟨q1, q2⟩ | ⟨q1, q2, q3⟩
        all_goals
          go_enter Try.func7, Try.ntmps7
          go_wp2_with fail
          rw [← HV.out]
          refine HF.out.mono ?_
          rintro e w1 ⟨rfl, rfl⟩
          go_wp2_with fail
          refine (check_is 0 A _ c p V (HW.out.st.below bV) HW.out.max HCk.out).mono ?_
          rintro e w1 ⟨rfl, b1⟩
          have g1 := k1.below b1 k1.lt
          obtain ⟨x0, x1, x2⟩ := blk3 g1
          go_wp2_with fail
          refine (HA.out _).mono ?_
          rintro e w9 ⟨rfl, b9⟩
          go_wp2_with fail
          go_ret
          exact ⟨rfl, below_step (below_step bV b1) b9⟩
    · have HF := Lib.hid (few_is false A p.length c V (by simp; omega))
      clear hall
      go_enter Try.func7, Try.ntmps7
      go_wp2_with fail
      rw [← HV.out]
      refine HF.out.mono ?_
      rintro e w1 ⟨rfl, rfl⟩
      go_wp2_with fail
      refine (HA.out _).mono ?_
      rintro e w9 ⟨rfl, b9⟩
      go_wp2_with fail
      go_ret
      exact ⟨rfl, below_step bV b9⟩
end Go.Proofs.Ytmjjbodglbdadaa.ProfW
