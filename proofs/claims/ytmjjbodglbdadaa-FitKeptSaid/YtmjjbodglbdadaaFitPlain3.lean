/-
  The earliest room, plainly, part 3: what FitKept says.
-/
import Derived.Test.YtmjjbodglbdadaaFitPlain2
import Derived.Test.YtmjjbodglbdadaaFit
namespace Go.Proofs.Ytmjjbodglbdadaa.Prof
set_option linter.unusedVariables false

theorem least_more {p q : List Stp} (hp : Up p) (hq : Up q) {a l d : Int} (h0 : 0 ≤ a) (hl : 1 ≤ l) (h : ∀ t, a ≤ t → t < a + l → now q t = now p t + d) : least q a (a + l) = least p a (a + l) + d := by
  have h1 : least q a (a + l) - d ≤ least p a (a + l) := (least_ge hp h0 hl).2 fun t g1 g2 => by
    have := (least_ge hq h0 hl (nodes := least q a (a + l))).1 (Int.le_refl _) t g1 g2
    have := h t g1 g2
    omega
  have h2 : least p a (a + l) + d ≤ least q a (a + l) := (least_ge hq h0 hl).2 fun t g1 g2 => by
    have := (least_ge hp h0 hl (nodes := least p a (a + l))).1 (Int.le_refl _) t g1 g2
    have := h t g1 g2
    omega
  omega
theorem leastT_le {p : List Stp} {a b : Int} (hc : chkB p = true) (h0 : 0 ≤ a) (h1 : a ≤ 1000000) (hab : a < b) : -1000000 ≤ least p a b ∧ least p a b ≤ 1000000 := by
  have hC := chk_of hc
  have e : ∀ t, 0 ≤ t → -1000000 ≤ now p t ∧ now p t ≤ 1000000 := fun t ht => by
    obtain ⟨s, hs, _, e, _⟩ := hC.nf.up.now_spec t ht
    rw [e]
    exact ⟨hC.lo s hs, hC.hi s hs⟩
  rcases least_mem hC.nf.up a b with h | ⟨s, hs, g1, g2, g3⟩
  · rw [h]; exact e a h0
  · rw [← g3]; exact e s.1 (by omega)
/-- behind a taking -/
theorem take_kept {p : List Stp} {a l n : Int} (h : fitsT p a l n = true) : ProfW.takeT p a l n = ([], 3) ∨ ∃ q, ProfW.takeT p a l n = (q, 0) ∧ leastT p a (a + l) = least p a (a + l) ∧ leastT q a (a + l) = least p a (a + l) - n ∧ 0 ≤ least p a (a + l) - n ∧ least p a (a + l) ≤ 1000000 := by
  obtain ⟨hc, ha⟩ := fits_ask h
  obtain ⟨q1, q2, q3, q4⟩ := ask_iff.1 ha
  obtain ⟨g0, g1, g2⟩ := (fits_iff hc ha).1 h
  have hA : Args a (a + l) (-n) := ⟨g0, by unfold End; omega, by omega, by omega, by omega⟩
  have hC := chk_of hc
  have e : ProfW.takeT p a l n = add p a (a + l) (-n) := by simp [ProfW.takeT, h]
  rw [e, add_of hC hA]
  have hle := leastT_le hc g0 (by omega) (show a < a + l by omega)
  have hge := (least_ge hC.nf.up g0 q3).2 g2
  by_cases hb : chkB (out p a (a + l) (-n)) = false
  · rw [if_pos hb]; exact .inl rfl
  · rw [if_neg hb]
    have hb' : chkB (out p a (a + l) (-n)) = true := by simpa using hb
    refine .inr ⟨_, rfl, ?_, ?_, by omega, hle.2⟩
    · rw [leastT, if_pos ⟨hc, by simp [tickB]; omega, by omega⟩]
    · rw [leastT, if_pos ⟨hb', by simp [tickB]; omega, by omega⟩]
      have hn := (out_now hC (n := -n) hA.a0 hA.a1 hA.ab).2.1
      rw [least_more hC.nf.up (chk_of hb').nf.up g0 q3 (d := -n) (fun t k1 k2 => by
        rw [hn t (by omega) (by unfold End; omega)]
        unfold val
        rw [if_pos ⟨k1, k2⟩])]
      omega
/-- nodes are given back -/
theorem more_kept {p : List Stp} {a l n x y m : Int} (h : fitsT p a l n = true) (hm : 0 ≤ m) (he : (add p x y m).2 = 0) : fitsT (add p x y m).1 a l n = true := by
  obtain ⟨hc, ha⟩ := fits_ask h
  obtain ⟨q1, q2, q3, q4⟩ := ask_iff.1 ha
  obtain ⟨g0, g1, g2⟩ := (fits_iff hc ha).1 h
  obtain ⟨hp, hA, hq, e⟩ := add_ok he
  rw [e]
  refine (fits_iff (of_chk hq) ha).2 ⟨g0, g1, fun t k1 k2 => ?_⟩
  have hn := (out_now hp (n := m) hA.a0 hA.a1 hA.ab).2.1 t (by omega) (by unfold End; omega)
  rw [hn]
  unfold val
  have := g2 t k1 k2
  split <;> omega
end Go.Proofs.Ytmjjbodglbdadaa.Prof
