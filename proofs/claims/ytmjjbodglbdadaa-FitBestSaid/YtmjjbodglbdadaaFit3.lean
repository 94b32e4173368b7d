/-
  Contracts: fit.Earliest at any arguments; musterref11: Fits, Earliest, Take.
-/
import Derived.Test.YtmjjbodglbdadaaFit2
namespace Go.Proofs.Ytmjjbodglbdadaa.ProfW
open Go.RowKit Mem Prof
set_option linter.unusedVariables false

set_option maxHeartbeats 2000000 in
set_option maxRecDepth 1000000 in
theorem earl_any (A : Option Addr) (n c : Nat) (p : List Stp) (f0 long nodes : Int) (w : World) (h : Steps w A n p) (hn : n ≤ maxLen) :
    Calls Try.prog 27 #[.slice A n c, .int .i64 f0, .int .i64 long, .int .i64 nodes] w (EarlPost (earl p f0 long nodes) w) := by
  have hl := h.len
  subst hl
  have HCk := Lib.hid (check_any A p.length c p w h hn)
  cases hck : chkB p
  · rw [chkE_no hck] at HCk
    have HE := Lib.hid (earl_no (f0 := f0) (long := long) (nodes := nodes) (.inl hck))
    clear hck h
    go_enter Try.func27, Try.ntmps27
    go_wp2_with fail
    go_step3
    go_wp2_with fail
    refine HCk.out.mono ?_
    rintro e w1 ⟨rfl, b1⟩
    go_wp2_with fail
    rw [Exit.noGoto_ret]
    go_ret2
    rw [HE.out]
    exact ⟨rfl, b1⟩
  · have HAs := asks_any long nodes
    cases hak : askB long nodes
    · rw [chkE_yes hck] at HCk
      rw [hak] at HAs
      have HA2 := Lib.hid HAs
      have HE := Lib.hid (earl_no (p := p) (f0 := f0) (.inr hak))
      clear hck h hak HAs
      go_enter Try.func27, Try.ntmps27
      go_wp2_with fail
      go_step3
      go_wp2_with fail
      refine HCk.out.mono ?_
      rintro e w1 ⟨rfl, b1⟩
      go_wp2_with fail
      refine (HA2.out _).mono ?_
      rintro e w2 ⟨rfl, rfl⟩
      go_wp2_with fail
      rw [Exit.noGoto_ret]
      go_ret2
      rw [HE.out]
      exact ⟨rfl, b1⟩
    · exact earl_main A c p f0 long nodes w h hck hak

theorem fits_cases {p : List Stp} {t long nodes : Int} : (chkB p = false) ∨ (chkB p = true ∧ (nodes < 1 ∨ (1 ≤ nodes ∧ 1000000 < nodes) ∨ (1 ≤ nodes ∧ nodes ≤ 1000000 ∧ long < 1) ∨ (1 ≤ nodes ∧ nodes ≤ 1000000 ∧ 1 ≤ long ∧ 1000000 < long) ∨
    (1 ≤ nodes ∧ nodes ≤ 1000000 ∧ 1 ≤ long ∧ long ≤ 1000000 ∧ t < 0) ∨ (1 ≤ nodes ∧ nodes ≤ 1000000 ∧ 1 ≤ long ∧ long ≤ 1000000 ∧ 0 ≤ t ∧ 1000000 - long < t) ∨ (1 ≤ nodes ∧ nodes ≤ 1000000 ∧ 1 ≤ long ∧ long ≤ 1000000 ∧ 0 ≤ t ∧ t ≤ 1000000 - long))) := by
  cases chkB p
  · exact .inl rfl
  · exact .inr ⟨rfl, by omega⟩
theorem fits_off {p : List Stp} {t long nodes : Int} (h : ¬ (1 ≤ nodes ∧ nodes ≤ 1000000 ∧ 1 ≤ long ∧ long ≤ 1000000 ∧ 0 ≤ t ∧ t ≤ 1000000 - long)) : fitsT p t long nodes = false := by
  cases hb : fitsT p t long nodes
  · rfl
  · simp only [fitsT, askB, atB, Bool.and_eq_true, decide_eq_true_eq] at hb
    omega
set_option maxHeartbeats 2000000 in
theorem rfits_any (A : Option Addr) (n c : Nat) (p : List Stp) (t long nodes : Int) (w : World) (h : Steps w A n p) (hn : n ≤ maxLen) :
    Calls Try.prog 32 #[.slice A n c, .int .i64 t, .int .i64 long, .int .i64 nodes] w (Drew (.bool (fitsT p t long nodes)) w) := by
  have HCk := Lib.hid (rcheck_any A n c p w h hn)
  rcases fits_cases (p := p) (t := t) (long := long) (nodes := nodes) with hc | ⟨hc, hcs⟩
  · rw [chkE_no hc] at HCk
    have HR : Hid (fitsT p t long nodes = false) := by show _ = _; simp [fitsT, hc]
    clear hc h
    go_enter Try.func32, Try.ntmps32
    go_wp2_with fail
    refine HCk.out.mono ?_
    rintro e w1 ⟨rfl, d1, rfl⟩
    go_wp2_with fail
    go_ret
    exact ⟨ret_bool HR.out.symm, d1, rfl⟩
  · rw [chkE_yes hc] at HCk
    rcases hcs with q1 | ⟨q1, q2⟩ | ⟨q1, q2, q3⟩ | ⟨q1, q2, q3, q4⟩ | ⟨q1, q2, q3, q4, q5⟩ | ⟨q1, q2, q3, q4, q5, q6⟩ | ⟨q1, q2, q3, q4, q5, q6⟩
    case inr.inr.inr.inr.inr.inr =>
      obtain ⟨L, hL⟩ : ∃ L, L = least p t (t + long) := ⟨_, rfl⟩
      have HR : Hid (fitsT p t long nodes = decide (nodes ≤ L)) := by
        show _ = _
        have e1 : askB long nodes = true := ask_iff.2 ⟨q1, q2, q3, q4⟩
        have e2 : atB t long = true := at_iff.2 ⟨q5, q6⟩
        simp only [fitsT, hc, e1, e2, Bool.true_and, hL]
      have HLs : Hid (leastT p t (t + long) = L) := by show _ = _; rw [hL, leastT, if_pos ⟨hc, by simp [tickB]; omega, by omega⟩]
      have HH := Lib.hid h
      clear hc h hL
      go_enter Try.func32, Try.ntmps32
      go_wp2_with fail
      refine HCk.out.mono ?_
      rintro e w1 ⟨rfl, d1, rfl⟩
      go_wp2_with fail
      refine (rleast_any A n c p t (t + long) _ (HH.out.below (below_drewN (Below.refl _ _) d1)) hn).mono ?_
      rw [HLs.out]
      rintro e w2 ⟨rfl, d2, rfl⟩
      go_wp2_with fail
      go_ret
      exact ⟨ret_bool (by rw [HR.out]), _, rfl⟩
    all_goals
      have HR : Hid (fitsT p t long nodes = false) := fits_off (by omega)
      clear hc h
      go_enter Try.func32, Try.ntmps32
      go_wp2_with fail
      refine HCk.out.mono ?_
      rintro e w1 ⟨rfl, d1, rfl⟩
      go_wp2_with fail
      go_ret
      exact ⟨ret_bool HR.out.symm, d1, rfl⟩

theorem rfits_is (r : Bool) (A : Option Addr) (n c : Nat) (p : List Stp) (t long nodes : Int) (w : World) (h : Steps w A n p) (hn : n ≤ maxLen) (hr : fitsT p t long nodes = r) :
    Calls Try.prog 32 #[.slice A n c, .int .i64 t, .int .i64 long, .int .i64 nodes] w (Drew (.bool r) w) := by rw [← hr]; exact rfits_any A n c p t long nodes w h hn
def seekB (p : List Stp) (f long nodes : Int) (s : Stp) : Bool := decide (f < s.1) && fitsT p s.1 long nodes
theorem earl_eq (p : List Stp) (f0 long nodes : Int) : earl p f0 long nodes = if fitsT p (max f0 0) long nodes = true then some (max f0 0) else (p.find? (seekB p (max f0 0) long nodes)).map (·.1) := rfl
theorem find_none_take {p : List Stp} {q : Stp → Bool} {k : Nat} {s : Stp} (h : ∀ x ∈ p.take k, q x = false) (hs : p[k]? = some s) (hq : q s = true) : p.find? q = some s := by
  have hk := (List.getElem?_eq_some_iff.1 hs).1
  have e : p = p.take k ++ s :: p.drop (k + 1) := by
    obtain ⟨_, rfl⟩ := List.getElem?_eq_some_iff.1 hs
    rw [← List.drop_eq_getElem_cons hk, List.take_append_drop]
  rw [e, List.find?_append, List.find?_eq_none.2 (fun x hx => by simp [h x hx]), Option.none_or, List.find?_cons_of_pos hq]
set_option maxHeartbeats 2000000 in
set_option maxRecDepth 100000 in
theorem rearl_neg (A : Option Addr) (c : Nat) (p : List Stp) (f0 long nodes : Int) (w : World) (h : Steps w A p.length p) (hn : p.length ≤ maxLen) (q1 : f0 < 0) :
    Calls Try.prog 28 #[.slice A p.length c, .int .i64 f0, .int .i64 long, .int .i64 nodes] w (EarlPost (earl p f0 long nodes) w) := by
  have HH := Lib.hid h
  clear h
  have hn2 := hn
  unfold maxLen at hn2
  have HE := Lib.hid (earl_eq p f0 long nodes)
  rw [show max f0 0 = 0 by omega] at HE
  cases b1 : fitsT p 0 long nodes
  · rw [b1, if_neg (by simp)] at HE
    have HB1 := Lib.hid b1
    clear b1
    go_enter Try.func28, Try.ntmps28
    go_wp2_with fail
    refine (rfits_is false A p.length c p 0 long nodes w HH.out hn HB1.out).mono ?_
    rintro e w1 ⟨rfl, d1, rfl⟩
    go_wp2_with fail
    go_loopw [10] (fun x wr => ∃ k d : Nat, k ≤ p.length ∧ x = .int .i64 k ∧ (∀ y ∈ p.take k, seekB p 0 long nodes y = false) ∧ wr = w.drewN d) (fun x _ => p.length - (intOf x).toNat)
    case atStart => exact ⟨0, d1, by omega, rfl, by simp, rfl⟩
    case round =>
      obtain ⟨k, d, hk, rfl, hall, rfl⟩ := hrel
      have HAll := Lib.hid hall
      clear hall
      by_cases hlt : k < p.length
      · obtain ⟨ab, off, s, rfl, hbl, hs, c0, c1⟩ := Lst.two HH.out hlt
        have HS := Lib.hid hs
        clear hs
        by_cases hfs : 0 < s.1
        · cases b2 : fitsT p s.1 long nodes
          · have HB2 := Lib.hid b2
            have HN : Hid (∀ y ∈ p.take (k + 1), seekB p 0 long nodes y = false) := take_all HAll.out HS.out (by simp [seekB, b2])
            clear b2
            go_wp2_with fail
            refine (rfits_is false _ p.length c p s.1 long nodes _ (HH.out.below (below_drewN (Below.refl _ _) d)) hn HB2.out).mono ?_
            rintro e w2 ⟨rfl, d2, rfl⟩
            go_wp2_with fail
            exact ⟨⟨k + 1, _, by omega, by go_num, HN.out, rfl⟩, by simp [intOf]; omega⟩
          · have HB2 := Lib.hid b2
            have HF := Lib.hid (find_none_take HAll.out HS.out (show seekB p 0 long nodes s = true by simp [seekB, b2, hfs]))
            rw [HF.out] at HE
            clear b2
            go_wp2_with fail
            refine (rfits_is true _ p.length c p s.1 long nodes _ (HH.out.below (below_drewN (Below.refl _ _) d)) hn HB2.out).mono ?_
            rintro e w2 ⟨rfl, d2, rfl⟩
            go_wp2_with fail
            go_ret2
            rw [HE.out]
            exact ⟨rfl, below_drewN (Below.refl _ _) _⟩
        · have HN : Hid (∀ y ∈ p.take (k + 1), seekB p 0 long nodes y = false) := take_all HAll.out HS.out (by simp [seekB, hfs])
          go_wp2_with fail
          exact ⟨⟨k + 1, d, by omega, by go_num, HN.out, rfl⟩, by simp [intOf]; omega⟩
      · have HF : Hid (p.find? (seekB p 0 long nodes) = none) := by
          show _ = _
          rw [List.find?_eq_none]
          intro y hy
          have := HAll.out y (by rw [List.take_of_length_le (by omega)]; exact hy)
          simp [this]
        rw [HF.out] at HE
        go_wp2_with fail
        go_ret2
        rw [HE.out]
        exact ⟨rfl, below_drewN (Below.refl _ _) _⟩
  · rw [b1, if_pos rfl] at HE
    have HB1 := Lib.hid b1
    clear b1
    go_enter Try.func28, Try.ntmps28
    go_wp2_with fail
    refine (rfits_is true A p.length c p 0 long nodes w HH.out hn HB1.out).mono ?_
    rintro e w1 ⟨rfl, d1, rfl⟩
    go_wp2_with fail
    go_ret2
    rw [HE.out]
    exact ⟨rfl, below_drewN (Below.refl _ _) d1⟩
set_option maxHeartbeats 2000000 in
set_option maxRecDepth 100000 in
theorem rearl_pos (A : Option Addr) (c : Nat) (p : List Stp) (f0 long nodes : Int) (w : World) (h : Steps w A p.length p) (hn : p.length ≤ maxLen) (q1 : 0 ≤ f0) :
    Calls Try.prog 28 #[.slice A p.length c, .int .i64 f0, .int .i64 long, .int .i64 nodes] w (EarlPost (earl p f0 long nodes) w) := by
  have HH := Lib.hid h
  clear h
  have hn2 := hn
  unfold maxLen at hn2
  have HE := Lib.hid (earl_eq p f0 long nodes)
  rw [show max f0 0 = f0 by omega] at HE
  cases b1 : fitsT p f0 long nodes
  · rw [b1, if_neg (by simp)] at HE
    have HB1 := Lib.hid b1
    clear b1
    go_enter Try.func28, Try.ntmps28
    go_wp2_with fail
    refine (rfits_is false A p.length c p f0 long nodes w HH.out hn HB1.out).mono ?_
    rintro e w1 ⟨rfl, d1, rfl⟩
    go_wp2_with fail
    go_loopw [10] (fun x wr => ∃ k d : Nat, k ≤ p.length ∧ x = .int .i64 k ∧ (∀ y ∈ p.take k, seekB p f0 long nodes y = false) ∧ wr = w.drewN d) (fun x _ => p.length - (intOf x).toNat)
    case atStart => exact ⟨0, d1, by omega, rfl, by simp, rfl⟩
    case round =>
      obtain ⟨k, d, hk, rfl, hall, rfl⟩ := hrel
      have HAll := Lib.hid hall
      clear hall
      by_cases hlt : k < p.length
      · obtain ⟨ab, off, s, rfl, hbl, hs, c0, c1⟩ := Lst.two HH.out hlt
        have HS := Lib.hid hs
        clear hs
        by_cases hfs : f0 < s.1
        · cases b2 : fitsT p s.1 long nodes
          · have HB2 := Lib.hid b2
            have HN : Hid (∀ y ∈ p.take (k + 1), seekB p f0 long nodes y = false) := take_all HAll.out HS.out (by simp [seekB, b2])
            clear b2
            go_wp2_with fail
            refine (rfits_is false _ p.length c p s.1 long nodes _ (HH.out.below (below_drewN (Below.refl _ _) d)) hn HB2.out).mono ?_
            rintro e w2 ⟨rfl, d2, rfl⟩
            go_wp2_with fail
            exact ⟨⟨k + 1, _, by omega, by go_num, HN.out, rfl⟩, by simp [intOf]; omega⟩
          · have HB2 := Lib.hid b2
            have HF := Lib.hid (find_none_take HAll.out HS.out (show seekB p f0 long nodes s = true by simp [seekB, b2, hfs]))
            rw [HF.out] at HE
            clear b2
            go_wp2_with fail
            refine (rfits_is true _ p.length c p s.1 long nodes _ (HH.out.below (below_drewN (Below.refl _ _) d)) hn HB2.out).mono ?_
            rintro e w2 ⟨rfl, d2, rfl⟩
            go_wp2_with fail
            go_ret2
            rw [HE.out]
            exact ⟨rfl, below_drewN (Below.refl _ _) _⟩
        · have HN : Hid (∀ y ∈ p.take (k + 1), seekB p f0 long nodes y = false) := take_all HAll.out HS.out (by simp [seekB, hfs])
          go_wp2_with fail
          exact ⟨⟨k + 1, d, by omega, by go_num, HN.out, rfl⟩, by simp [intOf]; omega⟩
      · have HF : Hid (p.find? (seekB p f0 long nodes) = none) := by
          show _ = _
          rw [List.find?_eq_none]
          intro y hy
          have := HAll.out y (by rw [List.take_of_length_le (by omega)]; exact hy)
          simp [this]
        rw [HF.out] at HE
        go_wp2_with fail
        go_ret2
        rw [HE.out]
        exact ⟨rfl, below_drewN (Below.refl _ _) _⟩
  · rw [b1, if_pos rfl] at HE
    have HB1 := Lib.hid b1
    clear b1
    go_enter Try.func28, Try.ntmps28
    go_wp2_with fail
    refine (rfits_is true A p.length c p f0 long nodes w HH.out hn HB1.out).mono ?_
    rintro e w1 ⟨rfl, d1, rfl⟩
    go_wp2_with fail
    go_ret2
    rw [HE.out]
    exact ⟨rfl, below_drewN (Below.refl _ _) d1⟩
theorem rearl_any (A : Option Addr) (n c : Nat) (p : List Stp) (f0 long nodes : Int) (w : World) (h : Steps w A n p) (hn : n ≤ maxLen) :
    Calls Try.prog 28 #[.slice A n c, .int .i64 f0, .int .i64 long, .int .i64 nodes] w (EarlPost (earl p f0 long nodes) w) := by
  have hl := h.len
  subst hl
  by_cases q : f0 < 0
  · exact rearl_neg A c p f0 long nodes w h hn q
  · exact rearl_pos A c p f0 long nodes w h hn (by omega)
set_option maxHeartbeats 1000000 in
theorem rtake_any (A : Option Addr) (n c : Nat) (p : List Stp) (t long nodes : Int) (w : World) (h : Steps w A n p) (hn : n ≤ maxLen) :
    Calls Try.prog 30 #[.slice A n c, .int .i64 t, .int .i64 long, .int .i64 nodes] w (AddPost (takeT p t long nodes) w) := by
  have HF := Lib.hid (rfits_any A n c p t long nodes w h hn)
  cases hf : fitsT p t long nodes
  · rw [hf] at HF
    have HR : Hid (takeT p t long nodes = ([], 130)) := by show _ = _; simp [takeT, hf]
    clear hf h
    go_enter Try.func30, Try.ntmps30
    go_wp2_with fail
    refine HF.out.mono ?_
    rintro e w1 ⟨rfl, d1, rfl⟩
    go_wp2_with fail
    go_ret2
    rw [HR.out]
    exact ⟨none, 0, rfl, SOwn.nil _ _ _ _, below_drewN (Below.refl _ _) d1⟩
  · rw [hf] at HF
    obtain ⟨hck, hak⟩ := fits_ask hf
    obtain ⟨q1, q2, q3, q4⟩ := ask_iff.1 hak
    obtain ⟨k1, k2, _⟩ := (fits_iff hck hak).1 hf
    obtain ⟨r, hr⟩ : ∃ r, r = add p t (t + long) (-nodes) := ⟨_, rfl⟩
    have HR1 := Lib.hid hr
    have HR : Hid (takeT p t long nodes = r) := by show _ = _; rw [hr]; simp [takeT, hf]
    have HH := Lib.hid h
    clear hf h hck hak hr
    go_enter Try.func30, Try.ntmps30
    go_wp2_with fail
    refine HF.out.mono ?_
    rintro e w1 ⟨rfl, d1, rfl⟩
    go_wp2_with fail
    refine (radd_any A n c p t (t + long) (-nodes) _ (HH.out.below (below_drewN (Below.refl _ _) d1)) hn).mono ?_
    rw [← HR1.out]
    rintro e w2 ⟨A2, c2, rfl, ho2, b2⟩
    go_wp2_with fail
    go_ret2
    rw [HR.out]
    exact ⟨A2, c2, rfl, ho2, below_step (below_drewN (Below.refl _ _) d1) b2⟩
end Go.Proofs.Ytmjjbodglbdadaa.ProfW
