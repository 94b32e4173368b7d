/-
  Contracts of muster/fit: within, asks, Fits, Take; of musterref11: Fits, Take.
-/
import Derived.Test.YtmjjbodglbdadaaProfRef4
import Derived.Test.YtmjjbodglbdadaaFitPlain
import Derived.Test.YtmjjbodglbdadaaProf6
namespace Go.Proofs.Ytmjjbodglbdadaa.ProfW
open Go.RowKit Mem Prof
set_option linter.unusedVariables false

def wthB (n a b : Int) : Bool := decide (a ≤ n) && decide (n ≤ b)
theorem within_any (n a b : Int) (w : World) : Calls Try.prog 44 #[.int .i64 n, .int .i64 a, .int .i64 b] w fun e w' => e = .returned (.bool (wthB n a b)) ∧ w = w' := by
  by_cases h1 : a ≤ n
  · go_enter Try.func44, Try.ntmps44
    go_wp2_with fail
    go_ret
    exact ⟨ret_bool (by simp [wthB, h1]), rfl⟩
  · have h2 : decide (a ≤ n) = false := by simpa using h1
    have h3 : n < a := by omega
    have HR : Hid (wthB n a b = false) := by show _ = _; simp [wthB, h2]
    go_enter Try.func44, Try.ntmps44
    go_wp2_with fail
    go_ret
    exact ⟨ret_bool HR.out.symm, rfl⟩
theorem asks_any (long nodes : Int) (w : World) : Calls Try.prog 43 #[.int .i64 long, .int .i64 nodes] w fun e w' => e = .returned (.bool (askB long nodes)) ∧ w = w' := by
  have H1 := within_any nodes 1 1000000
  have H2 := Lib.hid (within_any long 1 1000000)
  have HE : Hid (askB long nodes = (wthB nodes 1 1000000 && wthB long 1 1000000)) := by show _ = _; simp [askB, wthB, Bool.and_assoc]
  cases hq : wthB nodes 1 1000000
  · rw [hq] at H1 HE
    have H1' := Lib.hid H1
    clear H1 hq
    go_enter Try.func43, Try.ntmps43
    go_wp2_with fail
    refine (H1'.out _).mono ?_
    rintro e w1 ⟨rfl, rfl⟩
    go_wp2_with fail
    go_ret
    exact ⟨ret_bool (by rw [HE.out]; rfl), rfl⟩
  · rw [hq] at H1 HE
    have H1' := Lib.hid H1
    clear H1 hq
    go_enter Try.func43, Try.ntmps43
    go_wp2_with fail
    refine (H1'.out _).mono ?_
    rintro e w1 ⟨rfl, rfl⟩
    go_wp2_with fail
    refine (H2.out _).mono ?_
    rintro e w1 ⟨rfl, rfl⟩
    go_wp2_with fail
    go_ret
    exact ⟨ret_bool (by rw [HE.out]; rfl), rfl⟩
set_option maxHeartbeats 1000000 in
theorem fits_p_any (A : Option Addr) (n c : Nat) (p : List Stp) (t long nodes : Int) (w : World) (h : Steps w A n p) (hn : n ≤ maxLen) :
    Calls Try.prog 31 #[.slice A n c, .int .i64 t, .int .i64 long, .int .i64 nodes] w (Ret (.bool (fitsT p t long nodes)) w) := by
  have HCk := Lib.hid (check_any A n c p w h hn)
  have HAs := asks_any long nodes
  have HH := Lib.hid h
  cases hc : chkB p
  · rw [chkE_no hc] at HCk
    have HR : Hid (fitsT p t long nodes = false) := by show _ = _; simp [fitsT, hc]
    clear hc h HAs
    go_enter Try.func31, Try.ntmps31
    go_wp2_with fail
    refine HCk.out.mono ?_
    rintro e w1 ⟨rfl, b1⟩
    go_wp2_with fail
    go_ret
    exact ⟨ret_bool HR.out.symm, b1⟩
  · rw [chkE_yes hc] at HCk
    cases ha : askB long nodes
    · rw [ha] at HAs
      have HR : Hid (fitsT p t long nodes = false) := by show _ = _; simp [fitsT, ha]
      have HA2 := Lib.hid HAs
      clear hc h HAs ha
      go_enter Try.func31, Try.ntmps31
      go_wp2_with fail
      refine HCk.out.mono ?_
      rintro e w1 ⟨rfl, b1⟩
      go_wp2_with fail
      refine (HA2.out _).mono ?_
      rintro e w2 ⟨rfl, rfl⟩
      go_wp2_with fail
      go_ret
      exact ⟨ret_bool HR.out.symm, b1⟩
    · rw [ha] at HAs
      have HA2 := Lib.hid HAs
      obtain ⟨q1, q2, q3, q4⟩ := ask_iff.1 ha
      have HWi := within_any t 0 (1000000 - long)
      have hwa : wthB t 0 (1000000 - long) = atB t long := rfl
      rw [hwa] at HWi
      cases hat : atB t long
      · rw [hat] at HWi
        have HW2 := Lib.hid HWi
        have HR : Hid (fitsT p t long nodes = false) := by show _ = _; simp [fitsT, hat]
        clear hc h HAs ha HWi hat hwa
        go_enter Try.func31, Try.ntmps31
        go_wp2_with fail
        refine HCk.out.mono ?_
        rintro e w1 ⟨rfl, b1⟩
        go_wp2_with fail
        refine (HA2.out _).mono ?_
        rintro e w2 ⟨rfl, rfl⟩
        go_wp2_with fail
        refine (HW2.out _).mono ?_
        rintro e w2 ⟨rfl, rfl⟩
        go_wp2_with fail
        go_ret
        exact ⟨ret_bool HR.out.symm, b1⟩
      · rw [hat] at HWi
        have HW2 := Lib.hid HWi
        obtain ⟨k1, k2⟩ := at_iff.1 hat
        obtain ⟨L, hL⟩ : ∃ L, L = least p t (t + long) := ⟨_, rfl⟩
        have HR : Hid (fitsT p t long nodes = decide (nodes ≤ L)) := by show _ = _; simp only [fitsT, hc, ha, hat, Bool.true_and, hL]
        have HLs : Hid (leastT p t (t + long) = L) := by show _ = _; rw [hL, leastT, if_pos ⟨hc, by simp [tickB]; omega, by omega⟩]
        clear hc h HAs ha HWi hat hwa hL
        go_enter Try.func31, Try.ntmps31
        go_wp2_with fail
        refine HCk.out.mono ?_
        rintro e w1 ⟨rfl, b1⟩
        go_wp2_with fail
        refine (HA2.out _).mono ?_
        rintro e w2 ⟨rfl, rfl⟩
        go_wp2_with fail
        refine (HW2.out _).mono ?_
        rintro e w2 ⟨rfl, rfl⟩
        go_wp2_with fail
        refine (least_is L A n c p t (t + long) w1 (HH.out.below b1) hn HLs.out).mono ?_
        rintro e w3 ⟨rfl, b3⟩
        go_wp2_with fail
        go_ret
        exact ⟨ret_bool (by rw [HR.out]), below_step b1 b3⟩
/-- what Take returns -/
def takeT (p : List Stp) (t long nodes : Int) : List Stp × Int := if fitsT p t long nodes = true then add p t (t + long) (-nodes) else ([], 130)
set_option maxHeartbeats 1000000 in
theorem take_any (A : Option Addr) (n c : Nat) (p : List Stp) (t long nodes : Int) (w : World) (h : Steps w A n p) (hn : n ≤ maxLen) (hc : n ≤ c) (hA : A = none → c = 0) :
    Calls Try.prog 29 #[.slice A n c, .int .i64 t, .int .i64 long, .int .i64 nodes] w (AddPost (takeT p t long nodes) w) := by
  have HF := Lib.hid (fits_p_any A n c p t long nodes w h hn)
  cases hf : fitsT p t long nodes
  · rw [hf] at HF
    have HR : Hid (takeT p t long nodes = ([], 130)) := by show _ = _; simp [takeT, hf]
    clear hf h hA
    go_enter Try.func29, Try.ntmps29
    go_wp2_with fail
    refine HF.out.mono ?_
    rintro e w1 ⟨rfl, b1⟩
    go_wp2_with fail
    go_ret2
    rw [HR.out]
    exact ⟨none, 0, rfl, SOwn.nil _ _ _ _, b1⟩
  · rw [hf] at HF
    obtain ⟨hck, hak⟩ := fits_ask hf
    obtain ⟨q1, q2, q3, q4⟩ := ask_iff.1 hak
    obtain ⟨k1, k2, _⟩ := (fits_iff hck hak).1 hf
    obtain ⟨r, hr⟩ : ∃ r, r = add p t (t + long) (-nodes) := ⟨_, rfl⟩
    have HR1 := Lib.hid hr
    have HR : Hid (takeT p t long nodes = r) := by show _ = _; rw [hr]; simp [takeT, hf]
    have HH := Lib.hid h
    have HA := Lib.hid hA
    clear hf h hck hak hr hA
    go_enter Try.func29, Try.ntmps29
    go_wp2_with fail
    refine HF.out.mono ?_
    rintro e w1 ⟨rfl, b1⟩
    go_wp2_with fail
    refine (add_any A n c p t (t + long) (-nodes) w1 (HH.out.below b1) hn hc HA.out).mono ?_
    rw [← HR1.out]
    rintro e w2 ⟨A2, c2, rfl, ho2, b2⟩
    go_wp2_with fail
    go_ret2
    rw [HR.out]
    exact ⟨A2, c2, rfl, ho2.mono b1.size, below_step b1 b2⟩
end Go.Proofs.Ytmjjbodglbdadaa.ProfW
