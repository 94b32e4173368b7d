/-
  FramePuts, FrameGets: the laws' walks.
-/
import Derived.Test.YtgmoakbmomaffaaFrameAwake
namespace Go.Proofs.Ytgmoakbmomaffaa.FrameW
open Go.RowKit Mem Frm PackW
set_option linter.unusedVariables false
set_option linter.unusedSimpArgs false

set_option maxHeartbeats 2000000 in
set_option maxRecDepth 100000 in
theorem fputs_any (life seq : Int) (s : ByteArray) (w : World) (l0 : -9223372036854775808 ≤ life ∧ life ≤ 9223372036854775807) (q0 : -9223372036854775808 ≤ seq ∧ seq ≤ 9223372036854775807) (hs : s.size ≤ maxLen) :
    Calls Try.prog 11 #[.int .i64 life, .int .i64 seq, .string s] w (TrueB w) := by
  have HAw := Lib.hid fawake_any
  by_cases hbig : 210000 < s.size
  · have t1 : decide ((210000 : Int) < (s.size : Int)) = true := decide_eq_true (by omega)
    clear hbig hs
    go_enter Try.func11, Try.ntmps11
    go_wp2_with fail
    refine (HAw.out w).mono ?_
    rintro e w1 ⟨rfl, b1⟩
    go_wp2_with fail
    go_ret
    exact ⟨rfl, b1⟩
  have t1 : decide ((210000 : Int) < (s.size : Int)) = false := decide_eq_false (by omega)
  have HP := Lib.hid (put_any life seq s w hs l0 q0)
  have HRP := Lib.hid fun w => rput_any life seq s w hs l0 q0
  obtain ⟨R, hR⟩ : ∃ R, R = str (put life seq s.data.toList).1 := ⟨_, rfl⟩
  obtain ⟨x, hx⟩ : ∃ x, x = (put life seq s.data.toList).2 := ⟨_, rfl⟩
  rw [← hR, ← hx] at HP
  rw [← hR, ← hx] at HRP
  have e1 : (R.toList == R.toList) = true := by simp
  have e2 : (x == x) = true := by simp
  clear hbig hR hx hs
  go_enter Try.func11, Try.ntmps11
  go_wp2_with fail
  refine HP.out.mono ?_
  rintro e w1 ⟨rfl, b1⟩
  go_wp2_with fail
  refine (HRP.out _).mono ?_
  rintro e w2 ⟨rfl, b2⟩
  go_wp2_with fail
  refine (HAw.out _).mono ?_
  rintro e w3 ⟨rfl, b3⟩
  go_wp2_with fail
  go_ret
  exact ⟨rfl, below_step (below_step b1 b2) b3⟩
set_option maxHeartbeats 2000000 in
set_option maxRecDepth 100000 in
theorem fgets_any (s : ByteArray) (a : Int) (w : World) (hs : s.size ≤ maxLen) :
    Calls Try.prog 12 #[.string s, .int .i64 a] w (TrueB w) := by
  have HAw := Lib.hid fawake_any
  by_cases hbig : 500000 < s.size
  · have t1 : decide ((500000 : Int) < (s.size : Int)) = true := decide_eq_true (by omega)
    clear hbig hs
    go_enter Try.func12, Try.ntmps12
    go_wp2_with fail
    refine (HAw.out w).mono ?_
    rintro e w1 ⟨rfl, b1⟩
    go_wp2_with fail
    go_ret
    exact ⟨rfl, b1⟩
  have t1 : decide ((500000 : Int) < (s.size : Int)) = false := decide_eq_false (by omega)
  have hs2 : s.size ≤ 1000000 := by omega
  have HG := Lib.hid (get_any s a w hs)
  have HRG := Lib.hid fun w => rget_any s a w hs
  have HC := Lib.hid fun w => cut_any s w hs2
  have HRC := Lib.hid fun w => rcut_any s w hs2
  have hcnt := all_len s.data.toList
  have hbl : (bods s.data.toList).length = (Frm.all s.data.toList).length := by simp [bods]
  have hsl : s.data.toList.length = s.size := by simp
  have hm : Hid ((bods s.data.toList).length ≤ maxLen) := by show _ ≤ _; unfold maxLen; omega
  unfold CutPost at HC HRC
  obtain ⟨g, hg⟩ : ∃ g, g = get s.data.toList a := ⟨_, rfl⟩
  obtain ⟨l, hl⟩ : ∃ l, l = bods s.data.toList := ⟨_, rfl⟩
  obtain ⟨t, ht⟩ : ∃ t, t = lastTo (Frm.all s.data.toList) := ⟨_, rfl⟩
  rw [← hg] at HG HRG
  rw [← hl] at hm HC HRC
  rw [← ht] at HC HRC
  obtain ⟨g1, g2, g3, g4, g5⟩ := g
  obtain ⟨R, hR⟩ : ∃ R, R = str g3 := ⟨_, rfl⟩
  simp only [gotV] at HG HRG
  rw [← hR] at HG HRG
  have e1 : (g1 == g1) = true := by simp
  have e2 : (g2 == g2) = true := by simp
  have e3 : (R.toList == R.toList) = true := by simp
  have e4 : (g4 == g4) = true := by simp
  have e5 : (g5 == g5) = true := by simp
  have e6 : (t == t) = true := by simp
  clear hbig hg hl ht hR hcnt hbl hsl hs hs2
  go_enter Try.func12, Try.ntmps12
  go_wp2_with fail
  refine HG.out.mono ?_
  rintro e w1 ⟨rfl, b1⟩
  go_wp2_with fail
  refine (HRG.out _).mono ?_
  rintro e w2 ⟨rfl, b2⟩
  go_wp2_with fail
  refine (HC.out _).mono ?_
  rintro e w3 ⟨A3, c3, rfl, o3, b3⟩
  have HO3 := Lib.hid o3
  clear o3
  go_wp2_with fail
  refine (HRC.out _).mono ?_
  rintro e w4 ⟨A4, c4, rfl, o4, b4⟩
  have HO4 := Lib.hid o4
  clear o4
  go_wp2_with fail
  refine (same_yes A3 A4 _ _ c3 c4 l l w4 (HO3.out.below b4) HO4.out hm.out hm.out rfl).mono ?_
  rintro e w5 ⟨rfl, d, rfl⟩
  go_wp2_with fail
  refine (HAw.out _).mono ?_
  rintro e w6 ⟨rfl, b6⟩
  go_wp2_with fail
  go_ret
  exact ⟨rfl, below_step (below_drewN (below_step (below_step (below_step b1 b2) b3) b4) d) b6⟩
end Go.Proofs.Ytgmoakbmomaffaa.FrameW
