/-
  Contracts of muster/fleet: fine, Check.
-/
import Derived.Test.YtdamocjbkdknaaaFleet
namespace Go.Proofs.Ytdamocjbkdknaaa.FleetW
open Go.RowKit Mem Fleet
set_option linter.unusedVariables false
set_option linter.unusedSimpArgs false
set_option linter.unnecessarySimpa false

theorem two_b (w : World) (X : Obj) (t : TypeId) (cs : Array Value) : Blk ((w.alloc X).alloc (.cells cs t)) (w.heap.size + 1) t cs := by
  have := Blk.new (w.alloc X) t cs
  simpa using this
theorem three_b (w : World) (X Y : Obj) (t : TypeId) (cs : Array Value) : Blk (((w.alloc X).alloc Y).alloc (.cells cs t)) (w.heap.size + 1 + 1) t cs := by
  have := Blk.new ((w.alloc X).alloc Y) t cs
  simpa using this
theorem containsI_is (r : Bool) (A : Option Addr) (n c : Nat) (l : List Int) (x : Int) (w : World) (h : Ints w A n l) (hn : n ≤ maxLen) (hr : l.contains x = r) :
    Calls Try.prog 69 #[.slice A n c, .int .i64 x] w fun e w' => e = .returned (.bool r) ∧ w = w' := by rw [← hr]; exact containsI_any A n c l x w h hn
theorem below2 (w : World) (X Y : Obj) : Below w.heap.size w ((w.alloc X).alloc Y) := ((Below.refl _ _).alloc (Nat.le_refl _) _).alloc (by simp) _
theorem below3 (w : World) (X Y Z : Obj) : Below w.heap.size w (((w.alloc X).alloc Y).alloc Z) := (((Below.refl _ _).alloc (Nat.le_refl _) _).alloc (by simp) _).alloc (by simp <;> omega) _
set_option maxHeartbeats 2000000 in
set_option maxRecDepth 100000 in
theorem fine_any (x : Nd) (w : World) : Calls Try.prog 47 #[.agg #[.int .i64 x.st, .int .i64 x.jb, .int .i64 x.ep, .bool x.dr, .int .i64 x.wt, .int .i64 x.si, .int .i64 x.ak]] w (Ret (.bool (fineN x)) w) := by
  obtain ⟨st, jb, ep, dr, wt, si, ak⟩ := x
  simp only
  by_cases h1 : ep < 0
  · have HV : Hid (fineN ⟨st, jb, ep, dr, wt, si, ak⟩ = false) := by
      show _ = _
      have : decide (0 ≤ ep) = false := by simp; omega
      simp [fineN, this]
    go_enter Try.func47, Try.ntmps47
    go_wp2_with fail
    go_ret
    exact ⟨ret_bool HV.out.symm, (Below.refl _ _).alloc (Nat.le_refl _) _⟩
  have h1' : 0 ≤ ep := by omega
  clear h1
  by_cases h2 : 999999999 < ep
  · have HV : Hid (fineN ⟨st, jb, ep, dr, wt, si, ak⟩ = false) := by
      show _ = _
      have : decide (ep ≤ 999999999) = false := by simp; omega
      simp [fineN, this]
    go_enter Try.func47, Try.ntmps47
    go_wp2_with fail
    go_ret
    exact ⟨ret_bool HV.out.symm, (Below.refl _ _).alloc (Nat.le_refl _) _⟩
  have h2' : ep ≤ 999999999 := by omega
  clear h2
  have HT1 := Lib.hid (tick_any si)
  have HT2 := Lib.hid (tick_any ak)
  cases h3 : tickB si
  · rw [h3] at HT1
    have HV : Hid (fineN ⟨st, jb, ep, dr, wt, si, ak⟩ = false) := by
      show _ = _
      simp [fineN, h3]
    clear h3
    go_enter Try.func47, Try.ntmps47
    go_wp2_with fail
    refine (HT1.out _).mono ?_
    rintro e w1 ⟨rfl, rfl⟩
    go_wp2_with fail
    go_ret
    exact ⟨ret_bool HV.out.symm, (Below.refl _ _).alloc (Nat.le_refl _) _⟩
  rw [h3] at HT1
  cases h4 : tickB ak
  · rw [h4] at HT2
    have HV : Hid (fineN ⟨st, jb, ep, dr, wt, si, ak⟩ = false) := by
      show _ = _
      simp [fineN, h4]
    clear h3 h4
    go_enter Try.func47, Try.ntmps47
    go_wp2_with fail
    refine (HT1.out _).mono ?_
    rintro e w1 ⟨rfl, rfl⟩
    go_wp2_with fail
    refine (HT2.out _).mono ?_
    rintro e w1 ⟨rfl, rfl⟩
    go_wp2_with fail
    go_ret
    exact ⟨ret_bool HV.out.symm, (Below.refl _ _).alloc (Nat.le_refl _) _⟩
  rw [h4] at HT2
  have HB : Hid (fineN ⟨st, jb, ep, dr, wt, si, ak⟩ = bodyB ⟨st, jb, ep, dr, wt, si, ak⟩) := by
    show _ = _
    simp [fineN, h3, h4, h1', h2']
  clear h3 h4
  by_cases s0 : st = 0
  · subst s0
    obtain ⟨bb, hbb⟩ : ∃ bb, bb = ([0] : List Int).contains wt := ⟨_, rfl⟩
    have HBB := Lib.hid hbb
    clear hbb
    by_cases hj : jb = 0
    · subst hj
      have HV : Hid (fineN ⟨0, 0, ep, dr, wt, si, ak⟩ = bb) := by
        show _ = _
        rw [HB.out, HBB.out]
        simp [bodyB]
      clear HB
      go_enter Try.func47, Try.ntmps47
      go_wp2_with fail
      refine (HT1.out _).mono ?_
      rintro e w1 ⟨rfl, rfl⟩
      go_wp2_with fail
      refine (HT2.out _).mono ?_
      rintro e w1 ⟨rfl, rfl⟩
      go_wp2_with fail
      refine (containsI_is bb _ _ _ [0] wt _ (ints_blk (two_b w _ _ #[.int .i64 0]) rfl) (by simp [maxLen]) HBB.out.symm).mono ?_
      rintro e w1 ⟨rfl, rfl⟩
      go_wp2_with fail
      go_ret
      exact ⟨ret_bool HV.out.symm, below2 _ _ _⟩
    · have hj1 : (jb == 0) = false := by simpa using hj
      have HV : Hid (fineN ⟨0, jb, ep, dr, wt, si, ak⟩ = false) := by
        show _ = _
        rw [HB.out]
        simp [bodyB, hj1]
      clear HB hj
      go_enter Try.func47, Try.ntmps47
      go_wp2_with fail
      refine (HT1.out _).mono ?_
      rintro e w1 ⟨rfl, rfl⟩
      go_wp2_with fail
      refine (HT2.out _).mono ?_
      rintro e w1 ⟨rfl, rfl⟩
      go_wp2_with fail
      all_goals go_ret
      all_goals exact ⟨ret_bool HV.out.symm, below2 _ _ _⟩
  by_cases s1 : st = 1
  · subst s1
    obtain ⟨bb, hbb⟩ : ∃ bb, bb = ([0, 1, 3, 4] : List Int).contains wt := ⟨_, rfl⟩
    have HBB := Lib.hid hbb
    clear hbb
    by_cases hj : 1 ≤ jb
    · by_cases hk : jb ≤ 99999
      · have HV : Hid (fineN ⟨1, jb, ep, dr, wt, si, ak⟩ = bb) := by
          show _ = _
          rw [HB.out, HBB.out]
          simp [bodyB, heldB, hj, hk]
        clear HB
        go_enter Try.func47, Try.ntmps47
        go_wp2_with fail
        refine (HT1.out _).mono ?_
        rintro e w1 ⟨rfl, rfl⟩
        go_wp2_with fail
        refine (HT2.out _).mono ?_
        rintro e w1 ⟨rfl, rfl⟩
        go_wp2_with fail
        refine (containsI_is bb _ _ _ [0, 1, 3, 4] wt _ (ints_blk (three_b w _ _ _ #[.int .i64 0, .int .i64 1, .int .i64 3, .int .i64 4]) rfl) (by simp [maxLen]) HBB.out.symm).mono ?_
        rintro e w1 ⟨rfl, rfl⟩
        go_wp2_with fail
        go_ret
        exact ⟨ret_bool HV.out.symm, below3 _ _ _ _⟩
      · have HV : Hid (fineN ⟨1, jb, ep, dr, wt, si, ak⟩ = false) := by
          show _ = _
          rw [HB.out]
          simp [bodyB, heldB, hk]
        clear HB
        go_enter Try.func47, Try.ntmps47
        go_wp2_with fail
        refine (HT1.out _).mono ?_
        rintro e w1 ⟨rfl, rfl⟩
        go_wp2_with fail
        refine (HT2.out _).mono ?_
        rintro e w1 ⟨rfl, rfl⟩
        go_wp2_with fail
        go_ret
        exact ⟨ret_bool HV.out.symm, below3 _ _ _ _⟩
    · have HV : Hid (fineN ⟨1, jb, ep, dr, wt, si, ak⟩ = false) := by
        show _ = _
        rw [HB.out]
        simp [bodyB, heldB, hj]
      clear HB
      go_enter Try.func47, Try.ntmps47
      go_wp2_with fail
      refine (HT1.out _).mono ?_
      rintro e w1 ⟨rfl, rfl⟩
      go_wp2_with fail
      refine (HT2.out _).mono ?_
      rintro e w1 ⟨rfl, rfl⟩
      go_wp2_with fail
      go_ret
      exact ⟨ret_bool HV.out.symm, below3 _ _ _ _⟩
  by_cases s2 : st = 2
  · subst s2
    obtain ⟨bb, hbb⟩ : ∃ bb, bb = ([0, 2] : List Int).contains wt := ⟨_, rfl⟩
    have HBB := Lib.hid hbb
    clear hbb
    by_cases hj : 1 ≤ jb
    · by_cases hk : jb ≤ 99999
      · have HV : Hid (fineN ⟨2, jb, ep, dr, wt, si, ak⟩ = bb) := by
          show _ = _
          rw [HB.out, HBB.out]
          simp [bodyB, heldB, hj, hk]
        clear HB
        go_enter Try.func47, Try.ntmps47
        go_wp2_with fail
        refine (HT1.out _).mono ?_
        rintro e w1 ⟨rfl, rfl⟩
        go_wp2_with fail
        refine (HT2.out _).mono ?_
        rintro e w1 ⟨rfl, rfl⟩
        go_wp2_with fail
        refine (containsI_is bb _ _ _ [0, 2] wt _ (ints_blk (three_b w _ _ _ #[.int .i64 0, .int .i64 2]) rfl) (by simp [maxLen]) HBB.out.symm).mono ?_
        rintro e w1 ⟨rfl, rfl⟩
        go_wp2_with fail
        go_ret
        exact ⟨ret_bool HV.out.symm, below3 _ _ _ _⟩
      · have HV : Hid (fineN ⟨2, jb, ep, dr, wt, si, ak⟩ = false) := by
          show _ = _
          rw [HB.out]
          simp [bodyB, heldB, hk]
        clear HB
        go_enter Try.func47, Try.ntmps47
        go_wp2_with fail
        refine (HT1.out _).mono ?_
        rintro e w1 ⟨rfl, rfl⟩
        go_wp2_with fail
        refine (HT2.out _).mono ?_
        rintro e w1 ⟨rfl, rfl⟩
        go_wp2_with fail
        go_ret
        exact ⟨ret_bool HV.out.symm, below3 _ _ _ _⟩
    · have HV : Hid (fineN ⟨2, jb, ep, dr, wt, si, ak⟩ = false) := by
        show _ = _
        rw [HB.out]
        simp [bodyB, heldB, hj]
      clear HB
      go_enter Try.func47, Try.ntmps47
      go_wp2_with fail
      refine (HT1.out _).mono ?_
      rintro e w1 ⟨rfl, rfl⟩
      go_wp2_with fail
      refine (HT2.out _).mono ?_
      rintro e w1 ⟨rfl, rfl⟩
      go_wp2_with fail
      go_ret
      exact ⟨ret_bool HV.out.symm, below3 _ _ _ _⟩
  by_cases s3 : st = 3
  · subst s3
    obtain ⟨bb, hbb⟩ : ∃ bb, bb = ([5] : List Int).contains wt := ⟨_, rfl⟩
    have HBB := Lib.hid hbb
    clear hbb
    by_cases hj : 1 ≤ jb
    · by_cases hk : jb ≤ 99999
      · have HV : Hid (fineN ⟨3, jb, ep, dr, wt, si, ak⟩ = bb) := by
          show _ = _
          rw [HB.out, HBB.out]
          simp [bodyB, heldB, hj, hk]
        clear HB
        go_enter Try.func47, Try.ntmps47
        go_wp2_with fail
        refine (HT1.out _).mono ?_
        rintro e w1 ⟨rfl, rfl⟩
        go_wp2_with fail
        refine (HT2.out _).mono ?_
        rintro e w1 ⟨rfl, rfl⟩
        go_wp2_with fail
        refine (containsI_is bb _ _ _ [5] wt _ (ints_blk (three_b w _ _ _ #[.int .i64 5]) rfl) (by simp [maxLen]) HBB.out.symm).mono ?_
        rintro e w1 ⟨rfl, rfl⟩
        go_wp2_with fail
        go_ret
        exact ⟨ret_bool HV.out.symm, below3 _ _ _ _⟩
      · have HV : Hid (fineN ⟨3, jb, ep, dr, wt, si, ak⟩ = false) := by
          show _ = _
          rw [HB.out]
          simp [bodyB, heldB, hk]
        clear HB
        go_enter Try.func47, Try.ntmps47
        go_wp2_with fail
        refine (HT1.out _).mono ?_
        rintro e w1 ⟨rfl, rfl⟩
        go_wp2_with fail
        refine (HT2.out _).mono ?_
        rintro e w1 ⟨rfl, rfl⟩
        go_wp2_with fail
        go_ret
        exact ⟨ret_bool HV.out.symm, below3 _ _ _ _⟩
    · have HV : Hid (fineN ⟨3, jb, ep, dr, wt, si, ak⟩ = false) := by
        show _ = _
        rw [HB.out]
        simp [bodyB, heldB, hj]
      clear HB
      go_enter Try.func47, Try.ntmps47
      go_wp2_with fail
      refine (HT1.out _).mono ?_
      rintro e w1 ⟨rfl, rfl⟩
      go_wp2_with fail
      refine (HT2.out _).mono ?_
      rintro e w1 ⟨rfl, rfl⟩
      go_wp2_with fail
      go_ret
      exact ⟨ret_bool HV.out.symm, below3 _ _ _ _⟩
  by_cases s4 : st = 4
  · subst s4
    obtain ⟨bb, hbb⟩ : ∃ bb, bb = ([0, 6] : List Int).contains wt := ⟨_, rfl⟩
    have HBB := Lib.hid hbb
    clear hbb
    by_cases hj : jb = 0
    · subst hj
      have HV : Hid (fineN ⟨4, 0, ep, dr, wt, si, ak⟩ = bb) := by
        show _ = _
        rw [HB.out, HBB.out]
        simp [bodyB]
      clear HB
      go_enter Try.func47, Try.ntmps47
      go_wp2_with fail
      refine (HT1.out _).mono ?_
      rintro e w1 ⟨rfl, rfl⟩
      go_wp2_with fail
      refine (HT2.out _).mono ?_
      rintro e w1 ⟨rfl, rfl⟩
      go_wp2_with fail
      refine (containsI_is bb _ _ _ [0, 6] wt _ (ints_blk (three_b w _ _ _ #[.int .i64 0, .int .i64 6]) rfl) (by simp [maxLen]) HBB.out.symm).mono ?_
      rintro e w1 ⟨rfl, rfl⟩
      go_wp2_with fail
      go_ret
      exact ⟨ret_bool HV.out.symm, below3 _ _ _ _⟩
    · have hj1 : (jb == 0) = false := by simpa using hj
      have HV : Hid (fineN ⟨4, jb, ep, dr, wt, si, ak⟩ = false) := by
        show _ = _
        rw [HB.out]
        simp [bodyB, hj1]
      clear HB hj
      go_enter Try.func47, Try.ntmps47
      go_wp2_with fail
      refine (HT1.out _).mono ?_
      rintro e w1 ⟨rfl, rfl⟩
      go_wp2_with fail
      refine (HT2.out _).mono ?_
      rintro e w1 ⟨rfl, rfl⟩
      go_wp2_with fail
      all_goals go_ret
      all_goals exact ⟨ret_bool HV.out.symm, below3 _ _ _ _⟩
  have HV : Hid (fineN ⟨st, jb, ep, dr, wt, si, ak⟩ = false) := by
    show _ = _
    rw [HB.out]
    simp [bodyB, s0, s1, s2, s3, s4]
  have e0 : (st == 0) = false := by simpa using s0
  have e1 : (st == 1) = false := by simpa using s1
  have e2 : (st == 2) = false := by simpa using s2
  have e3 : (st == 3) = false := by simpa using s3
  have e4 : (st == 4) = false := by simpa using s4
  clear HB s0 s1 s2 s3 s4
  by_cases hj : 1 ≤ jb
  · have hj' : 0 ≤ jb := by omega
    go_enter Try.func47, Try.ntmps47
    go_wp2_with fail
    refine (HT1.out _).mono ?_
    rintro e w1 ⟨rfl, rfl⟩
    go_wp2_with fail
    refine (HT2.out _).mono ?_
    rintro e w1 ⟨rfl, rfl⟩
    go_wp2_with fail
    go_ret
    exact ⟨ret_bool HV.out.symm, below2 _ _ _⟩
  · have hj' : jb < 1 := by omega
    go_enter Try.func47, Try.ntmps47
    go_wp2_with fail
    refine (HT1.out _).mono ?_
    rintro e w1 ⟨rfl, rfl⟩
    go_wp2_with fail
    refine (HT2.out _).mono ?_
    rintro e w1 ⟨rfl, rfl⟩
    go_wp2_with fail
    go_ret
    exact ⟨ret_bool HV.out.symm, below2 _ _ _⟩
end Go.Proofs.Ytdamocjbkdknaaa.FleetW
