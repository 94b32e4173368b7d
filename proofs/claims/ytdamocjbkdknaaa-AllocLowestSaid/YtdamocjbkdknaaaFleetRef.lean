/-
  Contracts of musterref12: fine, Check.
-/
import Derived.Test.YtdamocjbkdknaaaFleet
namespace Go.Proofs.Ytdamocjbkdknaaa.FleetW
open Go.RowKit Mem Fleet
set_option linter.unusedVariables false
set_option linter.unusedSimpArgs false
set_option linter.unnecessarySimpa false

set_option maxHeartbeats 4000000 in
set_option maxRecDepth 100000 in
theorem rfine_any (x : Nd) (w : World) : Calls Try.prog 48 #[.agg #[.int .i64 x.st, .int .i64 x.jb, .int .i64 x.ep, .bool x.dr, .int .i64 x.wt, .int .i64 x.si, .int .i64 x.ak]] w (Ret (.bool (fineN x)) w) := by
  obtain ⟨st, jb, ep, dr, wt, si, ak⟩ := x
  simp only
  by_cases heplt : ep < 0
  case pos =>
    have HV : Hid (fineN ⟨st, jb, ep, dr, wt, si, ak⟩ = false) := by
      show _ = _
      have : decide (0 ≤ ep) = false := decide_eq_false (by omega)
      simp [fineN, tickB, this]
    go_enter Try.func48, Try.ntmps48
    go_wp2_with fail
    go_ret
    exact ⟨ret_bool HV.out.symm, (Below.refl _ _).alloc (Nat.le_refl _) _⟩
  have heplt' : 0 ≤ ep := by omega
  clear heplt
  by_cases hepgt : 999999999 < ep
  case pos =>
    have HV : Hid (fineN ⟨st, jb, ep, dr, wt, si, ak⟩ = false) := by
      show _ = _
      have : decide (ep ≤ 999999999) = false := decide_eq_false (by omega)
      simp [fineN, tickB, this]
    go_enter Try.func48, Try.ntmps48
    go_wp2_with fail
    go_ret
    exact ⟨ret_bool HV.out.symm, (Below.refl _ _).alloc (Nat.le_refl _) _⟩
  have hepgt' : ep ≤ 999999999 := by omega
  clear hepgt
  by_cases hsilt : si < 0
  case pos =>
    have HV : Hid (fineN ⟨st, jb, ep, dr, wt, si, ak⟩ = false) := by
      show _ = _
      have : decide (0 ≤ si) = false := decide_eq_false (by omega)
      simp [fineN, tickB, this]
    go_enter Try.func48, Try.ntmps48
    go_wp2_with fail
    go_ret
    exact ⟨ret_bool HV.out.symm, (Below.refl _ _).alloc (Nat.le_refl _) _⟩
  have hsilt' : 0 ≤ si := by omega
  clear hsilt
  by_cases hsigt : 1000000 < si
  case pos =>
    have HV : Hid (fineN ⟨st, jb, ep, dr, wt, si, ak⟩ = false) := by
      show _ = _
      have : decide (si ≤ 1000000) = false := decide_eq_false (by omega)
      simp [fineN, tickB, this]
    go_enter Try.func48, Try.ntmps48
    go_wp2_with fail
    go_ret
    exact ⟨ret_bool HV.out.symm, (Below.refl _ _).alloc (Nat.le_refl _) _⟩
  have hsigt' : si ≤ 1000000 := by omega
  clear hsigt
  by_cases haklt : ak < 0
  case pos =>
    have HV : Hid (fineN ⟨st, jb, ep, dr, wt, si, ak⟩ = false) := by
      show _ = _
      have : decide (0 ≤ ak) = false := decide_eq_false (by omega)
      simp [fineN, tickB, this]
    go_enter Try.func48, Try.ntmps48
    go_wp2_with fail
    go_ret
    exact ⟨ret_bool HV.out.symm, (Below.refl _ _).alloc (Nat.le_refl _) _⟩
  have haklt' : 0 ≤ ak := by omega
  clear haklt
  by_cases hakgt : 1000000 < ak
  case pos =>
    have HV : Hid (fineN ⟨st, jb, ep, dr, wt, si, ak⟩ = false) := by
      show _ = _
      have : decide (ak ≤ 1000000) = false := decide_eq_false (by omega)
      simp [fineN, tickB, this]
    go_enter Try.func48, Try.ntmps48
    go_wp2_with fail
    go_ret
    exact ⟨ret_bool HV.out.symm, (Below.refl _ _).alloc (Nat.le_refl _) _⟩
  have hakgt' : ak ≤ 1000000 := by omega
  clear hakgt
  have HB : Hid (fineN ⟨st, jb, ep, dr, wt, si, ak⟩ = bodyB ⟨st, jb, ep, dr, wt, si, ak⟩) := by
    show _ = _
    simp [fineN, tickB, heplt', hepgt', hsilt', hsigt', haklt', hakgt']
  by_cases s0 : st = 0
  case pos =>
    subst s0
    by_cases hj : jb = 0
    case pos =>
      subst hj
      by_cases hw0 : wt = 0
      case pos =>
        subst hw0
        have HV : Hid (fineN ⟨0, 0, ep, dr, 0, si, ak⟩ = true) := by
          show _ = _
          rw [HB.out]
          simp [bodyB, heldB]
        clear HB
        go_enter Try.func48, Try.ntmps48
        go_wp2_with fail
        go_ret
        exact ⟨ret_bool HV.out.symm, (Below.refl _ _).alloc (Nat.le_refl _) _⟩
      have u0 : (wt == 0) = false := by simpa using hw0
      have HV : Hid (fineN ⟨0, 0, ep, dr, wt, si, ak⟩ = false) := by
        show _ = _
        rw [HB.out]
        simp [bodyB, heldB, u0, hw0]
      clear HB
      go_enter Try.func48, Try.ntmps48
      go_wp2_with fail
      go_ret
      exact ⟨ret_bool HV.out.symm, (Below.refl _ _).alloc (Nat.le_refl _) _⟩
    have hj1 : (jb == 0) = false := by simpa using hj
    have HV : Hid (fineN ⟨0, jb, ep, dr, wt, si, ak⟩ = false) := by
      show _ = _
      rw [HB.out]
      simp [bodyB, heldB, hj1]
    clear HB
    go_enter Try.func48, Try.ntmps48
    go_wp2_with fail
    go_ret
    exact ⟨ret_bool HV.out.symm, (Below.refl _ _).alloc (Nat.le_refl _) _⟩
  by_cases s4 : st = 4
  case pos =>
    subst s4
    by_cases hj : jb = 0
    case pos =>
      subst hj
      by_cases hw0 : wt = 0
      case pos =>
        subst hw0
        have HV : Hid (fineN ⟨4, 0, ep, dr, 0, si, ak⟩ = true) := by
          show _ = _
          rw [HB.out]
          simp [bodyB, heldB]
        clear HB
        go_enter Try.func48, Try.ntmps48
        go_wp2_with fail
        go_ret
        exact ⟨ret_bool HV.out.symm, (Below.refl _ _).alloc (Nat.le_refl _) _⟩
      have u0 : (wt == 0) = false := by simpa using hw0
      by_cases hw6 : wt = 6
      case pos =>
        subst hw6
        have HV : Hid (fineN ⟨4, 0, ep, dr, 6, si, ak⟩ = true) := by
          show _ = _
          rw [HB.out]
          simp [bodyB, heldB, hw0]
        clear HB
        go_enter Try.func48, Try.ntmps48
        go_wp2_with fail
        go_ret
        exact ⟨ret_bool HV.out.symm, (Below.refl _ _).alloc (Nat.le_refl _) _⟩
      have u6 : (wt == 6) = false := by simpa using hw6
      have HV : Hid (fineN ⟨4, 0, ep, dr, wt, si, ak⟩ = false) := by
        show _ = _
        rw [HB.out]
        simp [bodyB, heldB, u0, hw0, u6, hw6]
      clear HB
      go_enter Try.func48, Try.ntmps48
      go_wp2_with fail
      go_ret
      exact ⟨ret_bool HV.out.symm, (Below.refl _ _).alloc (Nat.le_refl _) _⟩
    have hj1 : (jb == 0) = false := by simpa using hj
    have HV : Hid (fineN ⟨4, jb, ep, dr, wt, si, ak⟩ = false) := by
      show _ = _
      rw [HB.out]
      simp [bodyB, heldB, hj1]
    clear HB
    go_enter Try.func48, Try.ntmps48
    go_wp2_with fail
    go_ret
    exact ⟨ret_bool HV.out.symm, (Below.refl _ _).alloc (Nat.le_refl _) _⟩
  have z0 : (st == 0) = false := by simpa using s0
  have z4 : (st == 4) = false := by simpa using s4
  by_cases hj1 : jb < 1
  case pos =>
    have HV : Hid (fineN ⟨st, jb, ep, dr, wt, si, ak⟩ = false) := by
      show _ = _
      rw [HB.out]
      have : decide (1 ≤ jb) = false := decide_eq_false (by omega)
      simp [bodyB, heldB, s0, s4, this]
    clear HB s0 s4
    go_enter Try.func48, Try.ntmps48
    go_wp2_with fail
    go_ret
    exact ⟨ret_bool HV.out.symm, (Below.refl _ _).alloc (Nat.le_refl _) _⟩
  have hj1' : 1 ≤ jb := by omega
  clear hj1
  by_cases hj2 : 99999 < jb
  case pos =>
    have HV : Hid (fineN ⟨st, jb, ep, dr, wt, si, ak⟩ = false) := by
      show _ = _
      rw [HB.out]
      have : decide (jb ≤ 99999) = false := decide_eq_false (by omega)
      simp [bodyB, heldB, s0, s4, this]
    clear HB s0 s4
    go_enter Try.func48, Try.ntmps48
    go_wp2_with fail
    go_ret
    exact ⟨ret_bool HV.out.symm, (Below.refl _ _).alloc (Nat.le_refl _) _⟩
  have hj2' : jb ≤ 99999 := by omega
  clear hj2
  by_cases s1 : st = 1
  case pos =>
    subst s1
    clear s0 s4 z0 z4
    by_cases hw0 : wt = 0
    case pos =>
      subst hw0
      have HV : Hid (fineN ⟨1, jb, ep, dr, 0, si, ak⟩ = true) := by
        show _ = _
        rw [HB.out]
        simp [bodyB, heldB, hj1', hj2']
      clear HB
      go_enter Try.func48, Try.ntmps48
      go_wp2_with fail
      go_ret
      exact ⟨ret_bool HV.out.symm, (Below.refl _ _).alloc (Nat.le_refl _) _⟩
    have u0 : (wt == 0) = false := by simpa using hw0
    by_cases hw1 : wt = 1
    case pos =>
      subst hw1
      have HV : Hid (fineN ⟨1, jb, ep, dr, 1, si, ak⟩ = true) := by
        show _ = _
        rw [HB.out]
        simp [bodyB, heldB, hj1', hj2', hw0]
      clear HB
      go_enter Try.func48, Try.ntmps48
      go_wp2_with fail
      go_ret
      exact ⟨ret_bool HV.out.symm, (Below.refl _ _).alloc (Nat.le_refl _) _⟩
    have u1 : (wt == 1) = false := by simpa using hw1
    by_cases hw3 : wt = 3
    case pos =>
      subst hw3
      have HV : Hid (fineN ⟨1, jb, ep, dr, 3, si, ak⟩ = true) := by
        show _ = _
        rw [HB.out]
        simp [bodyB, heldB, hj1', hj2', hw0, hw1]
      clear HB
      go_enter Try.func48, Try.ntmps48
      go_wp2_with fail
      go_ret
      exact ⟨ret_bool HV.out.symm, (Below.refl _ _).alloc (Nat.le_refl _) _⟩
    have u3 : (wt == 3) = false := by simpa using hw3
    by_cases hw4 : wt = 4
    case pos =>
      subst hw4
      have HV : Hid (fineN ⟨1, jb, ep, dr, 4, si, ak⟩ = true) := by
        show _ = _
        rw [HB.out]
        simp [bodyB, heldB, hj1', hj2', hw0, hw1, hw3]
      clear HB
      go_enter Try.func48, Try.ntmps48
      go_wp2_with fail
      go_ret
      exact ⟨ret_bool HV.out.symm, (Below.refl _ _).alloc (Nat.le_refl _) _⟩
    have u4 : (wt == 4) = false := by simpa using hw4
    have HV : Hid (fineN ⟨1, jb, ep, dr, wt, si, ak⟩ = false) := by
      show _ = _
      rw [HB.out]
      simp [bodyB, heldB, hj1', hj2', u0, hw0, u1, hw1, u3, hw3, u4, hw4]
    clear HB
    go_enter Try.func48, Try.ntmps48
    go_wp2_with fail
    go_ret
    exact ⟨ret_bool HV.out.symm, (Below.refl _ _).alloc (Nat.le_refl _) _⟩
  by_cases s2 : st = 2
  case pos =>
    subst s2
    clear s0 s4 z0 z4
    by_cases hw0 : wt = 0
    case pos =>
      subst hw0
      have HV : Hid (fineN ⟨2, jb, ep, dr, 0, si, ak⟩ = true) := by
        show _ = _
        rw [HB.out]
        simp [bodyB, heldB, hj1', hj2']
      clear HB
      go_enter Try.func48, Try.ntmps48
      go_wp2_with fail
      go_ret
      exact ⟨ret_bool HV.out.symm, (Below.refl _ _).alloc (Nat.le_refl _) _⟩
    have u0 : (wt == 0) = false := by simpa using hw0
    by_cases hw2 : wt = 2
    case pos =>
      subst hw2
      have HV : Hid (fineN ⟨2, jb, ep, dr, 2, si, ak⟩ = true) := by
        show _ = _
        rw [HB.out]
        simp [bodyB, heldB, hj1', hj2', hw0]
      clear HB
      go_enter Try.func48, Try.ntmps48
      go_wp2_with fail
      go_ret
      exact ⟨ret_bool HV.out.symm, (Below.refl _ _).alloc (Nat.le_refl _) _⟩
    have u2 : (wt == 2) = false := by simpa using hw2
    have HV : Hid (fineN ⟨2, jb, ep, dr, wt, si, ak⟩ = false) := by
      show _ = _
      rw [HB.out]
      simp [bodyB, heldB, hj1', hj2', u0, hw0, u2, hw2]
    clear HB
    go_enter Try.func48, Try.ntmps48
    go_wp2_with fail
    go_ret
    exact ⟨ret_bool HV.out.symm, (Below.refl _ _).alloc (Nat.le_refl _) _⟩
  by_cases s3 : st = 3
  case pos =>
    subst s3
    clear s0 s4 z0 z4
    by_cases hw5 : wt = 5
    case pos =>
      subst hw5
      have HV : Hid (fineN ⟨3, jb, ep, dr, 5, si, ak⟩ = true) := by
        show _ = _
        rw [HB.out]
        simp [bodyB, heldB, hj1', hj2']
      clear HB
      go_enter Try.func48, Try.ntmps48
      go_wp2_with fail
      go_ret
      exact ⟨ret_bool HV.out.symm, (Below.refl _ _).alloc (Nat.le_refl _) _⟩
    have u5 : (wt == 5) = false := by simpa using hw5
    have HV : Hid (fineN ⟨3, jb, ep, dr, wt, si, ak⟩ = false) := by
      show _ = _
      rw [HB.out]
      simp [bodyB, heldB, hj1', hj2', u5, hw5]
    clear HB
    go_enter Try.func48, Try.ntmps48
    go_wp2_with fail
    go_ret
    exact ⟨ret_bool HV.out.symm, (Below.refl _ _).alloc (Nat.le_refl _) _⟩
  have z1 : (st == 1) = false := by simpa using s1
  have z2 : (st == 2) = false := by simpa using s2
  have z3 : (st == 3) = false := by simpa using s3
  have HV : Hid (fineN ⟨st, jb, ep, dr, wt, si, ak⟩ = false) := by
    show _ = _
    rw [HB.out]
    simp [bodyB, s0, s1, s2, s3, s4]
  clear HB s0 s1 s2 s3 s4
  go_enter Try.func48, Try.ntmps48
  go_wp2_with fail
  go_ret
  exact ⟨ret_bool HV.out.symm, (Below.refl _ _).alloc (Nat.le_refl _) _⟩
end Go.Proofs.Ytdamocjbkdknaaa.FleetW
