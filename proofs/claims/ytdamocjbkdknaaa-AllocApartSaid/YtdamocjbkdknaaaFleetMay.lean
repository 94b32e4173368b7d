/-
  Contract of muster/fleet: may.
-/
import Derived.Test.YtdamocjbkdknaaaFleet
import Derived.BigGuardPart
namespace Go.Proofs.Ytdamocjbkdknaaa.FleetW
open Go.RowKit Mem Fleet
set_option linter.unusedVariables false
set_option linter.unusedSimpArgs false
set_option linter.unnecessarySimpa false

abbrev MayC (x : Nd) (act job : Int) (w : World) : Prop := Calls Try.prog 55 #[.agg #[.int .i64 x.st, .int .i64 x.jb, .int .i64 x.ep, .bool x.dr, .int .i64 x.wt, .int .i64 x.si, .int .i64 x.ak], .int .i64 act, .int .i64 job] w (Ret (.bool (mayB x act job)) w)
set_option maxHeartbeats 2000000 in
set_option maxRecDepth 100000 in
theorem may_1 (x : Nd) (job : Int) (w : World) : MayC x 1 job w := by
  obtain ⟨st, jb, ep, dr, wt, si, ak⟩ := x
  unfold MayC
  simp only
  by_cases s0 : st = 0
  case pos =>
    subst s0
    cases dr
    case false =>
      by_cases hep : ep < 999999999
      case pos =>
        by_cases hjob1 : 1 ≤ job
        case pos =>
          by_cases hjob2 : job ≤ 99999
          case pos =>
            have HV : Hid (mayB ⟨0, jb, ep, false, wt, si, ak⟩ 1 job = true) := by
              show _ = _
              simp [mayB, hep, hjob1, hjob2]
            go_enter Try.func55, Try.ntmps55
            go_wp2_with fail
            go_ret
            exact ⟨ret_bool HV.out.symm, (Below.refl _ _).alloc (Nat.le_refl _) _⟩
          case neg =>
            have hjob2' : 99999 < job := by omega
            have HV : Hid (mayB ⟨0, jb, ep, false, wt, si, ak⟩ 1 job = false) := by
              show _ = _
              simp [mayB, hep, hjob1, hjob2]
            go_enter Try.func55, Try.ntmps55
            go_wp2_with fail
            go_ret
            exact ⟨ret_bool HV.out.symm, (Below.refl _ _).alloc (Nat.le_refl _) _⟩
        case neg =>
          have hjob1' : job < 1 := by omega
          have HV : Hid (mayB ⟨0, jb, ep, false, wt, si, ak⟩ 1 job = false) := by
            show _ = _
            simp [mayB, hep, hjob1]
          go_enter Try.func55, Try.ntmps55
          go_wp2_with fail
          go_ret
          exact ⟨ret_bool HV.out.symm, (Below.refl _ _).alloc (Nat.le_refl _) _⟩
      case neg =>
        have hep' : 999999999 ≤ ep := by omega
        have HV : Hid (mayB ⟨0, jb, ep, false, wt, si, ak⟩ 1 job = false) := by
          show _ = _
          simp [mayB, hep]
        go_enter Try.func55, Try.ntmps55
        go_wp2_with fail
        go_ret
        exact ⟨ret_bool HV.out.symm, (Below.refl _ _).alloc (Nat.le_refl _) _⟩
    case true =>
      have HV : Hid (mayB ⟨0, jb, ep, true, wt, si, ak⟩ 1 job = false) := by
        show _ = _
        simp [mayB]
      go_enter Try.func55, Try.ntmps55
      go_wp2_with fail
      go_ret
      exact ⟨ret_bool HV.out.symm, (Below.refl _ _).alloc (Nat.le_refl _) _⟩
  by_cases s1 : st = 1
  case pos =>
    subst s1
    have HV : Hid (mayB ⟨1, jb, ep, dr, wt, si, ak⟩ 1 job = false) := by
      show _ = _
      simp [mayB]
    go_enter Try.func55, Try.ntmps55
    go_wp2_with fail
    go_ret
    exact ⟨ret_bool HV.out.symm, (Below.refl _ _).alloc (Nat.le_refl _) _⟩
  by_cases s2 : st = 2
  case pos =>
    subst s2
    have HV : Hid (mayB ⟨2, jb, ep, dr, wt, si, ak⟩ 1 job = false) := by
      show _ = _
      simp [mayB]
    go_enter Try.func55, Try.ntmps55
    go_wp2_with fail
    go_ret
    exact ⟨ret_bool HV.out.symm, (Below.refl _ _).alloc (Nat.le_refl _) _⟩
  by_cases s3 : st = 3
  case pos =>
    subst s3
    have HV : Hid (mayB ⟨3, jb, ep, dr, wt, si, ak⟩ 1 job = false) := by
      show _ = _
      simp [mayB]
    go_enter Try.func55, Try.ntmps55
    go_wp2_with fail
    go_ret
    exact ⟨ret_bool HV.out.symm, (Below.refl _ _).alloc (Nat.le_refl _) _⟩
  by_cases s4 : st = 4
  case pos =>
    subst s4
    have HV : Hid (mayB ⟨4, jb, ep, dr, wt, si, ak⟩ 1 job = false) := by
      show _ = _
      simp [mayB]
    go_enter Try.func55, Try.ntmps55
    go_wp2_with fail
    go_ret
    exact ⟨ret_bool HV.out.symm, (Below.refl _ _).alloc (Nat.le_refl _) _⟩
  have z0 : (st == 0) = false := by simpa using s0
  have y0 : (st != 0) = true := by simpa using s0
  have z1 : (st == 1) = false := by simpa using s1
  have y1 : (st != 1) = true := by simpa using s1
  have z2 : (st == 2) = false := by simpa using s2
  have y2 : (st != 2) = true := by simpa using s2
  have z3 : (st == 3) = false := by simpa using s3
  have y3 : (st != 3) = true := by simpa using s3
  have z4 : (st == 4) = false := by simpa using s4
  have y4 : (st != 4) = true := by simpa using s4
  clear s0 s1 s2 s3 s4
  have HV : Hid (mayB ⟨st, jb, ep, dr, wt, si, ak⟩ 1 job = false) := by
    show _ = _
    simp [mayB, z0, z1, z2, z3, z4, y0, y1, y2, y3, y4]
  go_enter Try.func55, Try.ntmps55
  go_wp2_with fail
  go_ret
  exact ⟨ret_bool HV.out.symm, (Below.refl _ _).alloc (Nat.le_refl _) _⟩
set_option maxHeartbeats 2000000 in
set_option maxRecDepth 100000 in
theorem may_2 (x : Nd) (job : Int) (w : World) : MayC x 2 job w := by
  obtain ⟨st, jb, ep, dr, wt, si, ak⟩ := x
  unfold MayC
  simp only
  by_cases s0 : st = 0
  case pos =>
    subst s0
    cases dr
    case false =>
      by_cases hep : ep < 999999999
      case pos =>
        by_cases hjob1 : 1 ≤ job
        case pos =>
          by_cases hjob2 : job ≤ 99999
          case pos =>
            have HV : Hid (mayB ⟨0, jb, ep, false, wt, si, ak⟩ 2 job = true) := by
              show _ = _
              simp [mayB, hep, hjob1, hjob2]
            go_enter Try.func55, Try.ntmps55
            go_wp2_with fail
            go_ret
            exact ⟨ret_bool HV.out.symm, (Below.refl _ _).alloc (Nat.le_refl _) _⟩
          case neg =>
            have hjob2' : 99999 < job := by omega
            have HV : Hid (mayB ⟨0, jb, ep, false, wt, si, ak⟩ 2 job = false) := by
              show _ = _
              simp [mayB, hep, hjob1, hjob2]
            go_enter Try.func55, Try.ntmps55
            go_wp2_with fail
            go_ret
            exact ⟨ret_bool HV.out.symm, (Below.refl _ _).alloc (Nat.le_refl _) _⟩
        case neg =>
          have hjob1' : job < 1 := by omega
          have HV : Hid (mayB ⟨0, jb, ep, false, wt, si, ak⟩ 2 job = false) := by
            show _ = _
            simp [mayB, hep, hjob1]
          go_enter Try.func55, Try.ntmps55
          go_wp2_with fail
          go_ret
          exact ⟨ret_bool HV.out.symm, (Below.refl _ _).alloc (Nat.le_refl _) _⟩
      case neg =>
        have hep' : 999999999 ≤ ep := by omega
        have HV : Hid (mayB ⟨0, jb, ep, false, wt, si, ak⟩ 2 job = false) := by
          show _ = _
          simp [mayB, hep]
        go_enter Try.func55, Try.ntmps55
        go_wp2_with fail
        go_ret
        exact ⟨ret_bool HV.out.symm, (Below.refl _ _).alloc (Nat.le_refl _) _⟩
    case true =>
      have HV : Hid (mayB ⟨0, jb, ep, true, wt, si, ak⟩ 2 job = false) := by
        show _ = _
        simp [mayB]
      go_enter Try.func55, Try.ntmps55
      go_wp2_with fail
      go_ret
      exact ⟨ret_bool HV.out.symm, (Below.refl _ _).alloc (Nat.le_refl _) _⟩
  by_cases s1 : st = 1
  case pos =>
    subst s1
    have HV : Hid (mayB ⟨1, jb, ep, dr, wt, si, ak⟩ 2 job = false) := by
      show _ = _
      simp [mayB]
    go_enter Try.func55, Try.ntmps55
    go_wp2_with fail
    go_ret
    exact ⟨ret_bool HV.out.symm, (Below.refl _ _).alloc (Nat.le_refl _) _⟩
  by_cases s2 : st = 2
  case pos =>
    subst s2
    have HV : Hid (mayB ⟨2, jb, ep, dr, wt, si, ak⟩ 2 job = false) := by
      show _ = _
      simp [mayB]
    go_enter Try.func55, Try.ntmps55
    go_wp2_with fail
    go_ret
    exact ⟨ret_bool HV.out.symm, (Below.refl _ _).alloc (Nat.le_refl _) _⟩
  by_cases s3 : st = 3
  case pos =>
    subst s3
    have HV : Hid (mayB ⟨3, jb, ep, dr, wt, si, ak⟩ 2 job = false) := by
      show _ = _
      simp [mayB]
    go_enter Try.func55, Try.ntmps55
    go_wp2_with fail
    go_ret
    exact ⟨ret_bool HV.out.symm, (Below.refl _ _).alloc (Nat.le_refl _) _⟩
  by_cases s4 : st = 4
  case pos =>
    subst s4
    have HV : Hid (mayB ⟨4, jb, ep, dr, wt, si, ak⟩ 2 job = false) := by
      show _ = _
      simp [mayB]
    go_enter Try.func55, Try.ntmps55
    go_wp2_with fail
    go_ret
    exact ⟨ret_bool HV.out.symm, (Below.refl _ _).alloc (Nat.le_refl _) _⟩
  have z0 : (st == 0) = false := by simpa using s0
  have y0 : (st != 0) = true := by simpa using s0
  have z1 : (st == 1) = false := by simpa using s1
  have y1 : (st != 1) = true := by simpa using s1
  have z2 : (st == 2) = false := by simpa using s2
  have y2 : (st != 2) = true := by simpa using s2
  have z3 : (st == 3) = false := by simpa using s3
  have y3 : (st != 3) = true := by simpa using s3
  have z4 : (st == 4) = false := by simpa using s4
  have y4 : (st != 4) = true := by simpa using s4
  clear s0 s1 s2 s3 s4
  have HV : Hid (mayB ⟨st, jb, ep, dr, wt, si, ak⟩ 2 job = false) := by
    show _ = _
    simp [mayB, z0, z1, z2, z3, z4, y0, y1, y2, y3, y4]
  go_enter Try.func55, Try.ntmps55
  go_wp2_with fail
  go_ret
  exact ⟨ret_bool HV.out.symm, (Below.refl _ _).alloc (Nat.le_refl _) _⟩
set_option maxHeartbeats 2000000 in
set_option maxRecDepth 100000 in
theorem may_3 (x : Nd) (job : Int) (w : World) : MayC x 3 job w := by
  obtain ⟨st, jb, ep, dr, wt, si, ak⟩ := x
  unfold MayC
  simp only
  by_cases s0 : st = 0
  case pos =>
    subst s0
    have HV : Hid (mayB ⟨0, jb, ep, dr, wt, si, ak⟩ 3 job = false) := by
      show _ = _
      simp [mayB]
    go_enter Try.func55, Try.ntmps55
    go_wp2_with fail
    go_ret
    exact ⟨ret_bool HV.out.symm, (Below.refl _ _).alloc (Nat.le_refl _) _⟩
  by_cases s1 : st = 1
  case pos =>
    subst s1
    have HV : Hid (mayB ⟨1, jb, ep, dr, wt, si, ak⟩ 3 job = false) := by
      show _ = _
      simp [mayB]
    go_enter Try.func55, Try.ntmps55
    go_wp2_with fail
    go_ret
    exact ⟨ret_bool HV.out.symm, (Below.refl _ _).alloc (Nat.le_refl _) _⟩
  by_cases s2 : st = 2
  case pos =>
    subst s2
    have HV : Hid (mayB ⟨2, jb, ep, dr, wt, si, ak⟩ 3 job = true) := by
      show _ = _
      simp [mayB]
    go_enter Try.func55, Try.ntmps55
    go_wp2_with fail
    go_ret
    exact ⟨ret_bool HV.out.symm, (Below.refl _ _).alloc (Nat.le_refl _) _⟩
  by_cases s3 : st = 3
  case pos =>
    subst s3
    have HV : Hid (mayB ⟨3, jb, ep, dr, wt, si, ak⟩ 3 job = false) := by
      show _ = _
      simp [mayB]
    go_enter Try.func55, Try.ntmps55
    go_wp2_with fail
    go_ret
    exact ⟨ret_bool HV.out.symm, (Below.refl _ _).alloc (Nat.le_refl _) _⟩
  by_cases s4 : st = 4
  case pos =>
    subst s4
    have HV : Hid (mayB ⟨4, jb, ep, dr, wt, si, ak⟩ 3 job = false) := by
      show _ = _
      simp [mayB]
    go_enter Try.func55, Try.ntmps55
    go_wp2_with fail
    go_ret
    exact ⟨ret_bool HV.out.symm, (Below.refl _ _).alloc (Nat.le_refl _) _⟩
  have z0 : (st == 0) = false := by simpa using s0
  have y0 : (st != 0) = true := by simpa using s0
  have z1 : (st == 1) = false := by simpa using s1
  have y1 : (st != 1) = true := by simpa using s1
  have z2 : (st == 2) = false := by simpa using s2
  have y2 : (st != 2) = true := by simpa using s2
  have z3 : (st == 3) = false := by simpa using s3
  have y3 : (st != 3) = true := by simpa using s3
  have z4 : (st == 4) = false := by simpa using s4
  have y4 : (st != 4) = true := by simpa using s4
  clear s0 s1 s2 s3 s4
  have HV : Hid (mayB ⟨st, jb, ep, dr, wt, si, ak⟩ 3 job = false) := by
    show _ = _
    simp [mayB, z0, z1, z2, z3, z4, y0, y1, y2, y3, y4]
  go_enter Try.func55, Try.ntmps55
  go_wp2_with fail
  go_ret
  exact ⟨ret_bool HV.out.symm, (Below.refl _ _).alloc (Nat.le_refl _) _⟩
set_option maxHeartbeats 2000000 in
set_option maxRecDepth 100000 in
theorem may_4 (x : Nd) (job : Int) (w : World) : MayC x 4 job w := by
  obtain ⟨st, jb, ep, dr, wt, si, ak⟩ := x
  unfold MayC
  simp only
  by_cases s0 : st = 0
  case pos =>
    subst s0
    have HV : Hid (mayB ⟨0, jb, ep, dr, wt, si, ak⟩ 4 job = false) := by
      show _ = _
      simp [mayB]
    go_enter Try.func55, Try.ntmps55
    go_wp2_with fail
    go_ret
    exact ⟨ret_bool HV.out.symm, (Below.refl _ _).alloc (Nat.le_refl _) _⟩
  by_cases s1 : st = 1
  case pos =>
    subst s1
    have HV : Hid (mayB ⟨1, jb, ep, dr, wt, si, ak⟩ 4 job = true) := by
      show _ = _
      simp [mayB]
    go_enter Try.func55, Try.ntmps55
    go_wp2_with fail
    go_ret
    exact ⟨ret_bool HV.out.symm, (Below.refl _ _).alloc (Nat.le_refl _) _⟩
  by_cases s2 : st = 2
  case pos =>
    subst s2
    have HV : Hid (mayB ⟨2, jb, ep, dr, wt, si, ak⟩ 4 job = true) := by
      show _ = _
      simp [mayB]
    go_enter Try.func55, Try.ntmps55
    go_wp2_with fail
    go_ret
    exact ⟨ret_bool HV.out.symm, (Below.refl _ _).alloc (Nat.le_refl _) _⟩
  by_cases s3 : st = 3
  case pos =>
    subst s3
    have HV : Hid (mayB ⟨3, jb, ep, dr, wt, si, ak⟩ 4 job = false) := by
      show _ = _
      simp [mayB]
    go_enter Try.func55, Try.ntmps55
    go_wp2_with fail
    go_ret
    exact ⟨ret_bool HV.out.symm, (Below.refl _ _).alloc (Nat.le_refl _) _⟩
  by_cases s4 : st = 4
  case pos =>
    subst s4
    have HV : Hid (mayB ⟨4, jb, ep, dr, wt, si, ak⟩ 4 job = false) := by
      show _ = _
      simp [mayB]
    go_enter Try.func55, Try.ntmps55
    go_wp2_with fail
    go_ret
    exact ⟨ret_bool HV.out.symm, (Below.refl _ _).alloc (Nat.le_refl _) _⟩
  have z0 : (st == 0) = false := by simpa using s0
  have y0 : (st != 0) = true := by simpa using s0
  have z1 : (st == 1) = false := by simpa using s1
  have y1 : (st != 1) = true := by simpa using s1
  have z2 : (st == 2) = false := by simpa using s2
  have y2 : (st != 2) = true := by simpa using s2
  have z3 : (st == 3) = false := by simpa using s3
  have y3 : (st != 3) = true := by simpa using s3
  have z4 : (st == 4) = false := by simpa using s4
  have y4 : (st != 4) = true := by simpa using s4
  clear s0 s1 s2 s3 s4
  have HV : Hid (mayB ⟨st, jb, ep, dr, wt, si, ak⟩ 4 job = false) := by
    show _ = _
    simp [mayB, z0, z1, z2, z3, z4, y0, y1, y2, y3, y4]
  go_enter Try.func55, Try.ntmps55
  go_wp2_with fail
  go_ret
  exact ⟨ret_bool HV.out.symm, (Below.refl _ _).alloc (Nat.le_refl _) _⟩
set_option maxHeartbeats 2000000 in
set_option maxRecDepth 100000 in
theorem may_5 (x : Nd) (job : Int) (w : World) : MayC x 5 job w := by
  obtain ⟨st, jb, ep, dr, wt, si, ak⟩ := x
  unfold MayC
  simp only
  by_cases s0 : st = 0
  case pos =>
    subst s0
    have HV : Hid (mayB ⟨0, jb, ep, dr, wt, si, ak⟩ 5 job = false) := by
      show _ = _
      simp [mayB]
    go_enter Try.func55, Try.ntmps55
    go_wp2_with fail
    go_ret
    exact ⟨ret_bool HV.out.symm, (Below.refl _ _).alloc (Nat.le_refl _) _⟩
  by_cases s1 : st = 1
  case pos =>
    subst s1
    by_cases hw : wt = 0
    case pos =>
      have w1 : (wt == 0) = true := by simp [hw]
      have HV : Hid (mayB ⟨1, jb, ep, dr, wt, si, ak⟩ 5 job = true) := by
        show _ = _
        simp [mayB, w1, hw]
      clear hw
      go_enter Try.func55, Try.ntmps55
      go_wp2_with fail
      go_ret
      exact ⟨ret_bool HV.out.symm, (Below.refl _ _).alloc (Nat.le_refl _) _⟩
    case neg =>
      have w1 : (wt == 0) = false := by simpa using hw
      have HV : Hid (mayB ⟨1, jb, ep, dr, wt, si, ak⟩ 5 job = false) := by
        show _ = _
        simp [mayB, w1, hw]
      clear hw
      go_enter Try.func55, Try.ntmps55
      go_wp2_with fail
      go_ret
      exact ⟨ret_bool HV.out.symm, (Below.refl _ _).alloc (Nat.le_refl _) _⟩
  by_cases s2 : st = 2
  case pos =>
    subst s2
    have HV : Hid (mayB ⟨2, jb, ep, dr, wt, si, ak⟩ 5 job = false) := by
      show _ = _
      simp [mayB]
    go_enter Try.func55, Try.ntmps55
    go_wp2_with fail
    go_ret
    exact ⟨ret_bool HV.out.symm, (Below.refl _ _).alloc (Nat.le_refl _) _⟩
  by_cases s3 : st = 3
  case pos =>
    subst s3
    have HV : Hid (mayB ⟨3, jb, ep, dr, wt, si, ak⟩ 5 job = false) := by
      show _ = _
      simp [mayB]
    go_enter Try.func55, Try.ntmps55
    go_wp2_with fail
    go_ret
    exact ⟨ret_bool HV.out.symm, (Below.refl _ _).alloc (Nat.le_refl _) _⟩
  by_cases s4 : st = 4
  case pos =>
    subst s4
    have HV : Hid (mayB ⟨4, jb, ep, dr, wt, si, ak⟩ 5 job = false) := by
      show _ = _
      simp [mayB]
    go_enter Try.func55, Try.ntmps55
    go_wp2_with fail
    go_ret
    exact ⟨ret_bool HV.out.symm, (Below.refl _ _).alloc (Nat.le_refl _) _⟩
  have z0 : (st == 0) = false := by simpa using s0
  have y0 : (st != 0) = true := by simpa using s0
  have z1 : (st == 1) = false := by simpa using s1
  have y1 : (st != 1) = true := by simpa using s1
  have z2 : (st == 2) = false := by simpa using s2
  have y2 : (st != 2) = true := by simpa using s2
  have z3 : (st == 3) = false := by simpa using s3
  have y3 : (st != 3) = true := by simpa using s3
  have z4 : (st == 4) = false := by simpa using s4
  have y4 : (st != 4) = true := by simpa using s4
  clear s0 s1 s2 s3 s4
  have HV : Hid (mayB ⟨st, jb, ep, dr, wt, si, ak⟩ 5 job = false) := by
    show _ = _
    simp [mayB, z0, z1, z2, z3, z4, y0, y1, y2, y3, y4]
  go_enter Try.func55, Try.ntmps55
  go_wp2_with fail
  go_ret
  exact ⟨ret_bool HV.out.symm, (Below.refl _ _).alloc (Nat.le_refl _) _⟩
set_option maxHeartbeats 2000000 in
set_option maxRecDepth 100000 in
theorem may_6 (x : Nd) (job : Int) (w : World) : MayC x 6 job w := by
  obtain ⟨st, jb, ep, dr, wt, si, ak⟩ := x
  unfold MayC
  simp only
  by_cases s0 : st = 0
  case pos =>
    subst s0
    have HV : Hid (mayB ⟨0, jb, ep, dr, wt, si, ak⟩ 6 job = false) := by
      show _ = _
      simp [mayB]
    go_enter Try.func55, Try.ntmps55
    go_wp2_with fail
    go_ret
    exact ⟨ret_bool HV.out.symm, (Below.refl _ _).alloc (Nat.le_refl _) _⟩
  by_cases s1 : st = 1
  case pos =>
    subst s1
    by_cases hw : wt = 4
    case pos =>
      have w1 : (wt == 4) = true := by simp [hw]
      have HV : Hid (mayB ⟨1, jb, ep, dr, wt, si, ak⟩ 6 job = true) := by
        show _ = _
        simp [mayB, w1, hw]
      clear hw
      go_enter Try.func55, Try.ntmps55
      go_wp2_with fail
      go_ret
      exact ⟨ret_bool HV.out.symm, (Below.refl _ _).alloc (Nat.le_refl _) _⟩
    case neg =>
      have w1 : (wt == 4) = false := by simpa using hw
      have HV : Hid (mayB ⟨1, jb, ep, dr, wt, si, ak⟩ 6 job = false) := by
        show _ = _
        simp [mayB, w1, hw]
      clear hw
      go_enter Try.func55, Try.ntmps55
      go_wp2_with fail
      go_ret
      exact ⟨ret_bool HV.out.symm, (Below.refl _ _).alloc (Nat.le_refl _) _⟩
  by_cases s2 : st = 2
  case pos =>
    subst s2
    have HV : Hid (mayB ⟨2, jb, ep, dr, wt, si, ak⟩ 6 job = false) := by
      show _ = _
      simp [mayB]
    go_enter Try.func55, Try.ntmps55
    go_wp2_with fail
    go_ret
    exact ⟨ret_bool HV.out.symm, (Below.refl _ _).alloc (Nat.le_refl _) _⟩
  by_cases s3 : st = 3
  case pos =>
    subst s3
    have HV : Hid (mayB ⟨3, jb, ep, dr, wt, si, ak⟩ 6 job = false) := by
      show _ = _
      simp [mayB]
    go_enter Try.func55, Try.ntmps55
    go_wp2_with fail
    go_ret
    exact ⟨ret_bool HV.out.symm, (Below.refl _ _).alloc (Nat.le_refl _) _⟩
  by_cases s4 : st = 4
  case pos =>
    subst s4
    have HV : Hid (mayB ⟨4, jb, ep, dr, wt, si, ak⟩ 6 job = false) := by
      show _ = _
      simp [mayB]
    go_enter Try.func55, Try.ntmps55
    go_wp2_with fail
    go_ret
    exact ⟨ret_bool HV.out.symm, (Below.refl _ _).alloc (Nat.le_refl _) _⟩
  have z0 : (st == 0) = false := by simpa using s0
  have y0 : (st != 0) = true := by simpa using s0
  have z1 : (st == 1) = false := by simpa using s1
  have y1 : (st != 1) = true := by simpa using s1
  have z2 : (st == 2) = false := by simpa using s2
  have y2 : (st != 2) = true := by simpa using s2
  have z3 : (st == 3) = false := by simpa using s3
  have y3 : (st != 3) = true := by simpa using s3
  have z4 : (st == 4) = false := by simpa using s4
  have y4 : (st != 4) = true := by simpa using s4
  clear s0 s1 s2 s3 s4
  have HV : Hid (mayB ⟨st, jb, ep, dr, wt, si, ak⟩ 6 job = false) := by
    show _ = _
    simp [mayB, z0, z1, z2, z3, z4, y0, y1, y2, y3, y4]
  go_enter Try.func55, Try.ntmps55
  go_wp2_with fail
  go_ret
  exact ⟨ret_bool HV.out.symm, (Below.refl _ _).alloc (Nat.le_refl _) _⟩
set_option maxHeartbeats 2000000 in
set_option maxRecDepth 100000 in
theorem may_7 (x : Nd) (job : Int) (w : World) : MayC x 7 job w := by
  obtain ⟨st, jb, ep, dr, wt, si, ak⟩ := x
  unfold MayC
  simp only
  by_cases s0 : st = 0
  case pos =>
    subst s0
    have HV : Hid (mayB ⟨0, jb, ep, dr, wt, si, ak⟩ 7 job = false) := by
      show _ = _
      simp [mayB]
    go_enter Try.func55, Try.ntmps55
    go_wp2_with fail
    go_ret
    exact ⟨ret_bool HV.out.symm, (Below.refl _ _).alloc (Nat.le_refl _) _⟩
  by_cases s1 : st = 1
  case pos =>
    subst s1
    have HV : Hid (mayB ⟨1, jb, ep, dr, wt, si, ak⟩ 7 job = true) := by
      show _ = _
      simp [mayB]
    go_enter Try.func55, Try.ntmps55
    go_wp2_with fail
    go_ret
    exact ⟨ret_bool HV.out.symm, (Below.refl _ _).alloc (Nat.le_refl _) _⟩
  by_cases s2 : st = 2
  case pos =>
    subst s2
    have HV : Hid (mayB ⟨2, jb, ep, dr, wt, si, ak⟩ 7 job = true) := by
      show _ = _
      simp [mayB]
    go_enter Try.func55, Try.ntmps55
    go_wp2_with fail
    go_ret
    exact ⟨ret_bool HV.out.symm, (Below.refl _ _).alloc (Nat.le_refl _) _⟩
  by_cases s3 : st = 3
  case pos =>
    subst s3
    have HV : Hid (mayB ⟨3, jb, ep, dr, wt, si, ak⟩ 7 job = false) := by
      show _ = _
      simp [mayB]
    go_enter Try.func55, Try.ntmps55
    go_wp2_with fail
    go_ret
    exact ⟨ret_bool HV.out.symm, (Below.refl _ _).alloc (Nat.le_refl _) _⟩
  by_cases s4 : st = 4
  case pos =>
    subst s4
    have HV : Hid (mayB ⟨4, jb, ep, dr, wt, si, ak⟩ 7 job = false) := by
      show _ = _
      simp [mayB]
    go_enter Try.func55, Try.ntmps55
    go_wp2_with fail
    go_ret
    exact ⟨ret_bool HV.out.symm, (Below.refl _ _).alloc (Nat.le_refl _) _⟩
  have z0 : (st == 0) = false := by simpa using s0
  have y0 : (st != 0) = true := by simpa using s0
  have z1 : (st == 1) = false := by simpa using s1
  have y1 : (st != 1) = true := by simpa using s1
  have z2 : (st == 2) = false := by simpa using s2
  have y2 : (st != 2) = true := by simpa using s2
  have z3 : (st == 3) = false := by simpa using s3
  have y3 : (st != 3) = true := by simpa using s3
  have z4 : (st == 4) = false := by simpa using s4
  have y4 : (st != 4) = true := by simpa using s4
  clear s0 s1 s2 s3 s4
  have HV : Hid (mayB ⟨st, jb, ep, dr, wt, si, ak⟩ 7 job = false) := by
    show _ = _
    simp [mayB, z0, z1, z2, z3, z4, y0, y1, y2, y3, y4]
  go_enter Try.func55, Try.ntmps55
  go_wp2_with fail
  go_ret
  exact ⟨ret_bool HV.out.symm, (Below.refl _ _).alloc (Nat.le_refl _) _⟩
set_option maxHeartbeats 2000000 in
set_option maxRecDepth 100000 in
theorem may_8 (x : Nd) (job : Int) (w : World) : MayC x 8 job w := by
  obtain ⟨st, jb, ep, dr, wt, si, ak⟩ := x
  unfold MayC
  simp only
  by_cases s0 : st = 0
  case pos =>
    subst s0
    have HV : Hid (mayB ⟨0, jb, ep, dr, wt, si, ak⟩ 8 job = false) := by
      show _ = _
      simp [mayB]
    go_enter Try.func55, Try.ntmps55
    go_wp2_with fail
    go_ret
    exact ⟨ret_bool HV.out.symm, (Below.refl _ _).alloc (Nat.le_refl _) _⟩
  by_cases s1 : st = 1
  case pos =>
    subst s1
    have HV : Hid (mayB ⟨1, jb, ep, dr, wt, si, ak⟩ 8 job = false) := by
      show _ = _
      simp [mayB]
    go_enter Try.func55, Try.ntmps55
    go_wp2_with fail
    go_ret
    exact ⟨ret_bool HV.out.symm, (Below.refl _ _).alloc (Nat.le_refl _) _⟩
  by_cases s2 : st = 2
  case pos =>
    subst s2
    have HV : Hid (mayB ⟨2, jb, ep, dr, wt, si, ak⟩ 8 job = false) := by
      show _ = _
      simp [mayB]
    go_enter Try.func55, Try.ntmps55
    go_wp2_with fail
    go_ret
    exact ⟨ret_bool HV.out.symm, (Below.refl _ _).alloc (Nat.le_refl _) _⟩
  by_cases s3 : st = 3
  case pos =>
    subst s3
    have HV : Hid (mayB ⟨3, jb, ep, dr, wt, si, ak⟩ 8 job = true) := by
      show _ = _
      simp [mayB]
    go_enter Try.func55, Try.ntmps55
    go_wp2_with fail
    go_ret
    exact ⟨ret_bool HV.out.symm, (Below.refl _ _).alloc (Nat.le_refl _) _⟩
  by_cases s4 : st = 4
  case pos =>
    subst s4
    have HV : Hid (mayB ⟨4, jb, ep, dr, wt, si, ak⟩ 8 job = false) := by
      show _ = _
      simp [mayB]
    go_enter Try.func55, Try.ntmps55
    go_wp2_with fail
    go_ret
    exact ⟨ret_bool HV.out.symm, (Below.refl _ _).alloc (Nat.le_refl _) _⟩
  have z0 : (st == 0) = false := by simpa using s0
  have y0 : (st != 0) = true := by simpa using s0
  have z1 : (st == 1) = false := by simpa using s1
  have y1 : (st != 1) = true := by simpa using s1
  have z2 : (st == 2) = false := by simpa using s2
  have y2 : (st != 2) = true := by simpa using s2
  have z3 : (st == 3) = false := by simpa using s3
  have y3 : (st != 3) = true := by simpa using s3
  have z4 : (st == 4) = false := by simpa using s4
  have y4 : (st != 4) = true := by simpa using s4
  clear s0 s1 s2 s3 s4
  have HV : Hid (mayB ⟨st, jb, ep, dr, wt, si, ak⟩ 8 job = false) := by
    show _ = _
    simp [mayB, z0, z1, z2, z3, z4, y0, y1, y2, y3, y4]
  go_enter Try.func55, Try.ntmps55
  go_wp2_with fail
  go_ret
  exact ⟨ret_bool HV.out.symm, (Below.refl _ _).alloc (Nat.le_refl _) _⟩
set_option maxHeartbeats 2000000 in
set_option maxRecDepth 100000 in
theorem may_9 (x : Nd) (job : Int) (w : World) : MayC x 9 job w := by
  obtain ⟨st, jb, ep, dr, wt, si, ak⟩ := x
  unfold MayC
  simp only
  by_cases s0 : st = 0
  case pos =>
    subst s0
    by_cases hep : ep < 999999999
    case pos =>
      have HV : Hid (mayB ⟨0, jb, ep, dr, wt, si, ak⟩ 9 job = true) := by
        show _ = _
        simp [mayB, hep]
      go_enter Try.func55, Try.ntmps55
      go_wp2_with fail
      go_ret
      exact ⟨ret_bool HV.out.symm, (Below.refl _ _).alloc (Nat.le_refl _) _⟩
    case neg =>
      have hep' : 999999999 ≤ ep := by omega
      have HV : Hid (mayB ⟨0, jb, ep, dr, wt, si, ak⟩ 9 job = false) := by
        show _ = _
        simp [mayB, hep]
      go_enter Try.func55, Try.ntmps55
      go_wp2_with fail
      go_ret
      exact ⟨ret_bool HV.out.symm, (Below.refl _ _).alloc (Nat.le_refl _) _⟩
  by_cases s1 : st = 1
  case pos =>
    subst s1
    by_cases hep : ep < 999999999
    case pos =>
      have HV : Hid (mayB ⟨1, jb, ep, dr, wt, si, ak⟩ 9 job = true) := by
        show _ = _
        simp [mayB, hep]
      go_enter Try.func55, Try.ntmps55
      go_wp2_with fail
      go_ret
      exact ⟨ret_bool HV.out.symm, (Below.refl _ _).alloc (Nat.le_refl _) _⟩
    case neg =>
      have hep' : 999999999 ≤ ep := by omega
      have HV : Hid (mayB ⟨1, jb, ep, dr, wt, si, ak⟩ 9 job = false) := by
        show _ = _
        simp [mayB, hep]
      go_enter Try.func55, Try.ntmps55
      go_wp2_with fail
      go_ret
      exact ⟨ret_bool HV.out.symm, (Below.refl _ _).alloc (Nat.le_refl _) _⟩
  by_cases s2 : st = 2
  case pos =>
    subst s2
    by_cases hep : ep < 999999999
    case pos =>
      have HV : Hid (mayB ⟨2, jb, ep, dr, wt, si, ak⟩ 9 job = true) := by
        show _ = _
        simp [mayB, hep]
      go_enter Try.func55, Try.ntmps55
      go_wp2_with fail
      go_ret
      exact ⟨ret_bool HV.out.symm, (Below.refl _ _).alloc (Nat.le_refl _) _⟩
    case neg =>
      have hep' : 999999999 ≤ ep := by omega
      have HV : Hid (mayB ⟨2, jb, ep, dr, wt, si, ak⟩ 9 job = false) := by
        show _ = _
        simp [mayB, hep]
      go_enter Try.func55, Try.ntmps55
      go_wp2_with fail
      go_ret
      exact ⟨ret_bool HV.out.symm, (Below.refl _ _).alloc (Nat.le_refl _) _⟩
  by_cases s3 : st = 3
  case pos =>
    subst s3
    by_cases hep : ep < 999999999
    case pos =>
      have HV : Hid (mayB ⟨3, jb, ep, dr, wt, si, ak⟩ 9 job = true) := by
        show _ = _
        simp [mayB, hep]
      go_enter Try.func55, Try.ntmps55
      go_wp2_with fail
      go_ret
      exact ⟨ret_bool HV.out.symm, (Below.refl _ _).alloc (Nat.le_refl _) _⟩
    case neg =>
      have hep' : 999999999 ≤ ep := by omega
      have HV : Hid (mayB ⟨3, jb, ep, dr, wt, si, ak⟩ 9 job = false) := by
        show _ = _
        simp [mayB, hep]
      go_enter Try.func55, Try.ntmps55
      go_wp2_with fail
      go_ret
      exact ⟨ret_bool HV.out.symm, (Below.refl _ _).alloc (Nat.le_refl _) _⟩
  by_cases s4 : st = 4
  case pos =>
    subst s4
    have HV : Hid (mayB ⟨4, jb, ep, dr, wt, si, ak⟩ 9 job = false) := by
      show _ = _
      simp [mayB]
    go_enter Try.func55, Try.ntmps55
    go_wp2_with fail
    go_ret
    exact ⟨ret_bool HV.out.symm, (Below.refl _ _).alloc (Nat.le_refl _) _⟩
  have z0 : (st == 0) = false := by simpa using s0
  have y0 : (st != 0) = true := by simpa using s0
  have z1 : (st == 1) = false := by simpa using s1
  have y1 : (st != 1) = true := by simpa using s1
  have z2 : (st == 2) = false := by simpa using s2
  have y2 : (st != 2) = true := by simpa using s2
  have z3 : (st == 3) = false := by simpa using s3
  have y3 : (st != 3) = true := by simpa using s3
  have z4 : (st == 4) = false := by simpa using s4
  have y4 : (st != 4) = true := by simpa using s4
  clear s0 s1 s2 s3 s4
  by_cases hep : ep < 999999999
  case pos =>
    have HV : Hid (mayB ⟨st, jb, ep, dr, wt, si, ak⟩ 9 job = true) := by
      show _ = _
      simp [mayB, z0, z1, z2, z3, z4, y0, y1, y2, y3, y4, hep]
    go_enter Try.func55, Try.ntmps55
    go_wp2_with fail
    go_ret
    exact ⟨ret_bool HV.out.symm, (Below.refl _ _).alloc (Nat.le_refl _) _⟩
  case neg =>
    have hep' : 999999999 ≤ ep := by omega
    have HV : Hid (mayB ⟨st, jb, ep, dr, wt, si, ak⟩ 9 job = false) := by
      show _ = _
      simp [mayB, z0, z1, z2, z3, z4, y0, y1, y2, y3, y4, hep]
    go_enter Try.func55, Try.ntmps55
    go_wp2_with fail
    go_ret
    exact ⟨ret_bool HV.out.symm, (Below.refl _ _).alloc (Nat.le_refl _) _⟩
set_option maxHeartbeats 2000000 in
set_option maxRecDepth 100000 in
theorem may_10 (x : Nd) (job : Int) (w : World) : MayC x 10 job w := by
  obtain ⟨st, jb, ep, dr, wt, si, ak⟩ := x
  unfold MayC
  simp only
  by_cases s0 : st = 0
  case pos =>
    subst s0
    have HV : Hid (mayB ⟨0, jb, ep, dr, wt, si, ak⟩ 10 job = false) := by
      show _ = _
      simp [mayB]
    go_enter Try.func55, Try.ntmps55
    go_wp2_with fail
    go_ret
    exact ⟨ret_bool HV.out.symm, (Below.refl _ _).alloc (Nat.le_refl _) _⟩
  by_cases s1 : st = 1
  case pos =>
    subst s1
    have HV : Hid (mayB ⟨1, jb, ep, dr, wt, si, ak⟩ 10 job = false) := by
      show _ = _
      simp [mayB]
    go_enter Try.func55, Try.ntmps55
    go_wp2_with fail
    go_ret
    exact ⟨ret_bool HV.out.symm, (Below.refl _ _).alloc (Nat.le_refl _) _⟩
  by_cases s2 : st = 2
  case pos =>
    subst s2
    have HV : Hid (mayB ⟨2, jb, ep, dr, wt, si, ak⟩ 10 job = false) := by
      show _ = _
      simp [mayB]
    go_enter Try.func55, Try.ntmps55
    go_wp2_with fail
    go_ret
    exact ⟨ret_bool HV.out.symm, (Below.refl _ _).alloc (Nat.le_refl _) _⟩
  by_cases s3 : st = 3
  case pos =>
    subst s3
    have HV : Hid (mayB ⟨3, jb, ep, dr, wt, si, ak⟩ 10 job = false) := by
      show _ = _
      simp [mayB]
    go_enter Try.func55, Try.ntmps55
    go_wp2_with fail
    go_ret
    exact ⟨ret_bool HV.out.symm, (Below.refl _ _).alloc (Nat.le_refl _) _⟩
  by_cases s4 : st = 4
  case pos =>
    subst s4
    have HV : Hid (mayB ⟨4, jb, ep, dr, wt, si, ak⟩ 10 job = true) := by
      show _ = _
      simp [mayB]
    go_enter Try.func55, Try.ntmps55
    go_wp2_with fail
    go_ret
    exact ⟨ret_bool HV.out.symm, (Below.refl _ _).alloc (Nat.le_refl _) _⟩
  have z0 : (st == 0) = false := by simpa using s0
  have y0 : (st != 0) = true := by simpa using s0
  have z1 : (st == 1) = false := by simpa using s1
  have y1 : (st != 1) = true := by simpa using s1
  have z2 : (st == 2) = false := by simpa using s2
  have y2 : (st != 2) = true := by simpa using s2
  have z3 : (st == 3) = false := by simpa using s3
  have y3 : (st != 3) = true := by simpa using s3
  have z4 : (st == 4) = false := by simpa using s4
  have y4 : (st != 4) = true := by simpa using s4
  clear s0 s1 s2 s3 s4
  have HV : Hid (mayB ⟨st, jb, ep, dr, wt, si, ak⟩ 10 job = false) := by
    show _ = _
    simp [mayB, z0, z1, z2, z3, z4, y0, y1, y2, y3, y4]
  go_enter Try.func55, Try.ntmps55
  go_wp2_with fail
  go_ret
  exact ⟨ret_bool HV.out.symm, (Below.refl _ _).alloc (Nat.le_refl _) _⟩
set_option maxHeartbeats 2000000 in
set_option maxRecDepth 100000 in
theorem may_11 (x : Nd) (job : Int) (w : World) : MayC x 11 job w := by
  obtain ⟨st, jb, ep, dr, wt, si, ak⟩ := x
  unfold MayC
  simp only
  by_cases s0 : st = 0
  case pos =>
    subst s0
    have HV : Hid (mayB ⟨0, jb, ep, dr, wt, si, ak⟩ 11 job = false) := by
      show _ = _
      simp [mayB]
    go_enter Try.func55, Try.ntmps55
    go_wp2_with fail
    go_ret
    exact ⟨ret_bool HV.out.symm, (Below.refl _ _).alloc (Nat.le_refl _) _⟩
  by_cases s1 : st = 1
  case pos =>
    subst s1
    have HV : Hid (mayB ⟨1, jb, ep, dr, wt, si, ak⟩ 11 job = false) := by
      show _ = _
      simp [mayB]
    go_enter Try.func55, Try.ntmps55
    go_wp2_with fail
    go_ret
    exact ⟨ret_bool HV.out.symm, (Below.refl _ _).alloc (Nat.le_refl _) _⟩
  by_cases s2 : st = 2
  case pos =>
    subst s2
    have HV : Hid (mayB ⟨2, jb, ep, dr, wt, si, ak⟩ 11 job = false) := by
      show _ = _
      simp [mayB]
    go_enter Try.func55, Try.ntmps55
    go_wp2_with fail
    go_ret
    exact ⟨ret_bool HV.out.symm, (Below.refl _ _).alloc (Nat.le_refl _) _⟩
  by_cases s3 : st = 3
  case pos =>
    subst s3
    have HV : Hid (mayB ⟨3, jb, ep, dr, wt, si, ak⟩ 11 job = false) := by
      show _ = _
      simp [mayB]
    go_enter Try.func55, Try.ntmps55
    go_wp2_with fail
    go_ret
    exact ⟨ret_bool HV.out.symm, (Below.refl _ _).alloc (Nat.le_refl _) _⟩
  by_cases s4 : st = 4
  case pos =>
    subst s4
    by_cases hw : wt = 6
    case pos =>
      have w1 : (wt == 6) = true := by simp [hw]
      have HV : Hid (mayB ⟨4, jb, ep, dr, wt, si, ak⟩ 11 job = true) := by
        show _ = _
        simp [mayB, w1, hw]
      clear hw
      go_enter Try.func55, Try.ntmps55
      go_wp2_with fail
      go_ret
      exact ⟨ret_bool HV.out.symm, (Below.refl _ _).alloc (Nat.le_refl _) _⟩
    case neg =>
      have w1 : (wt == 6) = false := by simpa using hw
      have HV : Hid (mayB ⟨4, jb, ep, dr, wt, si, ak⟩ 11 job = false) := by
        show _ = _
        simp [mayB, w1, hw]
      clear hw
      go_enter Try.func55, Try.ntmps55
      go_wp2_with fail
      go_ret
      exact ⟨ret_bool HV.out.symm, (Below.refl _ _).alloc (Nat.le_refl _) _⟩
  have z0 : (st == 0) = false := by simpa using s0
  have y0 : (st != 0) = true := by simpa using s0
  have z1 : (st == 1) = false := by simpa using s1
  have y1 : (st != 1) = true := by simpa using s1
  have z2 : (st == 2) = false := by simpa using s2
  have y2 : (st != 2) = true := by simpa using s2
  have z3 : (st == 3) = false := by simpa using s3
  have y3 : (st != 3) = true := by simpa using s3
  have z4 : (st == 4) = false := by simpa using s4
  have y4 : (st != 4) = true := by simpa using s4
  clear s0 s1 s2 s3 s4
  have HV : Hid (mayB ⟨st, jb, ep, dr, wt, si, ak⟩ 11 job = false) := by
    show _ = _
    simp [mayB, z0, z1, z2, z3, z4, y0, y1, y2, y3, y4]
  go_enter Try.func55, Try.ntmps55
  go_wp2_with fail
  go_ret
  exact ⟨ret_bool HV.out.symm, (Below.refl _ _).alloc (Nat.le_refl _) _⟩
set_option maxHeartbeats 2000000 in
set_option maxRecDepth 100000 in
theorem may_12 (x : Nd) (job : Int) (w : World) : MayC x 12 job w := by
  obtain ⟨st, jb, ep, dr, wt, si, ak⟩ := x
  unfold MayC
  simp only
  by_cases s0 : st = 0
  case pos =>
    subst s0
    have HV : Hid (mayB ⟨0, jb, ep, dr, wt, si, ak⟩ 12 job = true) := by
      show _ = _
      simp [mayB]
    go_enter Try.func55, Try.ntmps55
    go_wp2_with fail
    go_ret
    exact ⟨ret_bool HV.out.symm, (Below.refl _ _).alloc (Nat.le_refl _) _⟩
  by_cases s1 : st = 1
  case pos =>
    subst s1
    have HV : Hid (mayB ⟨1, jb, ep, dr, wt, si, ak⟩ 12 job = true) := by
      show _ = _
      simp [mayB]
    go_enter Try.func55, Try.ntmps55
    go_wp2_with fail
    go_ret
    exact ⟨ret_bool HV.out.symm, (Below.refl _ _).alloc (Nat.le_refl _) _⟩
  by_cases s2 : st = 2
  case pos =>
    subst s2
    have HV : Hid (mayB ⟨2, jb, ep, dr, wt, si, ak⟩ 12 job = true) := by
      show _ = _
      simp [mayB]
    go_enter Try.func55, Try.ntmps55
    go_wp2_with fail
    go_ret
    exact ⟨ret_bool HV.out.symm, (Below.refl _ _).alloc (Nat.le_refl _) _⟩
  by_cases s3 : st = 3
  case pos =>
    subst s3
    have HV : Hid (mayB ⟨3, jb, ep, dr, wt, si, ak⟩ 12 job = true) := by
      show _ = _
      simp [mayB]
    go_enter Try.func55, Try.ntmps55
    go_wp2_with fail
    go_ret
    exact ⟨ret_bool HV.out.symm, (Below.refl _ _).alloc (Nat.le_refl _) _⟩
  by_cases s4 : st = 4
  case pos =>
    subst s4
    have HV : Hid (mayB ⟨4, jb, ep, dr, wt, si, ak⟩ 12 job = false) := by
      show _ = _
      simp [mayB]
    go_enter Try.func55, Try.ntmps55
    go_wp2_with fail
    go_ret
    exact ⟨ret_bool HV.out.symm, (Below.refl _ _).alloc (Nat.le_refl _) _⟩
  have z0 : (st == 0) = false := by simpa using s0
  have y0 : (st != 0) = true := by simpa using s0
  have z1 : (st == 1) = false := by simpa using s1
  have y1 : (st != 1) = true := by simpa using s1
  have z2 : (st == 2) = false := by simpa using s2
  have y2 : (st != 2) = true := by simpa using s2
  have z3 : (st == 3) = false := by simpa using s3
  have y3 : (st != 3) = true := by simpa using s3
  have z4 : (st == 4) = false := by simpa using s4
  have y4 : (st != 4) = true := by simpa using s4
  clear s0 s1 s2 s3 s4
  have HV : Hid (mayB ⟨st, jb, ep, dr, wt, si, ak⟩ 12 job = true) := by
    show _ = _
    simp [mayB, z0, z1, z2, z3, z4, y0, y1, y2, y3, y4]
  go_enter Try.func55, Try.ntmps55
  go_wp2_with fail
  go_ret
  exact ⟨ret_bool HV.out.symm, (Below.refl _ _).alloc (Nat.le_refl _) _⟩
set_option maxHeartbeats 2000000 in
set_option maxRecDepth 100000 in
theorem may_13 (x : Nd) (job : Int) (w : World) : MayC x 13 job w := by
  obtain ⟨st, jb, ep, dr, wt, si, ak⟩ := x
  unfold MayC
  simp only
  by_cases s0 : st = 0
  case pos =>
    subst s0
    have HV : Hid (mayB ⟨0, jb, ep, dr, wt, si, ak⟩ 13 job = true) := by
      show _ = _
      simp [mayB]
    go_enter Try.func55, Try.ntmps55
    go_wp2_with fail
    go_ret
    exact ⟨ret_bool HV.out.symm, (Below.refl _ _).alloc (Nat.le_refl _) _⟩
  by_cases s1 : st = 1
  case pos =>
    subst s1
    have HV : Hid (mayB ⟨1, jb, ep, dr, wt, si, ak⟩ 13 job = true) := by
      show _ = _
      simp [mayB]
    go_enter Try.func55, Try.ntmps55
    go_wp2_with fail
    go_ret
    exact ⟨ret_bool HV.out.symm, (Below.refl _ _).alloc (Nat.le_refl _) _⟩
  by_cases s2 : st = 2
  case pos =>
    subst s2
    have HV : Hid (mayB ⟨2, jb, ep, dr, wt, si, ak⟩ 13 job = true) := by
      show _ = _
      simp [mayB]
    go_enter Try.func55, Try.ntmps55
    go_wp2_with fail
    go_ret
    exact ⟨ret_bool HV.out.symm, (Below.refl _ _).alloc (Nat.le_refl _) _⟩
  by_cases s3 : st = 3
  case pos =>
    subst s3
    have HV : Hid (mayB ⟨3, jb, ep, dr, wt, si, ak⟩ 13 job = true) := by
      show _ = _
      simp [mayB]
    go_enter Try.func55, Try.ntmps55
    go_wp2_with fail
    go_ret
    exact ⟨ret_bool HV.out.symm, (Below.refl _ _).alloc (Nat.le_refl _) _⟩
  by_cases s4 : st = 4
  case pos =>
    subst s4
    have HV : Hid (mayB ⟨4, jb, ep, dr, wt, si, ak⟩ 13 job = false) := by
      show _ = _
      simp [mayB]
    go_enter Try.func55, Try.ntmps55
    go_wp2_with fail
    go_ret
    exact ⟨ret_bool HV.out.symm, (Below.refl _ _).alloc (Nat.le_refl _) _⟩
  have z0 : (st == 0) = false := by simpa using s0
  have y0 : (st != 0) = true := by simpa using s0
  have z1 : (st == 1) = false := by simpa using s1
  have y1 : (st != 1) = true := by simpa using s1
  have z2 : (st == 2) = false := by simpa using s2
  have y2 : (st != 2) = true := by simpa using s2
  have z3 : (st == 3) = false := by simpa using s3
  have y3 : (st != 3) = true := by simpa using s3
  have z4 : (st == 4) = false := by simpa using s4
  have y4 : (st != 4) = true := by simpa using s4
  clear s0 s1 s2 s3 s4
  have HV : Hid (mayB ⟨st, jb, ep, dr, wt, si, ak⟩ 13 job = true) := by
    show _ = _
    simp [mayB, z0, z1, z2, z3, z4, y0, y1, y2, y3, y4]
  go_enter Try.func55, Try.ntmps55
  go_wp2_with fail
  go_ret
  exact ⟨ret_bool HV.out.symm, (Below.refl _ _).alloc (Nat.le_refl _) _⟩
set_option maxHeartbeats 2000000 in
set_option maxRecDepth 100000 in
theorem may_o (x : Nd) (act job : Int) (w : World) (a1 : act ≠ 1) (a2 : act ≠ 2) (a3 : act ≠ 3) (a4 : act ≠ 4) (a5 : act ≠ 5) (a6 : act ≠ 6) (a7 : act ≠ 7) (a8 : act ≠ 8) (a9 : act ≠ 9) (a10 : act ≠ 10) (a11 : act ≠ 11) (a12 : act ≠ 12) (a13 : act ≠ 13) : MayC x act job w := by
  obtain ⟨st, jb, ep, dr, wt, si, ak⟩ := x
  unfold MayC
  simp only
  have b1 : (act == 1) = false := by simpa using a1
  have b2 : (act == 2) = false := by simpa using a2
  have b3 : (act == 3) = false := by simpa using a3
  have b4 : (act == 4) = false := by simpa using a4
  have b5 : (act == 5) = false := by simpa using a5
  have b6 : (act == 6) = false := by simpa using a6
  have b7 : (act == 7) = false := by simpa using a7
  have b8 : (act == 8) = false := by simpa using a8
  have b9 : (act == 9) = false := by simpa using a9
  have b10 : (act == 10) = false := by simpa using a10
  have b11 : (act == 11) = false := by simpa using a11
  have b12 : (act == 12) = false := by simpa using a12
  have b13 : (act == 13) = false := by simpa using a13
  have HM : Hid (∀ s, mayB ⟨s, jb, ep, dr, wt, si, ak⟩ act job = false) := by
    show ∀ s, _
    intro s
    simp [mayB, a1, a2, a3, a4, a5, a6, a7, a8, a9, a10, a11, a12, a13]
  clear a1 a2 a3 a4 a5 a6 a7 a8 a9 a10 a11 a12 a13
  by_cases s0 : st = 0
  case pos =>
    subst s0
    have HV := Lib.hid (HM.out 0)
    go_enter Try.func55, Try.ntmps55
    go_wp2_with fail
    go_ret
    exact ⟨ret_bool HV.out.symm, (Below.refl _ _).alloc (Nat.le_refl _) _⟩
  by_cases s1 : st = 1
  case pos =>
    subst s1
    have HV := Lib.hid (HM.out 1)
    go_enter Try.func55, Try.ntmps55
    go_wp2_with fail
    go_ret
    exact ⟨ret_bool HV.out.symm, (Below.refl _ _).alloc (Nat.le_refl _) _⟩
  by_cases s2 : st = 2
  case pos =>
    subst s2
    have HV := Lib.hid (HM.out 2)
    go_enter Try.func55, Try.ntmps55
    go_wp2_with fail
    go_ret
    exact ⟨ret_bool HV.out.symm, (Below.refl _ _).alloc (Nat.le_refl _) _⟩
  by_cases s3 : st = 3
  case pos =>
    subst s3
    have HV := Lib.hid (HM.out 3)
    go_enter Try.func55, Try.ntmps55
    go_wp2_with fail
    go_ret
    exact ⟨ret_bool HV.out.symm, (Below.refl _ _).alloc (Nat.le_refl _) _⟩
  by_cases s4 : st = 4
  case pos =>
    subst s4
    have HV := Lib.hid (HM.out 4)
    go_enter Try.func55, Try.ntmps55
    go_wp2_with fail
    go_ret
    exact ⟨ret_bool HV.out.symm, (Below.refl _ _).alloc (Nat.le_refl _) _⟩
  have z0 : (st == 0) = false := by simpa using s0
  have y0 : (st != 0) = true := by simpa using s0
  have z1 : (st == 1) = false := by simpa using s1
  have y1 : (st != 1) = true := by simpa using s1
  have z2 : (st == 2) = false := by simpa using s2
  have y2 : (st != 2) = true := by simpa using s2
  have z3 : (st == 3) = false := by simpa using s3
  have y3 : (st != 3) = true := by simpa using s3
  have z4 : (st == 4) = false := by simpa using s4
  have y4 : (st != 4) = true := by simpa using s4
  have HV := Lib.hid (HM.out st)
  clear s0 s1 s2 s3 s4
  go_enter Try.func55, Try.ntmps55
  go_wp2_with fail
  go_ret
  exact ⟨ret_bool HV.out.symm, (Below.refl _ _).alloc (Nat.le_refl _) _⟩
theorem may_any (x : Nd) (act job : Int) (w : World) : MayC x act job w := by
  by_cases a1 : act = 1
  · subst a1; exact may_1 x job w
  by_cases a2 : act = 2
  · subst a2; exact may_2 x job w
  by_cases a3 : act = 3
  · subst a3; exact may_3 x job w
  by_cases a4 : act = 4
  · subst a4; exact may_4 x job w
  by_cases a5 : act = 5
  · subst a5; exact may_5 x job w
  by_cases a6 : act = 6
  · subst a6; exact may_6 x job w
  by_cases a7 : act = 7
  · subst a7; exact may_7 x job w
  by_cases a8 : act = 8
  · subst a8; exact may_8 x job w
  by_cases a9 : act = 9
  · subst a9; exact may_9 x job w
  by_cases a10 : act = 10
  · subst a10; exact may_10 x job w
  by_cases a11 : act = 11
  · subst a11; exact may_11 x job w
  by_cases a12 : act = 12
  · subst a12; exact may_12 x job w
  by_cases a13 : act = 13
  · subst a13; exact may_13 x job w
  exact may_o x act job w a1 a2 a3 a4 a5 a6 a7 a8 a9 a10 a11 a12 a13
end Go.Proofs.Ytdamocjbkdknaaa.FleetW
