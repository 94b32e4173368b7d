/-
  Contract of musterref12.One, some acts.
-/
import Derived.Test.YtdamocjbkdknaaaFleetOneA
namespace Go.Proofs.Ytdamocjbkdknaaa.FleetW
open Go.RowKit Mem Fleet
set_option linter.unusedVariables false
set_option linter.unusedSimpArgs false
set_option linter.unnecessarySimpa false

set_option maxHeartbeats 4000000 in
set_option maxRecDepth 100000 in
theorem one_1 (x : Nd) (job now : Int) (w : World) (he : x.ep ≤ 999999999) (he' : 0 ≤ x.ep) : OneC x 1 job now w := by
  obtain ⟨st, jb, ep, dr, wt, si, ak⟩ := x
  unfold OneC
  simp only at *
  by_cases s0 : st = 0
  case pos =>
    subst s0
    cases dr
    case false =>
      by_cases hep : ep < 999999999
      case pos =>
        by_cases hjob1 : 1 ≤ job
        case pos =>
          by_cases hjob2 : job ≤ 99999
          case pos =>
            have HV : Hid (mayB ⟨0, jb, ep, false, wt, si, ak⟩ 1 job = true) := by
              show _ = _
              simp [mayB, hep, hjob1, hjob2]
            go_enter Try.func58, Try.ntmps58
            go_wp2_with fail
            refine bodyPost_ret (v := .tuple #[.agg #[.int .i64 1, .int .i64 job, .int .i64 (ep + 1), .bool false, .int .i64 1, .int .i64 now, .int .i64 now], .bool true]) (by simp [results, Try.results58, go_sem]) rfl ⟨⟨1, job, ep + 1, false, 1, now, now⟩, by rw [HV.out], (fun _ _ => by simp [doneN, sendN]), ?_⟩
            exact (((Below.refl _ _).alloc (Nat.le_refl _) _).alloc (by simp) _).alloc (by simp <;> omega) _
          case neg =>
            have hjob2' : 99999 < job := by omega
            have HV : Hid (mayB ⟨0, jb, ep, false, wt, si, ak⟩ 1 job = false) := by
              show _ = _
              simp [mayB, hep, hjob1, hjob2]
            go_enter Try.func58, Try.ntmps58
            go_wp2_with fail
            refine bodyPost_ret (v := .tuple #[.agg #[.int .i64 1, .int .i64 job, .int .i64 (ep + 1), .bool false, .int .i64 1, .int .i64 now, .int .i64 now], .bool false]) (by simp [results, Try.results58, go_sem]) rfl ⟨⟨1, job, ep + 1, false, 1, now, now⟩, by rw [HV.out], (fun _ h => by rw [HV.out] at h; cases h), ?_⟩
            exact (((Below.refl _ _).alloc (Nat.le_refl _) _).alloc (by simp) _).alloc (by simp <;> omega) _
        case neg =>
          have hjob1' : job < 1 := by omega
          have HV : Hid (mayB ⟨0, jb, ep, false, wt, si, ak⟩ 1 job = false) := by
            show _ = _
            simp [mayB, hep, hjob1]
          go_enter Try.func58, Try.ntmps58
          go_wp2_with fail
          refine bodyPost_ret (v := .tuple #[.agg #[.int .i64 1, .int .i64 job, .int .i64 (ep + 1), .bool false, .int .i64 1, .int .i64 now, .int .i64 now], .bool false]) (by simp [results, Try.results58, go_sem]) rfl ⟨⟨1, job, ep + 1, false, 1, now, now⟩, by rw [HV.out], (fun _ h => by rw [HV.out] at h; cases h), ?_⟩
          exact (((Below.refl _ _).alloc (Nat.le_refl _) _).alloc (by simp) _).alloc (by simp <;> omega) _
      case neg =>
        have hep' : 999999999 ≤ ep := by omega
        have HV : Hid (mayB ⟨0, jb, ep, false, wt, si, ak⟩ 1 job = false) := by
          show _ = _
          simp [mayB, hep]
        go_enter Try.func58, Try.ntmps58
        go_wp2_with fail
        refine bodyPost_ret (v := .tuple #[.agg #[.int .i64 1, .int .i64 job, .int .i64 (ep + 1), .bool false, .int .i64 1, .int .i64 now, .int .i64 now], .bool false]) (by simp [results, Try.results58, go_sem]) rfl ⟨⟨1, job, ep + 1, false, 1, now, now⟩, by rw [HV.out], (fun _ h => by rw [HV.out] at h; cases h), ?_⟩
        exact (((Below.refl _ _).alloc (Nat.le_refl _) _).alloc (by simp) _).alloc (by simp <;> omega) _
    case true =>
      have HV : Hid (mayB ⟨0, jb, ep, true, wt, si, ak⟩ 1 job = false) := by
        show _ = _
        simp [mayB]
      go_enter Try.func58, Try.ntmps58
      go_wp2_with fail
      refine bodyPost_ret (v := .tuple #[.agg #[.int .i64 1, .int .i64 job, .int .i64 (ep + 1), .bool true, .int .i64 1, .int .i64 now, .int .i64 now], .bool false]) (by simp [results, Try.results58, go_sem]) rfl ⟨⟨1, job, ep + 1, true, 1, now, now⟩, by rw [HV.out], (fun _ h => by rw [HV.out] at h; cases h), ?_⟩
      exact (((Below.refl _ _).alloc (Nat.le_refl _) _).alloc (by simp) _).alloc (by simp <;> omega) _
  by_cases s1 : st = 1
  case pos =>
    subst s1
    have HV : Hid (mayB ⟨1, jb, ep, dr, wt, si, ak⟩ 1 job = false) := by
      show _ = _
      simp [mayB]
    go_enter Try.func58, Try.ntmps58
    go_wp2_with fail
    refine bodyPost_ret (v := .tuple #[.agg #[.int .i64 1, .int .i64 job, .int .i64 (ep + 1), .bool dr, .int .i64 1, .int .i64 now, .int .i64 now], .bool false]) (by simp [results, Try.results58, go_sem]) rfl ⟨⟨1, job, ep + 1, dr, 1, now, now⟩, by rw [HV.out], (fun _ h => by rw [HV.out] at h; cases h), ?_⟩
    exact (((Below.refl _ _).alloc (Nat.le_refl _) _).alloc (by simp) _).alloc (by simp <;> omega) _
  by_cases s2 : st = 2
  case pos =>
    subst s2
    have HV : Hid (mayB ⟨2, jb, ep, dr, wt, si, ak⟩ 1 job = false) := by
      show _ = _
      simp [mayB]
    go_enter Try.func58, Try.ntmps58
    go_wp2_with fail
    refine bodyPost_ret (v := .tuple #[.agg #[.int .i64 1, .int .i64 job, .int .i64 (ep + 1), .bool dr, .int .i64 1, .int .i64 now, .int .i64 now], .bool false]) (by simp [results, Try.results58, go_sem]) rfl ⟨⟨1, job, ep + 1, dr, 1, now, now⟩, by rw [HV.out], (fun _ h => by rw [HV.out] at h; cases h), ?_⟩
    exact (((Below.refl _ _).alloc (Nat.le_refl _) _).alloc (by simp) _).alloc (by simp <;> omega) _
  by_cases s3 : st = 3
  case pos =>
    subst s3
    have HV : Hid (mayB ⟨3, jb, ep, dr, wt, si, ak⟩ 1 job = false) := by
      show _ = _
      simp [mayB]
    go_enter Try.func58, Try.ntmps58
    go_wp2_with fail
    refine bodyPost_ret (v := .tuple #[.agg #[.int .i64 1, .int .i64 job, .int .i64 (ep + 1), .bool dr, .int .i64 1, .int .i64 now, .int .i64 now], .bool false]) (by simp [results, Try.results58, go_sem]) rfl ⟨⟨1, job, ep + 1, dr, 1, now, now⟩, by rw [HV.out], (fun _ h => by rw [HV.out] at h; cases h), ?_⟩
    exact (((Below.refl _ _).alloc (Nat.le_refl _) _).alloc (by simp) _).alloc (by simp <;> omega) _
  by_cases s4 : st = 4
  case pos =>
    subst s4
    have HV : Hid (mayB ⟨4, jb, ep, dr, wt, si, ak⟩ 1 job = false) := by
      show _ = _
      simp [mayB]
    go_enter Try.func58, Try.ntmps58
    go_wp2_with fail
    refine bodyPost_ret (v := .tuple #[.agg #[.int .i64 1, .int .i64 job, .int .i64 (ep + 1), .bool dr, .int .i64 1, .int .i64 now, .int .i64 now], .bool false]) (by simp [results, Try.results58, go_sem]) rfl ⟨⟨1, job, ep + 1, dr, 1, now, now⟩, by rw [HV.out], (fun _ h => by rw [HV.out] at h; cases h), ?_⟩
    exact (((Below.refl _ _).alloc (Nat.le_refl _) _).alloc (by simp) _).alloc (by simp <;> omega) _
  have z0 : (st == 0) = false := by simpa using s0
  have y0 : (st != 0) = true := by simpa using s0
  have z1 : (st == 1) = false := by simpa using s1
  have y1 : (st != 1) = true := by simpa using s1
  have z2 : (st == 2) = false := by simpa using s2
  have y2 : (st != 2) = true := by simpa using s2
  have z3 : (st == 3) = false := by simpa using s3
  have y3 : (st != 3) = true := by simpa using s3
  have z4 : (st == 4) = false := by simpa using s4
  have y4 : (st != 4) = true := by simpa using s4
  clear s0 s1 s2 s3 s4
  have HV : Hid (mayB ⟨st, jb, ep, dr, wt, si, ak⟩ 1 job = false) := by
    show _ = _
    simp [mayB, z0, z1, z2, z3, z4, y0, y1, y2, y3, y4]
  go_enter Try.func58, Try.ntmps58
  go_wp2_with fail
  refine bodyPost_ret (v := .tuple #[.agg #[.int .i64 1, .int .i64 job, .int .i64 (ep + 1), .bool dr, .int .i64 1, .int .i64 now, .int .i64 now], .bool false]) (by simp [results, Try.results58, go_sem]) rfl ⟨⟨1, job, ep + 1, dr, 1, now, now⟩, by rw [HV.out], (fun _ h => by rw [HV.out] at h; cases h), ?_⟩
  exact (((Below.refl _ _).alloc (Nat.le_refl _) _).alloc (by simp) _).alloc (by simp <;> omega) _
set_option maxHeartbeats 4000000 in
set_option maxRecDepth 100000 in
theorem one_2 (x : Nd) (job now : Int) (w : World) (he : x.ep ≤ 999999999) (he' : 0 ≤ x.ep) : OneC x 2 job now w := by
  obtain ⟨st, jb, ep, dr, wt, si, ak⟩ := x
  unfold OneC
  simp only at *
  by_cases s0 : st = 0
  case pos =>
    subst s0
    cases dr
    case false =>
      by_cases hep : ep < 999999999
      case pos =>
        by_cases hjob1 : 1 ≤ job
        case pos =>
          by_cases hjob2 : job ≤ 99999
          case pos =>
            have HV : Hid (mayB ⟨0, jb, ep, false, wt, si, ak⟩ 2 job = true) := by
              show _ = _
              simp [mayB, hep, hjob1, hjob2]
            go_enter Try.func58, Try.ntmps58
            go_wp2_with fail
            refine bodyPost_ret (v := .tuple #[.agg #[.int .i64 2, .int .i64 job, .int .i64 (ep + 1), .bool false, .int .i64 2, .int .i64 now, .int .i64 now], .bool true]) (by simp [results, Try.results58, go_sem]) rfl ⟨⟨2, job, ep + 1, false, 2, now, now⟩, by rw [HV.out], (fun _ _ => by simp [doneN, sendN]), ?_⟩
            exact (((Below.refl _ _).alloc (Nat.le_refl _) _).alloc (by simp) _).alloc (by simp <;> omega) _
          case neg =>
            have hjob2' : 99999 < job := by omega
            have HV : Hid (mayB ⟨0, jb, ep, false, wt, si, ak⟩ 2 job = false) := by
              show _ = _
              simp [mayB, hep, hjob1, hjob2]
            go_enter Try.func58, Try.ntmps58
            go_wp2_with fail
            refine bodyPost_ret (v := .tuple #[.agg #[.int .i64 2, .int .i64 job, .int .i64 (ep + 1), .bool false, .int .i64 2, .int .i64 now, .int .i64 now], .bool false]) (by simp [results, Try.results58, go_sem]) rfl ⟨⟨2, job, ep + 1, false, 2, now, now⟩, by rw [HV.out], (fun _ h => by rw [HV.out] at h; cases h), ?_⟩
            exact (((Below.refl _ _).alloc (Nat.le_refl _) _).alloc (by simp) _).alloc (by simp <;> omega) _
        case neg =>
          have hjob1' : job < 1 := by omega
          have HV : Hid (mayB ⟨0, jb, ep, false, wt, si, ak⟩ 2 job = false) := by
            show _ = _
            simp [mayB, hep, hjob1]
          go_enter Try.func58, Try.ntmps58
          go_wp2_with fail
          refine bodyPost_ret (v := .tuple #[.agg #[.int .i64 2, .int .i64 job, .int .i64 (ep + 1), .bool false, .int .i64 2, .int .i64 now, .int .i64 now], .bool false]) (by simp [results, Try.results58, go_sem]) rfl ⟨⟨2, job, ep + 1, false, 2, now, now⟩, by rw [HV.out], (fun _ h => by rw [HV.out] at h; cases h), ?_⟩
          exact (((Below.refl _ _).alloc (Nat.le_refl _) _).alloc (by simp) _).alloc (by simp <;> omega) _
      case neg =>
        have hep' : 999999999 ≤ ep := by omega
        have HV : Hid (mayB ⟨0, jb, ep, false, wt, si, ak⟩ 2 job = false) := by
          show _ = _
          simp [mayB, hep]
        go_enter Try.func58, Try.ntmps58
        go_wp2_with fail
        refine bodyPost_ret (v := .tuple #[.agg #[.int .i64 2, .int .i64 job, .int .i64 (ep + 1), .bool false, .int .i64 2, .int .i64 now, .int .i64 now], .bool false]) (by simp [results, Try.results58, go_sem]) rfl ⟨⟨2, job, ep + 1, false, 2, now, now⟩, by rw [HV.out], (fun _ h => by rw [HV.out] at h; cases h), ?_⟩
        exact (((Below.refl _ _).alloc (Nat.le_refl _) _).alloc (by simp) _).alloc (by simp <;> omega) _
    case true =>
      have HV : Hid (mayB ⟨0, jb, ep, true, wt, si, ak⟩ 2 job = false) := by
        show _ = _
        simp [mayB]
      go_enter Try.func58, Try.ntmps58
      go_wp2_with fail
      refine bodyPost_ret (v := .tuple #[.agg #[.int .i64 2, .int .i64 job, .int .i64 (ep + 1), .bool true, .int .i64 2, .int .i64 now, .int .i64 now], .bool false]) (by simp [results, Try.results58, go_sem]) rfl ⟨⟨2, job, ep + 1, true, 2, now, now⟩, by rw [HV.out], (fun _ h => by rw [HV.out] at h; cases h), ?_⟩
      exact (((Below.refl _ _).alloc (Nat.le_refl _) _).alloc (by simp) _).alloc (by simp <;> omega) _
  by_cases s1 : st = 1
  case pos =>
    subst s1
    have HV : Hid (mayB ⟨1, jb, ep, dr, wt, si, ak⟩ 2 job = false) := by
      show _ = _
      simp [mayB]
    go_enter Try.func58, Try.ntmps58
    go_wp2_with fail
    refine bodyPost_ret (v := .tuple #[.agg #[.int .i64 2, .int .i64 job, .int .i64 (ep + 1), .bool dr, .int .i64 2, .int .i64 now, .int .i64 now], .bool false]) (by simp [results, Try.results58, go_sem]) rfl ⟨⟨2, job, ep + 1, dr, 2, now, now⟩, by rw [HV.out], (fun _ h => by rw [HV.out] at h; cases h), ?_⟩
    exact (((Below.refl _ _).alloc (Nat.le_refl _) _).alloc (by simp) _).alloc (by simp <;> omega) _
  by_cases s2 : st = 2
  case pos =>
    subst s2
    have HV : Hid (mayB ⟨2, jb, ep, dr, wt, si, ak⟩ 2 job = false) := by
      show _ = _
      simp [mayB]
    go_enter Try.func58, Try.ntmps58
    go_wp2_with fail
    refine bodyPost_ret (v := .tuple #[.agg #[.int .i64 2, .int .i64 job, .int .i64 (ep + 1), .bool dr, .int .i64 2, .int .i64 now, .int .i64 now], .bool false]) (by simp [results, Try.results58, go_sem]) rfl ⟨⟨2, job, ep + 1, dr, 2, now, now⟩, by rw [HV.out], (fun _ h => by rw [HV.out] at h; cases h), ?_⟩
    exact (((Below.refl _ _).alloc (Nat.le_refl _) _).alloc (by simp) _).alloc (by simp <;> omega) _
  by_cases s3 : st = 3
  case pos =>
    subst s3
    have HV : Hid (mayB ⟨3, jb, ep, dr, wt, si, ak⟩ 2 job = false) := by
      show _ = _
      simp [mayB]
    go_enter Try.func58, Try.ntmps58
    go_wp2_with fail
    refine bodyPost_ret (v := .tuple #[.agg #[.int .i64 2, .int .i64 job, .int .i64 (ep + 1), .bool dr, .int .i64 2, .int .i64 now, .int .i64 now], .bool false]) (by simp [results, Try.results58, go_sem]) rfl ⟨⟨2, job, ep + 1, dr, 2, now, now⟩, by rw [HV.out], (fun _ h => by rw [HV.out] at h; cases h), ?_⟩
    exact (((Below.refl _ _).alloc (Nat.le_refl _) _).alloc (by simp) _).alloc (by simp <;> omega) _
  by_cases s4 : st = 4
  case pos =>
    subst s4
    have HV : Hid (mayB ⟨4, jb, ep, dr, wt, si, ak⟩ 2 job = false) := by
      show _ = _
      simp [mayB]
    go_enter Try.func58, Try.ntmps58
    go_wp2_with fail
    refine bodyPost_ret (v := .tuple #[.agg #[.int .i64 2, .int .i64 job, .int .i64 (ep + 1), .bool dr, .int .i64 2, .int .i64 now, .int .i64 now], .bool false]) (by simp [results, Try.results58, go_sem]) rfl ⟨⟨2, job, ep + 1, dr, 2, now, now⟩, by rw [HV.out], (fun _ h => by rw [HV.out] at h; cases h), ?_⟩
    exact (((Below.refl _ _).alloc (Nat.le_refl _) _).alloc (by simp) _).alloc (by simp <;> omega) _
  have z0 : (st == 0) = false := by simpa using s0
  have y0 : (st != 0) = true := by simpa using s0
  have z1 : (st == 1) = false := by simpa using s1
  have y1 : (st != 1) = true := by simpa using s1
  have z2 : (st == 2) = false := by simpa using s2
  have y2 : (st != 2) = true := by simpa using s2
  have z3 : (st == 3) = false := by simpa using s3
  have y3 : (st != 3) = true := by simpa using s3
  have z4 : (st == 4) = false := by simpa using s4
  have y4 : (st != 4) = true := by simpa using s4
  clear s0 s1 s2 s3 s4
  have HV : Hid (mayB ⟨st, jb, ep, dr, wt, si, ak⟩ 2 job = false) := by
    show _ = _
    simp [mayB, z0, z1, z2, z3, z4, y0, y1, y2, y3, y4]
  go_enter Try.func58, Try.ntmps58
  go_wp2_with fail
  refine bodyPost_ret (v := .tuple #[.agg #[.int .i64 2, .int .i64 job, .int .i64 (ep + 1), .bool dr, .int .i64 2, .int .i64 now, .int .i64 now], .bool false]) (by simp [results, Try.results58, go_sem]) rfl ⟨⟨2, job, ep + 1, dr, 2, now, now⟩, by rw [HV.out], (fun _ h => by rw [HV.out] at h; cases h), ?_⟩
  exact (((Below.refl _ _).alloc (Nat.le_refl _) _).alloc (by simp) _).alloc (by simp <;> omega) _
set_option maxHeartbeats 4000000 in
set_option maxRecDepth 100000 in
theorem one_3 (x : Nd) (job now : Int) (w : World) (he : x.ep ≤ 999999999) (he' : 0 ≤ x.ep) : OneC x 3 job now w := by
  obtain ⟨st, jb, ep, dr, wt, si, ak⟩ := x
  unfold OneC
  simp only at *
  by_cases s0 : st = 0
  case pos =>
    subst s0
    have HV : Hid (mayB ⟨0, jb, ep, dr, wt, si, ak⟩ 3 job = false) := by
      show _ = _
      simp [mayB]
    go_enter Try.func58, Try.ntmps58
    go_wp2_with fail
    refine bodyPost_ret (v := .tuple #[.agg #[.int .i64 1, .int .i64 jb, .int .i64 ep, .bool dr, .int .i64 3, .int .i64 now, .int .i64 now], .bool false]) (by simp [results, Try.results58, go_sem]) rfl ⟨⟨1, jb, ep, dr, 3, now, now⟩, by rw [HV.out], (fun _ h => by rw [HV.out] at h; cases h), ?_⟩
    exact (((Below.refl _ _).alloc (Nat.le_refl _) _).alloc (by simp) _).alloc (by simp <;> omega) _
  by_cases s1 : st = 1
  case pos =>
    subst s1
    have HV : Hid (mayB ⟨1, jb, ep, dr, wt, si, ak⟩ 3 job = false) := by
      show _ = _
      simp [mayB]
    go_enter Try.func58, Try.ntmps58
    go_wp2_with fail
    refine bodyPost_ret (v := .tuple #[.agg #[.int .i64 1, .int .i64 jb, .int .i64 ep, .bool dr, .int .i64 3, .int .i64 now, .int .i64 now], .bool false]) (by simp [results, Try.results58, go_sem]) rfl ⟨⟨1, jb, ep, dr, 3, now, now⟩, by rw [HV.out], (fun _ h => by rw [HV.out] at h; cases h), ?_⟩
    exact (((Below.refl _ _).alloc (Nat.le_refl _) _).alloc (by simp) _).alloc (by simp <;> omega) _
  by_cases s2 : st = 2
  case pos =>
    subst s2
    have HV : Hid (mayB ⟨2, jb, ep, dr, wt, si, ak⟩ 3 job = true) := by
      show _ = _
      simp [mayB]
    go_enter Try.func58, Try.ntmps58
    go_wp2_with fail
    refine bodyPost_ret (v := .tuple #[.agg #[.int .i64 1, .int .i64 jb, .int .i64 ep, .bool dr, .int .i64 3, .int .i64 now, .int .i64 now], .bool true]) (by simp [results, Try.results58, go_sem]) rfl ⟨⟨1, jb, ep, dr, 3, now, now⟩, by rw [HV.out], (fun _ _ => by simp [doneN, sendN]), ?_⟩
    exact (((Below.refl _ _).alloc (Nat.le_refl _) _).alloc (by simp) _).alloc (by simp <;> omega) _
  by_cases s3 : st = 3
  case pos =>
    subst s3
    have HV : Hid (mayB ⟨3, jb, ep, dr, wt, si, ak⟩ 3 job = false) := by
      show _ = _
      simp [mayB]
    go_enter Try.func58, Try.ntmps58
    go_wp2_with fail
    refine bodyPost_ret (v := .tuple #[.agg #[.int .i64 1, .int .i64 jb, .int .i64 ep, .bool dr, .int .i64 3, .int .i64 now, .int .i64 now], .bool false]) (by simp [results, Try.results58, go_sem]) rfl ⟨⟨1, jb, ep, dr, 3, now, now⟩, by rw [HV.out], (fun _ h => by rw [HV.out] at h; cases h), ?_⟩
    exact (((Below.refl _ _).alloc (Nat.le_refl _) _).alloc (by simp) _).alloc (by simp <;> omega) _
  by_cases s4 : st = 4
  case pos =>
    subst s4
    have HV : Hid (mayB ⟨4, jb, ep, dr, wt, si, ak⟩ 3 job = false) := by
      show _ = _
      simp [mayB]
    go_enter Try.func58, Try.ntmps58
    go_wp2_with fail
    refine bodyPost_ret (v := .tuple #[.agg #[.int .i64 1, .int .i64 jb, .int .i64 ep, .bool dr, .int .i64 3, .int .i64 now, .int .i64 now], .bool false]) (by simp [results, Try.results58, go_sem]) rfl ⟨⟨1, jb, ep, dr, 3, now, now⟩, by rw [HV.out], (fun _ h => by rw [HV.out] at h; cases h), ?_⟩
    exact (((Below.refl _ _).alloc (Nat.le_refl _) _).alloc (by simp) _).alloc (by simp <;> omega) _
  have z0 : (st == 0) = false := by simpa using s0
  have y0 : (st != 0) = true := by simpa using s0
  have z1 : (st == 1) = false := by simpa using s1
  have y1 : (st != 1) = true := by simpa using s1
  have z2 : (st == 2) = false := by simpa using s2
  have y2 : (st != 2) = true := by simpa using s2
  have z3 : (st == 3) = false := by simpa using s3
  have y3 : (st != 3) = true := by simpa using s3
  have z4 : (st == 4) = false := by simpa using s4
  have y4 : (st != 4) = true := by simpa using s4
  clear s0 s1 s2 s3 s4
  have HV : Hid (mayB ⟨st, jb, ep, dr, wt, si, ak⟩ 3 job = false) := by
    show _ = _
    simp [mayB, z0, z1, z2, z3, z4, y0, y1, y2, y3, y4]
  go_enter Try.func58, Try.ntmps58
  go_wp2_with fail
  refine bodyPost_ret (v := .tuple #[.agg #[.int .i64 1, .int .i64 jb, .int .i64 ep, .bool dr, .int .i64 3, .int .i64 now, .int .i64 now], .bool false]) (by simp [results, Try.results58, go_sem]) rfl ⟨⟨1, jb, ep, dr, 3, now, now⟩, by rw [HV.out], (fun _ h => by rw [HV.out] at h; cases h), ?_⟩
  exact (((Below.refl _ _).alloc (Nat.le_refl _) _).alloc (by simp) _).alloc (by simp <;> omega) _
set_option maxHeartbeats 4000000 in
set_option maxRecDepth 100000 in
theorem one_4 (x : Nd) (job now : Int) (w : World) (he : x.ep ≤ 999999999) (he' : 0 ≤ x.ep) : OneC x 4 job now w := by
  obtain ⟨st, jb, ep, dr, wt, si, ak⟩ := x
  unfold OneC
  simp only at *
  by_cases s0 : st = 0
  case pos =>
    subst s0
    have HV : Hid (mayB ⟨0, jb, ep, dr, wt, si, ak⟩ 4 job = false) := by
      show _ = _
      simp [mayB]
    go_enter Try.func58, Try.ntmps58
    go_wp2_with fail
    refine bodyPost_ret (v := .tuple #[.agg #[.int .i64 0, .int .i64 jb, .int .i64 ep, .bool dr, .int .i64 0, .int .i64 si, .int .i64 ak], .bool false]) (by simp [results, Try.results58, go_sem]) rfl ⟨⟨0, jb, ep, dr, 0, si, ak⟩, by rw [HV.out], (fun _ h => by rw [HV.out] at h; cases h), ?_⟩
    exact (((Below.refl _ _).alloc (Nat.le_refl _) _).alloc (by simp) _).alloc (by simp <;> omega) _
  by_cases s1 : st = 1
  case pos =>
    subst s1
    have HV : Hid (mayB ⟨1, jb, ep, dr, wt, si, ak⟩ 4 job = true) := by
      show _ = _
      simp [mayB]
    go_enter Try.func58, Try.ntmps58
    go_wp2_with fail
    refine bodyPost_ret (v := .tuple #[.agg #[.int .i64 1, .int .i64 jb, .int .i64 ep, .bool dr, .int .i64 0, .int .i64 si, .int .i64 ak], .bool true]) (by simp [results, Try.results58, go_sem]) rfl ⟨⟨1, jb, ep, dr, 0, si, ak⟩, by rw [HV.out], (fun _ _ => by simp [doneN, sendN]), ?_⟩
    exact (((Below.refl _ _).alloc (Nat.le_refl _) _).alloc (by simp) _).alloc (by simp <;> omega) _
  by_cases s2 : st = 2
  case pos =>
    subst s2
    have HV : Hid (mayB ⟨2, jb, ep, dr, wt, si, ak⟩ 4 job = true) := by
      show _ = _
      simp [mayB]
    go_enter Try.func58, Try.ntmps58
    go_wp2_with fail
    refine bodyPost_ret (v := .tuple #[.agg #[.int .i64 2, .int .i64 jb, .int .i64 ep, .bool dr, .int .i64 0, .int .i64 si, .int .i64 ak], .bool true]) (by simp [results, Try.results58, go_sem]) rfl ⟨⟨2, jb, ep, dr, 0, si, ak⟩, by rw [HV.out], (fun _ _ => by simp [doneN, sendN]), ?_⟩
    exact (((Below.refl _ _).alloc (Nat.le_refl _) _).alloc (by simp) _).alloc (by simp <;> omega) _
  by_cases s3 : st = 3
  case pos =>
    subst s3
    have HV : Hid (mayB ⟨3, jb, ep, dr, wt, si, ak⟩ 4 job = false) := by
      show _ = _
      simp [mayB]
    go_enter Try.func58, Try.ntmps58
    go_wp2_with fail
    refine bodyPost_ret (v := .tuple #[.agg #[.int .i64 3, .int .i64 jb, .int .i64 ep, .bool dr, .int .i64 0, .int .i64 si, .int .i64 ak], .bool false]) (by simp [results, Try.results58, go_sem]) rfl ⟨⟨3, jb, ep, dr, 0, si, ak⟩, by rw [HV.out], (fun _ h => by rw [HV.out] at h; cases h), ?_⟩
    exact (((Below.refl _ _).alloc (Nat.le_refl _) _).alloc (by simp) _).alloc (by simp <;> omega) _
  by_cases s4 : st = 4
  case pos =>
    subst s4
    have HV : Hid (mayB ⟨4, jb, ep, dr, wt, si, ak⟩ 4 job = false) := by
      show _ = _
      simp [mayB]
    go_enter Try.func58, Try.ntmps58
    go_wp2_with fail
    refine bodyPost_ret (v := .tuple #[.agg #[.int .i64 4, .int .i64 jb, .int .i64 ep, .bool dr, .int .i64 0, .int .i64 si, .int .i64 ak], .bool false]) (by simp [results, Try.results58, go_sem]) rfl ⟨⟨4, jb, ep, dr, 0, si, ak⟩, by rw [HV.out], (fun _ h => by rw [HV.out] at h; cases h), ?_⟩
    exact (((Below.refl _ _).alloc (Nat.le_refl _) _).alloc (by simp) _).alloc (by simp <;> omega) _
  have z0 : (st == 0) = false := by simpa using s0
  have y0 : (st != 0) = true := by simpa using s0
  have z1 : (st == 1) = false := by simpa using s1
  have y1 : (st != 1) = true := by simpa using s1
  have z2 : (st == 2) = false := by simpa using s2
  have y2 : (st != 2) = true := by simpa using s2
  have z3 : (st == 3) = false := by simpa using s3
  have y3 : (st != 3) = true := by simpa using s3
  have z4 : (st == 4) = false := by simpa using s4
  have y4 : (st != 4) = true := by simpa using s4
  clear s0 s1 s2 s3 s4
  have HV : Hid (mayB ⟨st, jb, ep, dr, wt, si, ak⟩ 4 job = false) := by
    show _ = _
    simp [mayB, z0, z1, z2, z3, z4, y0, y1, y2, y3, y4]
  go_enter Try.func58, Try.ntmps58
  go_wp2_with fail
  refine bodyPost_ret (v := .tuple #[.agg #[.int .i64 st, .int .i64 jb, .int .i64 ep, .bool dr, .int .i64 0, .int .i64 si, .int .i64 ak], .bool false]) (by simp [results, Try.results58, go_sem]) rfl ⟨⟨st, jb, ep, dr, 0, si, ak⟩, by rw [HV.out], (fun _ h => by rw [HV.out] at h; cases h), ?_⟩
  exact (((Below.refl _ _).alloc (Nat.le_refl _) _).alloc (by simp) _).alloc (by simp <;> omega) _
end Go.Proofs.Ytdamocjbkdknaaa.FleetW
