/-
  Contract of musterref12.One, some acts.
-/
import Derived.Test.YtdamocjbkdknaaaFleetOneA
namespace Go.Proofs.Ytdamocjbkdknaaa.FleetW
open Go.RowKit Mem Fleet
set_option linter.unusedVariables false
set_option linter.unusedSimpArgs false
set_option linter.unnecessarySimpa false

set_option maxHeartbeats 4000000 in
set_option maxRecDepth 100000 in
theorem one_10 (x : Nd) (job now : Int) (w : World) (he : x.ep ≤ 999999999) (he' : 0 ≤ x.ep) : OneC x 10 job now w := by
  obtain ⟨st, jb, ep, dr, wt, si, ak⟩ := x
  unfold OneC
  simp only at *
  by_cases s0 : st = 0
  case pos =>
    subst s0
    have HV : Hid (mayB ⟨0, jb, ep, dr, wt, si, ak⟩ 10 job = false) := by
      show _ = _
      simp [mayB]
    go_enter Try.func58, Try.ntmps58
    go_wp2_with fail
    refine bodyPost_ret (v := .tuple #[.agg #[.int .i64 0, .int .i64 jb, .int .i64 ep, .bool dr, .int .i64 6, .int .i64 now, .int .i64 now], .bool false]) (by simp [results, Try.results58, go_sem]) rfl ⟨⟨0, jb, ep, dr, 6, now, now⟩, by rw [HV.out], (fun _ h => by rw [HV.out] at h; cases h), ?_⟩
    exact (((Below.refl _ _).alloc (Nat.le_refl _) _).alloc (by simp) _).alloc (by simp <;> omega) _
  by_cases s1 : st = 1
  case pos =>
    subst s1
    have HV : Hid (mayB ⟨1, jb, ep, dr, wt, si, ak⟩ 10 job = false) := by
      show _ = _
      simp [mayB]
    go_enter Try.func58, Try.ntmps58
    go_wp2_with fail
    refine bodyPost_ret (v := .tuple #[.agg #[.int .i64 1, .int .i64 jb, .int .i64 ep, .bool dr, .int .i64 6, .int .i64 now, .int .i64 now], .bool false]) (by simp [results, Try.results58, go_sem]) rfl ⟨⟨1, jb, ep, dr, 6, now, now⟩, by rw [HV.out], (fun _ h => by rw [HV.out] at h; cases h), ?_⟩
    exact (((Below.refl _ _).alloc (Nat.le_refl _) _).alloc (by simp) _).alloc (by simp <;> omega) _
  by_cases s2 : st = 2
  case pos =>
    subst s2
    have HV : Hid (mayB ⟨2, jb, ep, dr, wt, si, ak⟩ 10 job = false) := by
      show _ = _
      simp [mayB]
    go_enter Try.func58, Try.ntmps58
    go_wp2_with fail
    refine bodyPost_ret (v := .tuple #[.agg #[.int .i64 2, .int .i64 jb, .int .i64 ep, .bool dr, .int .i64 6, .int .i64 now, .int .i64 now], .bool false]) (by simp [results, Try.results58, go_sem]) rfl ⟨⟨2, jb, ep, dr, 6, now, now⟩, by rw [HV.out], (fun _ h => by rw [HV.out] at h; cases h), ?_⟩
    exact (((Below.refl _ _).alloc (Nat.le_refl _) _).alloc (by simp) _).alloc (by simp <;> omega) _
  by_cases s3 : st = 3
  case pos =>
    subst s3
    have HV : Hid (mayB ⟨3, jb, ep, dr, wt, si, ak⟩ 10 job = false) := by
      show _ = _
      simp [mayB]
    go_enter Try.func58, Try.ntmps58
    go_wp2_with fail
    refine bodyPost_ret (v := .tuple #[.agg #[.int .i64 3, .int .i64 jb, .int .i64 ep, .bool dr, .int .i64 6, .int .i64 now, .int .i64 now], .bool false]) (by simp [results, Try.results58, go_sem]) rfl ⟨⟨3, jb, ep, dr, 6, now, now⟩, by rw [HV.out], (fun _ h => by rw [HV.out] at h; cases h), ?_⟩
    exact (((Below.refl _ _).alloc (Nat.le_refl _) _).alloc (by simp) _).alloc (by simp <;> omega) _
  by_cases s4 : st = 4
  case pos =>
    subst s4
    have HV : Hid (mayB ⟨4, jb, ep, dr, wt, si, ak⟩ 10 job = true) := by
      show _ = _
      simp [mayB]
    go_enter Try.func58, Try.ntmps58
    go_wp2_with fail
    refine bodyPost_ret (v := .tuple #[.agg #[.int .i64 4, .int .i64 jb, .int .i64 ep, .bool dr, .int .i64 6, .int .i64 now, .int .i64 now], .bool true]) (by simp [results, Try.results58, go_sem]) rfl ⟨⟨4, jb, ep, dr, 6, now, now⟩, by rw [HV.out], (fun _ _ => by simp [doneN, sendN]), ?_⟩
    exact (((Below.refl _ _).alloc (Nat.le_refl _) _).alloc (by simp) _).alloc (by simp <;> omega) _
  have z0 : (st == 0) = false := by simpa using s0
  have y0 : (st != 0) = true := by simpa using s0
  have z1 : (st == 1) = false := by simpa using s1
  have y1 : (st != 1) = true := by simpa using s1
  have z2 : (st == 2) = false := by simpa using s2
  have y2 : (st != 2) = true := by simpa using s2
  have z3 : (st == 3) = false := by simpa using s3
  have y3 : (st != 3) = true := by simpa using s3
  have z4 : (st == 4) = false := by simpa using s4
  have y4 : (st != 4) = true := by simpa using s4
  clear s0 s1 s2 s3 s4
  have HV : Hid (mayB ⟨st, jb, ep, dr, wt, si, ak⟩ 10 job = false) := by
    show _ = _
    simp [mayB, z0, z1, z2, z3, z4, y0, y1, y2, y3, y4]
  go_enter Try.func58, Try.ntmps58
  go_wp2_with fail
  refine bodyPost_ret (v := .tuple #[.agg #[.int .i64 st, .int .i64 jb, .int .i64 ep, .bool dr, .int .i64 6, .int .i64 now, .int .i64 now], .bool false]) (by simp [results, Try.results58, go_sem]) rfl ⟨⟨st, jb, ep, dr, 6, now, now⟩, by rw [HV.out], (fun _ h => by rw [HV.out] at h; cases h), ?_⟩
  exact (((Below.refl _ _).alloc (Nat.le_refl _) _).alloc (by simp) _).alloc (by simp <;> omega) _
set_option maxHeartbeats 4000000 in
set_option maxRecDepth 100000 in
theorem one_11 (x : Nd) (job now : Int) (w : World) (he : x.ep ≤ 999999999) (he' : 0 ≤ x.ep) : OneC x 11 job now w := by
  obtain ⟨st, jb, ep, dr, wt, si, ak⟩ := x
  unfold OneC
  simp only at *
  by_cases s0 : st = 0
  case pos =>
    subst s0
    have HV : Hid (mayB ⟨0, jb, ep, dr, wt, si, ak⟩ 11 job = false) := by
      show _ = _
      simp [mayB]
    go_enter Try.func58, Try.ntmps58
    go_wp2_with fail
    refine bodyPost_ret (v := .tuple #[.agg #[.int .i64 0, .int .i64 jb, .int .i64 ep, .bool false, .int .i64 0, .int .i64 si, .int .i64 ak], .bool false]) (by simp [results, Try.results58, go_sem]) rfl ⟨⟨0, jb, ep, false, 0, si, ak⟩, by rw [HV.out], (fun _ h => by rw [HV.out] at h; cases h), ?_⟩
    exact (((Below.refl _ _).alloc (Nat.le_refl _) _).alloc (by simp) _).alloc (by simp <;> omega) _
  by_cases s1 : st = 1
  case pos =>
    subst s1
    have HV : Hid (mayB ⟨1, jb, ep, dr, wt, si, ak⟩ 11 job = false) := by
      show _ = _
      simp [mayB]
    go_enter Try.func58, Try.ntmps58
    go_wp2_with fail
    refine bodyPost_ret (v := .tuple #[.agg #[.int .i64 0, .int .i64 jb, .int .i64 ep, .bool false, .int .i64 0, .int .i64 si, .int .i64 ak], .bool false]) (by simp [results, Try.results58, go_sem]) rfl ⟨⟨0, jb, ep, false, 0, si, ak⟩, by rw [HV.out], (fun _ h => by rw [HV.out] at h; cases h), ?_⟩
    exact (((Below.refl _ _).alloc (Nat.le_refl _) _).alloc (by simp) _).alloc (by simp <;> omega) _
  by_cases s2 : st = 2
  case pos =>
    subst s2
    have HV : Hid (mayB ⟨2, jb, ep, dr, wt, si, ak⟩ 11 job = false) := by
      show _ = _
      simp [mayB]
    go_enter Try.func58, Try.ntmps58
    go_wp2_with fail
    refine bodyPost_ret (v := .tuple #[.agg #[.int .i64 0, .int .i64 jb, .int .i64 ep, .bool false, .int .i64 0, .int .i64 si, .int .i64 ak], .bool false]) (by simp [results, Try.results58, go_sem]) rfl ⟨⟨0, jb, ep, false, 0, si, ak⟩, by rw [HV.out], (fun _ h => by rw [HV.out] at h; cases h), ?_⟩
    exact (((Below.refl _ _).alloc (Nat.le_refl _) _).alloc (by simp) _).alloc (by simp <;> omega) _
  by_cases s3 : st = 3
  case pos =>
    subst s3
    have HV : Hid (mayB ⟨3, jb, ep, dr, wt, si, ak⟩ 11 job = false) := by
      show _ = _
      simp [mayB]
    go_enter Try.func58, Try.ntmps58
    go_wp2_with fail
    refine bodyPost_ret (v := .tuple #[.agg #[.int .i64 0, .int .i64 jb, .int .i64 ep, .bool false, .int .i64 0, .int .i64 si, .int .i64 ak], .bool false]) (by simp [results, Try.results58, go_sem]) rfl ⟨⟨0, jb, ep, false, 0, si, ak⟩, by rw [HV.out], (fun _ h => by rw [HV.out] at h; cases h), ?_⟩
    exact (((Below.refl _ _).alloc (Nat.le_refl _) _).alloc (by simp) _).alloc (by simp <;> omega) _
  by_cases s4 : st = 4
  case pos =>
    subst s4
    by_cases hw : wt = 6
    case pos =>
      have w1 : (wt == 6) = true := by simp [hw]
      have HV : Hid (mayB ⟨4, jb, ep, dr, wt, si, ak⟩ 11 job = true) := by
        show _ = _
        simp [mayB, w1, hw]
      clear hw
      go_enter Try.func58, Try.ntmps58
      go_wp2_with fail
      refine bodyPost_ret (v := .tuple #[.agg #[.int .i64 0, .int .i64 jb, .int .i64 ep, .bool false, .int .i64 0, .int .i64 si, .int .i64 ak], .bool true]) (by simp [results, Try.results58, go_sem]) rfl ⟨⟨0, jb, ep, false, 0, si, ak⟩, by rw [HV.out], (fun hf _ => by have := back_job hf rfl; subst this; simp [doneN, sendN]), ?_⟩
      exact (((Below.refl _ _).alloc (Nat.le_refl _) _).alloc (by simp) _).alloc (by simp <;> omega) _
    case neg =>
      have w1 : (wt == 6) = false := by simpa using hw
      have HV : Hid (mayB ⟨4, jb, ep, dr, wt, si, ak⟩ 11 job = false) := by
        show _ = _
        simp [mayB, w1, hw]
      clear hw
      go_enter Try.func58, Try.ntmps58
      go_wp2_with fail
      refine bodyPost_ret (v := .tuple #[.agg #[.int .i64 0, .int .i64 jb, .int .i64 ep, .bool false, .int .i64 0, .int .i64 si, .int .i64 ak], .bool false]) (by simp [results, Try.results58, go_sem]) rfl ⟨⟨0, jb, ep, false, 0, si, ak⟩, by rw [HV.out], (fun _ h => by rw [HV.out] at h; cases h), ?_⟩
      exact (((Below.refl _ _).alloc (Nat.le_refl _) _).alloc (by simp) _).alloc (by simp <;> omega) _
  have z0 : (st == 0) = false := by simpa using s0
  have y0 : (st != 0) = true := by simpa using s0
  have z1 : (st == 1) = false := by simpa using s1
  have y1 : (st != 1) = true := by simpa using s1
  have z2 : (st == 2) = false := by simpa using s2
  have y2 : (st != 2) = true := by simpa using s2
  have z3 : (st == 3) = false := by simpa using s3
  have y3 : (st != 3) = true := by simpa using s3
  have z4 : (st == 4) = false := by simpa using s4
  have y4 : (st != 4) = true := by simpa using s4
  clear s0 s1 s2 s3 s4
  have HV : Hid (mayB ⟨st, jb, ep, dr, wt, si, ak⟩ 11 job = false) := by
    show _ = _
    simp [mayB, z0, z1, z2, z3, z4, y0, y1, y2, y3, y4]
  go_enter Try.func58, Try.ntmps58
  go_wp2_with fail
  refine bodyPost_ret (v := .tuple #[.agg #[.int .i64 0, .int .i64 jb, .int .i64 ep, .bool false, .int .i64 0, .int .i64 si, .int .i64 ak], .bool false]) (by simp [results, Try.results58, go_sem]) rfl ⟨⟨0, jb, ep, false, 0, si, ak⟩, by rw [HV.out], (fun _ h => by rw [HV.out] at h; cases h), ?_⟩
  exact (((Below.refl _ _).alloc (Nat.le_refl _) _).alloc (by simp) _).alloc (by simp <;> omega) _
set_option maxHeartbeats 4000000 in
set_option maxRecDepth 100000 in
theorem one_12 (x : Nd) (job now : Int) (w : World) (he : x.ep ≤ 999999999) (he' : 0 ≤ x.ep) : OneC x 12 job now w := by
  obtain ⟨st, jb, ep, dr, wt, si, ak⟩ := x
  unfold OneC
  simp only at *
  by_cases s0 : st = 0
  case pos =>
    subst s0
    have HV : Hid (mayB ⟨0, jb, ep, dr, wt, si, ak⟩ 12 job = true) := by
      show _ = _
      simp [mayB]
    by_cases hwp : 0 < wt
    case pos =>
      go_enter Try.func58, Try.ntmps58
      go_wp2_with fail
      refine bodyPost_ret (v := .tuple #[.agg #[.int .i64 0, .int .i64 jb, .int .i64 ep, .bool true, .int .i64 wt, .int .i64 si, .int .i64 ak], .bool true]) (by simp [results, Try.results58, go_sem]) rfl ⟨⟨0, jb, ep, true, wt, si, ak⟩, by rw [HV.out], (fun _ _ => by simp [doneN, sendN]), ?_⟩
      exact (((Below.refl _ _).alloc (Nat.le_refl _) _).alloc (by simp) _).alloc (by simp <;> omega) _
    case neg =>
      have hwp' : wt ≤ 0 := by omega
      go_enter Try.func58, Try.ntmps58
      go_wp2_with fail
      refine bodyPost_ret (v := .tuple #[.agg #[.int .i64 0, .int .i64 jb, .int .i64 ep, .bool true, .int .i64 wt, .int .i64 si, .int .i64 ak], .bool true]) (by simp [results, Try.results58, go_sem]) rfl ⟨⟨0, jb, ep, true, wt, si, ak⟩, by rw [HV.out], (fun _ _ => by simp [doneN, sendN]), ?_⟩
      exact (((Below.refl _ _).alloc (Nat.le_refl _) _).alloc (by simp) _).alloc (by simp <;> omega) _
  by_cases s1 : st = 1
  case pos =>
    subst s1
    have HV : Hid (mayB ⟨1, jb, ep, dr, wt, si, ak⟩ 12 job = true) := by
      show _ = _
      simp [mayB]
    by_cases hwp : 0 < wt
    case pos =>
      go_enter Try.func58, Try.ntmps58
      go_wp2_with fail
      refine bodyPost_ret (v := .tuple #[.agg #[.int .i64 1, .int .i64 jb, .int .i64 ep, .bool true, .int .i64 wt, .int .i64 si, .int .i64 ak], .bool true]) (by simp [results, Try.results58, go_sem]) rfl ⟨⟨1, jb, ep, true, wt, si, ak⟩, by rw [HV.out], (fun _ _ => by simp [doneN, sendN]), ?_⟩
      exact (((Below.refl _ _).alloc (Nat.le_refl _) _).alloc (by simp) _).alloc (by simp <;> omega) _
    case neg =>
      have hwp' : wt ≤ 0 := by omega
      go_enter Try.func58, Try.ntmps58
      go_wp2_with fail
      refine bodyPost_ret (v := .tuple #[.agg #[.int .i64 1, .int .i64 jb, .int .i64 ep, .bool true, .int .i64 wt, .int .i64 si, .int .i64 ak], .bool true]) (by simp [results, Try.results58, go_sem]) rfl ⟨⟨1, jb, ep, true, wt, si, ak⟩, by rw [HV.out], (fun _ _ => by simp [doneN, sendN]), ?_⟩
      exact (((Below.refl _ _).alloc (Nat.le_refl _) _).alloc (by simp) _).alloc (by simp <;> omega) _
  by_cases s2 : st = 2
  case pos =>
    subst s2
    have HV : Hid (mayB ⟨2, jb, ep, dr, wt, si, ak⟩ 12 job = true) := by
      show _ = _
      simp [mayB]
    by_cases hwp : 0 < wt
    case pos =>
      go_enter Try.func58, Try.ntmps58
      go_wp2_with fail
      refine bodyPost_ret (v := .tuple #[.agg #[.int .i64 2, .int .i64 jb, .int .i64 ep, .bool true, .int .i64 wt, .int .i64 si, .int .i64 ak], .bool true]) (by simp [results, Try.results58, go_sem]) rfl ⟨⟨2, jb, ep, true, wt, si, ak⟩, by rw [HV.out], (fun _ _ => by simp [doneN, sendN]), ?_⟩
      exact (((Below.refl _ _).alloc (Nat.le_refl _) _).alloc (by simp) _).alloc (by simp <;> omega) _
    case neg =>
      have hwp' : wt ≤ 0 := by omega
      go_enter Try.func58, Try.ntmps58
      go_wp2_with fail
      refine bodyPost_ret (v := .tuple #[.agg #[.int .i64 2, .int .i64 jb, .int .i64 ep, .bool true, .int .i64 wt, .int .i64 si, .int .i64 ak], .bool true]) (by simp [results, Try.results58, go_sem]) rfl ⟨⟨2, jb, ep, true, wt, si, ak⟩, by rw [HV.out], (fun _ _ => by simp [doneN, sendN]), ?_⟩
      exact (((Below.refl _ _).alloc (Nat.le_refl _) _).alloc (by simp) _).alloc (by simp <;> omega) _
  by_cases s3 : st = 3
  case pos =>
    subst s3
    have HV : Hid (mayB ⟨3, jb, ep, dr, wt, si, ak⟩ 12 job = true) := by
      show _ = _
      simp [mayB]
    by_cases hwp : 0 < wt
    case pos =>
      go_enter Try.func58, Try.ntmps58
      go_wp2_with fail
      refine bodyPost_ret (v := .tuple #[.agg #[.int .i64 3, .int .i64 jb, .int .i64 ep, .bool true, .int .i64 wt, .int .i64 si, .int .i64 ak], .bool true]) (by simp [results, Try.results58, go_sem]) rfl ⟨⟨3, jb, ep, true, wt, si, ak⟩, by rw [HV.out], (fun _ _ => by simp [doneN, sendN]), ?_⟩
      exact (((Below.refl _ _).alloc (Nat.le_refl _) _).alloc (by simp) _).alloc (by simp <;> omega) _
    case neg =>
      have hwp' : wt ≤ 0 := by omega
      go_enter Try.func58, Try.ntmps58
      go_wp2_with fail
      refine bodyPost_ret (v := .tuple #[.agg #[.int .i64 3, .int .i64 jb, .int .i64 ep, .bool true, .int .i64 wt, .int .i64 si, .int .i64 ak], .bool true]) (by simp [results, Try.results58, go_sem]) rfl ⟨⟨3, jb, ep, true, wt, si, ak⟩, by rw [HV.out], (fun _ _ => by simp [doneN, sendN]), ?_⟩
      exact (((Below.refl _ _).alloc (Nat.le_refl _) _).alloc (by simp) _).alloc (by simp <;> omega) _
  by_cases s4 : st = 4
  case pos =>
    subst s4
    have HV : Hid (mayB ⟨4, jb, ep, dr, wt, si, ak⟩ 12 job = false) := by
      show _ = _
      simp [mayB]
    by_cases hwp : 0 < wt
    case pos =>
      go_enter Try.func58, Try.ntmps58
      go_wp2_with fail
      refine bodyPost_ret (v := .tuple #[.agg #[.int .i64 4, .int .i64 jb, .int .i64 ep, .bool true, .int .i64 wt, .int .i64 si, .int .i64 ak], .bool false]) (by simp [results, Try.results58, go_sem]) rfl ⟨⟨4, jb, ep, true, wt, si, ak⟩, by rw [HV.out], (fun _ h => by rw [HV.out] at h; cases h), ?_⟩
      exact (((Below.refl _ _).alloc (Nat.le_refl _) _).alloc (by simp) _).alloc (by simp <;> omega) _
    case neg =>
      have hwp' : wt ≤ 0 := by omega
      go_enter Try.func58, Try.ntmps58
      go_wp2_with fail
      refine bodyPost_ret (v := .tuple #[.agg #[.int .i64 4, .int .i64 jb, .int .i64 ep, .bool true, .int .i64 wt, .int .i64 si, .int .i64 ak], .bool false]) (by simp [results, Try.results58, go_sem]) rfl ⟨⟨4, jb, ep, true, wt, si, ak⟩, by rw [HV.out], (fun _ h => by rw [HV.out] at h; cases h), ?_⟩
      exact (((Below.refl _ _).alloc (Nat.le_refl _) _).alloc (by simp) _).alloc (by simp <;> omega) _
  have z0 : (st == 0) = false := by simpa using s0
  have y0 : (st != 0) = true := by simpa using s0
  have z1 : (st == 1) = false := by simpa using s1
  have y1 : (st != 1) = true := by simpa using s1
  have z2 : (st == 2) = false := by simpa using s2
  have y2 : (st != 2) = true := by simpa using s2
  have z3 : (st == 3) = false := by simpa using s3
  have y3 : (st != 3) = true := by simpa using s3
  have z4 : (st == 4) = false := by simpa using s4
  have y4 : (st != 4) = true := by simpa using s4
  clear s0 s1 s2 s3 s4
  have HV : Hid (mayB ⟨st, jb, ep, dr, wt, si, ak⟩ 12 job = true) := by
    show _ = _
    simp [mayB, z0, z1, z2, z3, z4, y0, y1, y2, y3, y4]
  by_cases hwp : 0 < wt
  case pos =>
    go_enter Try.func58, Try.ntmps58
    go_wp2_with fail
    refine bodyPost_ret (v := .tuple #[.agg #[.int .i64 st, .int .i64 jb, .int .i64 ep, .bool true, .int .i64 wt, .int .i64 si, .int .i64 ak], .bool true]) (by simp [results, Try.results58, go_sem]) rfl ⟨⟨st, jb, ep, true, wt, si, ak⟩, by rw [HV.out], (fun _ _ => by simp [doneN, sendN]), ?_⟩
    exact (((Below.refl _ _).alloc (Nat.le_refl _) _).alloc (by simp) _).alloc (by simp <;> omega) _
  case neg =>
    have hwp' : wt ≤ 0 := by omega
    go_enter Try.func58, Try.ntmps58
    go_wp2_with fail
    refine bodyPost_ret (v := .tuple #[.agg #[.int .i64 st, .int .i64 jb, .int .i64 ep, .bool true, .int .i64 wt, .int .i64 si, .int .i64 ak], .bool true]) (by simp [results, Try.results58, go_sem]) rfl ⟨⟨st, jb, ep, true, wt, si, ak⟩, by rw [HV.out], (fun _ _ => by simp [doneN, sendN]), ?_⟩
    exact (((Below.refl _ _).alloc (Nat.le_refl _) _).alloc (by simp) _).alloc (by simp <;> omega) _
set_option maxHeartbeats 4000000 in
set_option maxRecDepth 100000 in
theorem one_13 (x : Nd) (job now : Int) (w : World) (he : x.ep ≤ 999999999) (he' : 0 ≤ x.ep) : OneC x 13 job now w := by
  obtain ⟨st, jb, ep, dr, wt, si, ak⟩ := x
  unfold OneC
  simp only at *
  by_cases s0 : st = 0
  case pos =>
    subst s0
    have HV : Hid (mayB ⟨0, jb, ep, dr, wt, si, ak⟩ 13 job = true) := by
      show _ = _
      simp [mayB]
    by_cases hwp : 0 < wt
    case pos =>
      go_enter Try.func58, Try.ntmps58
      go_wp2_with fail
      refine bodyPost_ret (v := .tuple #[.agg #[.int .i64 0, .int .i64 jb, .int .i64 ep, .bool false, .int .i64 wt, .int .i64 si, .int .i64 ak], .bool true]) (by simp [results, Try.results58, go_sem]) rfl ⟨⟨0, jb, ep, false, wt, si, ak⟩, by rw [HV.out], (fun _ _ => by simp [doneN, sendN]), ?_⟩
      exact (((Below.refl _ _).alloc (Nat.le_refl _) _).alloc (by simp) _).alloc (by simp <;> omega) _
    case neg =>
      have hwp' : wt ≤ 0 := by omega
      go_enter Try.func58, Try.ntmps58
      go_wp2_with fail
      refine bodyPost_ret (v := .tuple #[.agg #[.int .i64 0, .int .i64 jb, .int .i64 ep, .bool false, .int .i64 wt, .int .i64 si, .int .i64 ak], .bool true]) (by simp [results, Try.results58, go_sem]) rfl ⟨⟨0, jb, ep, false, wt, si, ak⟩, by rw [HV.out], (fun _ _ => by simp [doneN, sendN]), ?_⟩
      exact (((Below.refl _ _).alloc (Nat.le_refl _) _).alloc (by simp) _).alloc (by simp <;> omega) _
  by_cases s1 : st = 1
  case pos =>
    subst s1
    have HV : Hid (mayB ⟨1, jb, ep, dr, wt, si, ak⟩ 13 job = true) := by
      show _ = _
      simp [mayB]
    by_cases hwp : 0 < wt
    case pos =>
      go_enter Try.func58, Try.ntmps58
      go_wp2_with fail
      refine bodyPost_ret (v := .tuple #[.agg #[.int .i64 1, .int .i64 jb, .int .i64 ep, .bool false, .int .i64 wt, .int .i64 si, .int .i64 ak], .bool true]) (by simp [results, Try.results58, go_sem]) rfl ⟨⟨1, jb, ep, false, wt, si, ak⟩, by rw [HV.out], (fun _ _ => by simp [doneN, sendN]), ?_⟩
      exact (((Below.refl _ _).alloc (Nat.le_refl _) _).alloc (by simp) _).alloc (by simp <;> omega) _
    case neg =>
      have hwp' : wt ≤ 0 := by omega
      go_enter Try.func58, Try.ntmps58
      go_wp2_with fail
      refine bodyPost_ret (v := .tuple #[.agg #[.int .i64 1, .int .i64 jb, .int .i64 ep, .bool false, .int .i64 wt, .int .i64 si, .int .i64 ak], .bool true]) (by simp [results, Try.results58, go_sem]) rfl ⟨⟨1, jb, ep, false, wt, si, ak⟩, by rw [HV.out], (fun _ _ => by simp [doneN, sendN]), ?_⟩
      exact (((Below.refl _ _).alloc (Nat.le_refl _) _).alloc (by simp) _).alloc (by simp <;> omega) _
  by_cases s2 : st = 2
  case pos =>
    subst s2
    have HV : Hid (mayB ⟨2, jb, ep, dr, wt, si, ak⟩ 13 job = true) := by
      show _ = _
      simp [mayB]
    by_cases hwp : 0 < wt
    case pos =>
      go_enter Try.func58, Try.ntmps58
      go_wp2_with fail
      refine bodyPost_ret (v := .tuple #[.agg #[.int .i64 2, .int .i64 jb, .int .i64 ep, .bool false, .int .i64 wt, .int .i64 si, .int .i64 ak], .bool true]) (by simp [results, Try.results58, go_sem]) rfl ⟨⟨2, jb, ep, false, wt, si, ak⟩, by rw [HV.out], (fun _ _ => by simp [doneN, sendN]), ?_⟩
      exact (((Below.refl _ _).alloc (Nat.le_refl _) _).alloc (by simp) _).alloc (by simp <;> omega) _
    case neg =>
      have hwp' : wt ≤ 0 := by omega
      go_enter Try.func58, Try.ntmps58
      go_wp2_with fail
      refine bodyPost_ret (v := .tuple #[.agg #[.int .i64 2, .int .i64 jb, .int .i64 ep, .bool false, .int .i64 wt, .int .i64 si, .int .i64 ak], .bool true]) (by simp [results, Try.results58, go_sem]) rfl ⟨⟨2, jb, ep, false, wt, si, ak⟩, by rw [HV.out], (fun _ _ => by simp [doneN, sendN]), ?_⟩
      exact (((Below.refl _ _).alloc (Nat.le_refl _) _).alloc (by simp) _).alloc (by simp <;> omega) _
  by_cases s3 : st = 3
  case pos =>
    subst s3
    have HV : Hid (mayB ⟨3, jb, ep, dr, wt, si, ak⟩ 13 job = true) := by
      show _ = _
      simp [mayB]
    by_cases hwp : 0 < wt
    case pos =>
      go_enter Try.func58, Try.ntmps58
      go_wp2_with fail
      refine bodyPost_ret (v := .tuple #[.agg #[.int .i64 3, .int .i64 jb, .int .i64 ep, .bool false, .int .i64 wt, .int .i64 si, .int .i64 ak], .bool true]) (by simp [results, Try.results58, go_sem]) rfl ⟨⟨3, jb, ep, false, wt, si, ak⟩, by rw [HV.out], (fun _ _ => by simp [doneN, sendN]), ?_⟩
      exact (((Below.refl _ _).alloc (Nat.le_refl _) _).alloc (by simp) _).alloc (by simp <;> omega) _
    case neg =>
      have hwp' : wt ≤ 0 := by omega
      go_enter Try.func58, Try.ntmps58
      go_wp2_with fail
      refine bodyPost_ret (v := .tuple #[.agg #[.int .i64 3, .int .i64 jb, .int .i64 ep, .bool false, .int .i64 wt, .int .i64 si, .int .i64 ak], .bool true]) (by simp [results, Try.results58, go_sem]) rfl ⟨⟨3, jb, ep, false, wt, si, ak⟩, by rw [HV.out], (fun _ _ => by simp [doneN, sendN]), ?_⟩
      exact (((Below.refl _ _).alloc (Nat.le_refl _) _).alloc (by simp) _).alloc (by simp <;> omega) _
  by_cases s4 : st = 4
  case pos =>
    subst s4
    have HV : Hid (mayB ⟨4, jb, ep, dr, wt, si, ak⟩ 13 job = false) := by
      show _ = _
      simp [mayB]
    by_cases hwp : 0 < wt
    case pos =>
      go_enter Try.func58, Try.ntmps58
      go_wp2_with fail
      refine bodyPost_ret (v := .tuple #[.agg #[.int .i64 4, .int .i64 jb, .int .i64 ep, .bool false, .int .i64 wt, .int .i64 si, .int .i64 ak], .bool false]) (by simp [results, Try.results58, go_sem]) rfl ⟨⟨4, jb, ep, false, wt, si, ak⟩, by rw [HV.out], (fun _ h => by rw [HV.out] at h; cases h), ?_⟩
      exact (((Below.refl _ _).alloc (Nat.le_refl _) _).alloc (by simp) _).alloc (by simp <;> omega) _
    case neg =>
      have hwp' : wt ≤ 0 := by omega
      go_enter Try.func58, Try.ntmps58
      go_wp2_with fail
      refine bodyPost_ret (v := .tuple #[.agg #[.int .i64 4, .int .i64 jb, .int .i64 ep, .bool false, .int .i64 wt, .int .i64 si, .int .i64 ak], .bool false]) (by simp [results, Try.results58, go_sem]) rfl ⟨⟨4, jb, ep, false, wt, si, ak⟩, by rw [HV.out], (fun _ h => by rw [HV.out] at h; cases h), ?_⟩
      exact (((Below.refl _ _).alloc (Nat.le_refl _) _).alloc (by simp) _).alloc (by simp <;> omega) _
  have z0 : (st == 0) = false := by simpa using s0
  have y0 : (st != 0) = true := by simpa using s0
  have z1 : (st == 1) = false := by simpa using s1
  have y1 : (st != 1) = true := by simpa using s1
  have z2 : (st == 2) = false := by simpa using s2
  have y2 : (st != 2) = true := by simpa using s2
  have z3 : (st == 3) = false := by simpa using s3
  have y3 : (st != 3) = true := by simpa using s3
  have z4 : (st == 4) = false := by simpa using s4
  have y4 : (st != 4) = true := by simpa using s4
  clear s0 s1 s2 s3 s4
  have HV : Hid (mayB ⟨st, jb, ep, dr, wt, si, ak⟩ 13 job = true) := by
    show _ = _
    simp [mayB, z0, z1, z2, z3, z4, y0, y1, y2, y3, y4]
  by_cases hwp : 0 < wt
  case pos =>
    go_enter Try.func58, Try.ntmps58
    go_wp2_with fail
    refine bodyPost_ret (v := .tuple #[.agg #[.int .i64 st, .int .i64 jb, .int .i64 ep, .bool false, .int .i64 wt, .int .i64 si, .int .i64 ak], .bool true]) (by simp [results, Try.results58, go_sem]) rfl ⟨⟨st, jb, ep, false, wt, si, ak⟩, by rw [HV.out], (fun _ _ => by simp [doneN, sendN]), ?_⟩
    exact (((Below.refl _ _).alloc (Nat.le_refl _) _).alloc (by simp) _).alloc (by simp <;> omega) _
  case neg =>
    have hwp' : wt ≤ 0 := by omega
    go_enter Try.func58, Try.ntmps58
    go_wp2_with fail
    refine bodyPost_ret (v := .tuple #[.agg #[.int .i64 st, .int .i64 jb, .int .i64 ep, .bool false, .int .i64 wt, .int .i64 si, .int .i64 ak], .bool true]) (by simp [results, Try.results58, go_sem]) rfl ⟨⟨st, jb, ep, false, wt, si, ak⟩, by rw [HV.out], (fun _ _ => by simp [doneN, sendN]), ?_⟩
    exact (((Below.refl _ _).alloc (Nat.le_refl _) _).alloc (by simp) _).alloc (by simp <;> omega) _
set_option maxHeartbeats 4000000 in
set_option maxRecDepth 100000 in
theorem one_o (x : Nd) (act job now : Int) (w : World) (he : x.ep ≤ 999999999) (he' : 0 ≤ x.ep) (a1 : act ≠ 1) (a2 : act ≠ 2) (a3 : act ≠ 3) (a4 : act ≠ 4) (a5 : act ≠ 5) (a6 : act ≠ 6) (a7 : act ≠ 7) (a8 : act ≠ 8) (a9 : act ≠ 9) (a10 : act ≠ 10) (a11 : act ≠ 11) (a12 : act ≠ 12) (a13 : act ≠ 13) : OneC x act job now w := by
  obtain ⟨st, jb, ep, dr, wt, si, ak⟩ := x
  unfold OneC
  simp only at *
  have b1 : (act == 1) = false := by simpa using a1
  have b2 : (act == 2) = false := by simpa using a2
  have b3 : (act == 3) = false := by simpa using a3
  have b4 : (act == 4) = false := by simpa using a4
  have b5 : (act == 5) = false := by simpa using a5
  have b6 : (act == 6) = false := by simpa using a6
  have b7 : (act == 7) = false := by simpa using a7
  have b8 : (act == 8) = false := by simpa using a8
  have b9 : (act == 9) = false := by simpa using a9
  have b10 : (act == 10) = false := by simpa using a10
  have b11 : (act == 11) = false := by simpa using a11
  have b12 : (act == 12) = false := by simpa using a12
  have b13 : (act == 13) = false := by simpa using a13
  have b12' : (act != 12) = true := by simpa using a12
  have b13' : (act != 13) = true := by simpa using a13
  have HM : Hid (∀ s, mayB ⟨s, jb, ep, dr, wt, si, ak⟩ act job = false) := by
    show ∀ s, _
    intro s
    simp [mayB, a1, a2, a3, a4, a5, a6, a7, a8, a9, a10, a11, a12, a13]
  clear a1 a2 a3 a4 a5 a6 a7 a8 a9 a10 a11 a12 a13
  by_cases s0 : st = 0
  case pos =>
    subst s0
    have HV := Lib.hid (HM.out 0)
    go_enter Try.func58, Try.ntmps58
    go_wp2_with fail
    refine bodyPost_ret (v := .tuple #[.agg #[.int .i64 0, .int .i64 jb, .int .i64 ep, .bool dr, .int .i64 0, .int .i64 si, .int .i64 ak], .bool false]) (by simp [results, Try.results58, go_sem]) rfl ⟨⟨0, jb, ep, dr, 0, si, ak⟩, by rw [HV.out], (fun _ h => by rw [HV.out] at h; cases h), ?_⟩
    exact (((Below.refl _ _).alloc (Nat.le_refl _) _).alloc (by simp) _).alloc (by simp <;> omega) _
  by_cases s1 : st = 1
  case pos =>
    subst s1
    have HV := Lib.hid (HM.out 1)
    go_enter Try.func58, Try.ntmps58
    go_wp2_with fail
    refine bodyPost_ret (v := .tuple #[.agg #[.int .i64 1, .int .i64 jb, .int .i64 ep, .bool dr, .int .i64 0, .int .i64 si, .int .i64 ak], .bool false]) (by simp [results, Try.results58, go_sem]) rfl ⟨⟨1, jb, ep, dr, 0, si, ak⟩, by rw [HV.out], (fun _ h => by rw [HV.out] at h; cases h), ?_⟩
    exact (((Below.refl _ _).alloc (Nat.le_refl _) _).alloc (by simp) _).alloc (by simp <;> omega) _
  by_cases s2 : st = 2
  case pos =>
    subst s2
    have HV := Lib.hid (HM.out 2)
    go_enter Try.func58, Try.ntmps58
    go_wp2_with fail
    refine bodyPost_ret (v := .tuple #[.agg #[.int .i64 2, .int .i64 jb, .int .i64 ep, .bool dr, .int .i64 0, .int .i64 si, .int .i64 ak], .bool false]) (by simp [results, Try.results58, go_sem]) rfl ⟨⟨2, jb, ep, dr, 0, si, ak⟩, by rw [HV.out], (fun _ h => by rw [HV.out] at h; cases h), ?_⟩
    exact (((Below.refl _ _).alloc (Nat.le_refl _) _).alloc (by simp) _).alloc (by simp <;> omega) _
  by_cases s3 : st = 3
  case pos =>
    subst s3
    have HV := Lib.hid (HM.out 3)
    go_enter Try.func58, Try.ntmps58
    go_wp2_with fail
    refine bodyPost_ret (v := .tuple #[.agg #[.int .i64 3, .int .i64 jb, .int .i64 ep, .bool dr, .int .i64 0, .int .i64 si, .int .i64 ak], .bool false]) (by simp [results, Try.results58, go_sem]) rfl ⟨⟨3, jb, ep, dr, 0, si, ak⟩, by rw [HV.out], (fun _ h => by rw [HV.out] at h; cases h), ?_⟩
    exact (((Below.refl _ _).alloc (Nat.le_refl _) _).alloc (by simp) _).alloc (by simp <;> omega) _
  by_cases s4 : st = 4
  case pos =>
    subst s4
    have HV := Lib.hid (HM.out 4)
    go_enter Try.func58, Try.ntmps58
    go_wp2_with fail
    refine bodyPost_ret (v := .tuple #[.agg #[.int .i64 4, .int .i64 jb, .int .i64 ep, .bool dr, .int .i64 0, .int .i64 si, .int .i64 ak], .bool false]) (by simp [results, Try.results58, go_sem]) rfl ⟨⟨4, jb, ep, dr, 0, si, ak⟩, by rw [HV.out], (fun _ h => by rw [HV.out] at h; cases h), ?_⟩
    exact (((Below.refl _ _).alloc (Nat.le_refl _) _).alloc (by simp) _).alloc (by simp <;> omega) _
  have z0 : (st == 0) = false := by simpa using s0
  have y0 : (st != 0) = true := by simpa using s0
  have z1 : (st == 1) = false := by simpa using s1
  have y1 : (st != 1) = true := by simpa using s1
  have z2 : (st == 2) = false := by simpa using s2
  have y2 : (st != 2) = true := by simpa using s2
  have z3 : (st == 3) = false := by simpa using s3
  have y3 : (st != 3) = true := by simpa using s3
  have z4 : (st == 4) = false := by simpa using s4
  have y4 : (st != 4) = true := by simpa using s4
  have HV := Lib.hid (HM.out st)
  clear s0 s1 s2 s3 s4
  go_enter Try.func58, Try.ntmps58
  go_wp2_with fail
  refine bodyPost_ret (v := .tuple #[.agg #[.int .i64 st, .int .i64 jb, .int .i64 ep, .bool dr, .int .i64 0, .int .i64 si, .int .i64 ak], .bool false]) (by simp [results, Try.results58, go_sem]) rfl ⟨⟨st, jb, ep, dr, 0, si, ak⟩, by rw [HV.out], (fun _ h => by rw [HV.out] at h; cases h), ?_⟩
  exact (((Below.refl _ _).alloc (Nat.le_refl _) _).alloc (by simp) _).alloc (by simp <;> omega) _
end Go.Proofs.Ytdamocjbkdknaaa.FleetW
