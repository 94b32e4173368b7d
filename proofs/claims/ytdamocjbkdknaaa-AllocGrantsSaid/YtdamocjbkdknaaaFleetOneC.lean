/-
  Contract of musterref12.One, some acts.
-/
import Derived.Test.YtdamocjbkdknaaaFleetOneA
namespace Go.Proofs.Ytdamocjbkdknaaa.FleetW
open Go.RowKit Mem Fleet
set_option linter.unusedVariables false
set_option linter.unusedSimpArgs false
set_option linter.unnecessarySimpa false

set_option maxHeartbeats 4000000 in
set_option maxRecDepth 100000 in
theorem one_5 (x : Nd) (job now : Int) (w : World) (he : x.ep ≤ 999999999) (he' : 0 ≤ x.ep) : OneC x 5 job now w := by
  obtain ⟨st, jb, ep, dr, wt, si, ak⟩ := x
  unfold OneC
  simp only at *
  by_cases s0 : st = 0
  case pos =>
    subst s0
    have HV : Hid (mayB ⟨0, jb, ep, dr, wt, si, ak⟩ 5 job = false) := by
      show _ = _
      simp [mayB]
    go_enter Try.func58, Try.ntmps58
    go_wp2_with fail
    refine bodyPost_ret (v := .tuple #[.agg #[.int .i64 0, .int .i64 jb, .int .i64 ep, .bool dr, .int .i64 4, .int .i64 now, .int .i64 now], .bool false]) (by simp [results, Try.results58, go_sem]) rfl ⟨⟨0, jb, ep, dr, 4, now, now⟩, by rw [HV.out], (fun _ h => by rw [HV.out] at h; cases h), ?_⟩
    exact (((Below.refl _ _).alloc (Nat.le_refl _) _).alloc (by simp) _).alloc (by simp <;> omega) _
  by_cases s1 : st = 1
  case pos =>
    subst s1
    by_cases hw : wt = 0
    case pos =>
      have w1 : (wt == 0) = true := by simp [hw]
      have HV : Hid (mayB ⟨1, jb, ep, dr, wt, si, ak⟩ 5 job = true) := by
        show _ = _
        simp [mayB, w1, hw]
      clear hw
      go_enter Try.func58, Try.ntmps58
      go_wp2_with fail
      refine bodyPost_ret (v := .tuple #[.agg #[.int .i64 1, .int .i64 jb, .int .i64 ep, .bool dr, .int .i64 4, .int .i64 now, .int .i64 now], .bool true]) (by simp [results, Try.results58, go_sem]) rfl ⟨⟨1, jb, ep, dr, 4, now, now⟩, by rw [HV.out], (fun _ _ => by simp [doneN, sendN]), ?_⟩
      exact (((Below.refl _ _).alloc (Nat.le_refl _) _).alloc (by simp) _).alloc (by simp <;> omega) _
    case neg =>
      have w1 : (wt == 0) = false := by simpa using hw
      have HV : Hid (mayB ⟨1, jb, ep, dr, wt, si, ak⟩ 5 job = false) := by
        show _ = _
        simp [mayB, w1, hw]
      clear hw
      go_enter Try.func58, Try.ntmps58
      go_wp2_with fail
      refine bodyPost_ret (v := .tuple #[.agg #[.int .i64 1, .int .i64 jb, .int .i64 ep, .bool dr, .int .i64 4, .int .i64 now, .int .i64 now], .bool false]) (by simp [results, Try.results58, go_sem]) rfl ⟨⟨1, jb, ep, dr, 4, now, now⟩, by rw [HV.out], (fun _ h => by rw [HV.out] at h; cases h), ?_⟩
      exact (((Below.refl _ _).alloc (Nat.le_refl _) _).alloc (by simp) _).alloc (by simp <;> omega) _
  by_cases s2 : st = 2
  case pos =>
    subst s2
    have HV : Hid (mayB ⟨2, jb, ep, dr, wt, si, ak⟩ 5 job = false) := by
      show _ = _
      simp [mayB]
    go_enter Try.func58, Try.ntmps58
    go_wp2_with fail
    refine bodyPost_ret (v := .tuple #[.agg #[.int .i64 2, .int .i64 jb, .int .i64 ep, .bool dr, .int .i64 4, .int .i64 now, .int .i64 now], .bool false]) (by simp [results, Try.results58, go_sem]) rfl ⟨⟨2, jb, ep, dr, 4, now, now⟩, by rw [HV.out], (fun _ h => by rw [HV.out] at h; cases h), ?_⟩
    exact (((Below.refl _ _).alloc (Nat.le_refl _) _).alloc (by simp) _).alloc (by simp <;> omega) _
  by_cases s3 : st = 3
  case pos =>
    subst s3
    have HV : Hid (mayB ⟨3, jb, ep, dr, wt, si, ak⟩ 5 job = false) := by
      show _ = _
      simp [mayB]
    go_enter Try.func58, Try.ntmps58
    go_wp2_with fail
    refine bodyPost_ret (v := .tuple #[.agg #[.int .i64 3, .int .i64 jb, .int .i64 ep, .bool dr, .int .i64 4, .int .i64 now, .int .i64 now], .bool false]) (by simp [results, Try.results58, go_sem]) rfl ⟨⟨3, jb, ep, dr, 4, now, now⟩, by rw [HV.out], (fun _ h => by rw [HV.out] at h; cases h), ?_⟩
    exact (((Below.refl _ _).alloc (Nat.le_refl _) _).alloc (by simp) _).alloc (by simp <;> omega) _
  by_cases s4 : st = 4
  case pos =>
    subst s4
    have HV : Hid (mayB ⟨4, jb, ep, dr, wt, si, ak⟩ 5 job = false) := by
      show _ = _
      simp [mayB]
    go_enter Try.func58, Try.ntmps58
    go_wp2_with fail
    refine bodyPost_ret (v := .tuple #[.agg #[.int .i64 4, .int .i64 jb, .int .i64 ep, .bool dr, .int .i64 4, .int .i64 now, .int .i64 now], .bool false]) (by simp [results, Try.results58, go_sem]) rfl ⟨⟨4, jb, ep, dr, 4, now, now⟩, by rw [HV.out], (fun _ h => by rw [HV.out] at h; cases h), ?_⟩
    exact (((Below.refl _ _).alloc (Nat.le_refl _) _).alloc (by simp) _).alloc (by simp <;> omega) _
  have z0 : (st == 0) = false := by simpa using s0
  have y0 : (st != 0) = true := by simpa using s0
  have z1 : (st == 1) = false := by simpa using s1
  have y1 : (st != 1) = true := by simpa using s1
  have z2 : (st == 2) = false := by simpa using s2
  have y2 : (st != 2) = true := by simpa using s2
  have z3 : (st == 3) = false := by simpa using s3
  have y3 : (st != 3) = true := by simpa using s3
  have z4 : (st == 4) = false := by simpa using s4
  have y4 : (st != 4) = true := by simpa using s4
  clear s0 s1 s2 s3 s4
  have HV : Hid (mayB ⟨st, jb, ep, dr, wt, si, ak⟩ 5 job = false) := by
    show _ = _
    simp [mayB, z0, z1, z2, z3, z4, y0, y1, y2, y3, y4]
  go_enter Try.func58, Try.ntmps58
  go_wp2_with fail
  refine bodyPost_ret (v := .tuple #[.agg #[.int .i64 st, .int .i64 jb, .int .i64 ep, .bool dr, .int .i64 4, .int .i64 now, .int .i64 now], .bool false]) (by simp [results, Try.results58, go_sem]) rfl ⟨⟨st, jb, ep, dr, 4, now, now⟩, by rw [HV.out], (fun _ h => by rw [HV.out] at h; cases h), ?_⟩
  exact (((Below.refl _ _).alloc (Nat.le_refl _) _).alloc (by simp) _).alloc (by simp <;> omega) _
set_option maxHeartbeats 4000000 in
set_option maxRecDepth 100000 in
theorem one_6 (x : Nd) (job now : Int) (w : World) (he : x.ep ≤ 999999999) (he' : 0 ≤ x.ep) : OneC x 6 job now w := by
  obtain ⟨st, jb, ep, dr, wt, si, ak⟩ := x
  unfold OneC
  simp only at *
  by_cases s0 : st = 0
  case pos =>
    subst s0
    have HV : Hid (mayB ⟨0, jb, ep, dr, wt, si, ak⟩ 6 job = false) := by
      show _ = _
      simp [mayB]
    go_enter Try.func58, Try.ntmps58
    go_wp2_with fail
    refine bodyPost_ret (v := .tuple #[.agg #[.int .i64 0, .int .i64 jb, .int .i64 ep, .bool dr, .int .i64 0, .int .i64 si, .int .i64 ak], .bool false]) (by simp [results, Try.results58, go_sem]) rfl ⟨⟨0, jb, ep, dr, 0, si, ak⟩, by rw [HV.out], (fun _ h => by rw [HV.out] at h; cases h), ?_⟩
    exact (((Below.refl _ _).alloc (Nat.le_refl _) _).alloc (by simp) _).alloc (by simp <;> omega) _
  by_cases s1 : st = 1
  case pos =>
    subst s1
    by_cases hw : wt = 4
    case pos =>
      have w1 : (wt == 4) = true := by simp [hw]
      have HV : Hid (mayB ⟨1, jb, ep, dr, wt, si, ak⟩ 6 job = true) := by
        show _ = _
        simp [mayB, w1, hw]
      clear hw
      go_enter Try.func58, Try.ntmps58
      go_wp2_with fail
      refine bodyPost_ret (v := .tuple #[.agg #[.int .i64 1, .int .i64 jb, .int .i64 ep, .bool dr, .int .i64 0, .int .i64 si, .int .i64 ak], .bool true]) (by simp [results, Try.results58, go_sem]) rfl ⟨⟨1, jb, ep, dr, 0, si, ak⟩, by rw [HV.out], (fun _ _ => by simp [doneN, sendN]), ?_⟩
      exact (((Below.refl _ _).alloc (Nat.le_refl _) _).alloc (by simp) _).alloc (by simp <;> omega) _
    case neg =>
      have w1 : (wt == 4) = false := by simpa using hw
      have HV : Hid (mayB ⟨1, jb, ep, dr, wt, si, ak⟩ 6 job = false) := by
        show _ = _
        simp [mayB, w1, hw]
      clear hw
      go_enter Try.func58, Try.ntmps58
      go_wp2_with fail
      refine bodyPost_ret (v := .tuple #[.agg #[.int .i64 1, .int .i64 jb, .int .i64 ep, .bool dr, .int .i64 0, .int .i64 si, .int .i64 ak], .bool false]) (by simp [results, Try.results58, go_sem]) rfl ⟨⟨1, jb, ep, dr, 0, si, ak⟩, by rw [HV.out], (fun _ h => by rw [HV.out] at h; cases h), ?_⟩
      exact (((Below.refl _ _).alloc (Nat.le_refl _) _).alloc (by simp) _).alloc (by simp <;> omega) _
  by_cases s2 : st = 2
  case pos =>
    subst s2
    have HV : Hid (mayB ⟨2, jb, ep, dr, wt, si, ak⟩ 6 job = false) := by
      show _ = _
      simp [mayB]
    go_enter Try.func58, Try.ntmps58
    go_wp2_with fail
    refine bodyPost_ret (v := .tuple #[.agg #[.int .i64 2, .int .i64 jb, .int .i64 ep, .bool dr, .int .i64 0, .int .i64 si, .int .i64 ak], .bool false]) (by simp [results, Try.results58, go_sem]) rfl ⟨⟨2, jb, ep, dr, 0, si, ak⟩, by rw [HV.out], (fun _ h => by rw [HV.out] at h; cases h), ?_⟩
    exact (((Below.refl _ _).alloc (Nat.le_refl _) _).alloc (by simp) _).alloc (by simp <;> omega) _
  by_cases s3 : st = 3
  case pos =>
    subst s3
    have HV : Hid (mayB ⟨3, jb, ep, dr, wt, si, ak⟩ 6 job = false) := by
      show _ = _
      simp [mayB]
    go_enter Try.func58, Try.ntmps58
    go_wp2_with fail
    refine bodyPost_ret (v := .tuple #[.agg #[.int .i64 3, .int .i64 jb, .int .i64 ep, .bool dr, .int .i64 0, .int .i64 si, .int .i64 ak], .bool false]) (by simp [results, Try.results58, go_sem]) rfl ⟨⟨3, jb, ep, dr, 0, si, ak⟩, by rw [HV.out], (fun _ h => by rw [HV.out] at h; cases h), ?_⟩
    exact (((Below.refl _ _).alloc (Nat.le_refl _) _).alloc (by simp) _).alloc (by simp <;> omega) _
  by_cases s4 : st = 4
  case pos =>
    subst s4
    have HV : Hid (mayB ⟨4, jb, ep, dr, wt, si, ak⟩ 6 job = false) := by
      show _ = _
      simp [mayB]
    go_enter Try.func58, Try.ntmps58
    go_wp2_with fail
    refine bodyPost_ret (v := .tuple #[.agg #[.int .i64 4, .int .i64 jb, .int .i64 ep, .bool dr, .int .i64 0, .int .i64 si, .int .i64 ak], .bool false]) (by simp [results, Try.results58, go_sem]) rfl ⟨⟨4, jb, ep, dr, 0, si, ak⟩, by rw [HV.out], (fun _ h => by rw [HV.out] at h; cases h), ?_⟩
    exact (((Below.refl _ _).alloc (Nat.le_refl _) _).alloc (by simp) _).alloc (by simp <;> omega) _
  have z0 : (st == 0) = false := by simpa using s0
  have y0 : (st != 0) = true := by simpa using s0
  have z1 : (st == 1) = false := by simpa using s1
  have y1 : (st != 1) = true := by simpa using s1
  have z2 : (st == 2) = false := by simpa using s2
  have y2 : (st != 2) = true := by simpa using s2
  have z3 : (st == 3) = false := by simpa using s3
  have y3 : (st != 3) = true := by simpa using s3
  have z4 : (st == 4) = false := by simpa using s4
  have y4 : (st != 4) = true := by simpa using s4
  clear s0 s1 s2 s3 s4
  have HV : Hid (mayB ⟨st, jb, ep, dr, wt, si, ak⟩ 6 job = false) := by
    show _ = _
    simp [mayB, z0, z1, z2, z3, z4, y0, y1, y2, y3, y4]
  go_enter Try.func58, Try.ntmps58
  go_wp2_with fail
  refine bodyPost_ret (v := .tuple #[.agg #[.int .i64 st, .int .i64 jb, .int .i64 ep, .bool dr, .int .i64 0, .int .i64 si, .int .i64 ak], .bool false]) (by simp [results, Try.results58, go_sem]) rfl ⟨⟨st, jb, ep, dr, 0, si, ak⟩, by rw [HV.out], (fun _ h => by rw [HV.out] at h; cases h), ?_⟩
  exact (((Below.refl _ _).alloc (Nat.le_refl _) _).alloc (by simp) _).alloc (by simp <;> omega) _
set_option maxHeartbeats 4000000 in
set_option maxRecDepth 100000 in
theorem one_7 (x : Nd) (job now : Int) (w : World) (he : x.ep ≤ 999999999) (he' : 0 ≤ x.ep) : OneC x 7 job now w := by
  obtain ⟨st, jb, ep, dr, wt, si, ak⟩ := x
  unfold OneC
  simp only at *
  by_cases s0 : st = 0
  case pos =>
    subst s0
    have HV : Hid (mayB ⟨0, jb, ep, dr, wt, si, ak⟩ 7 job = false) := by
      show _ = _
      simp [mayB]
    go_enter Try.func58, Try.ntmps58
    go_wp2_with fail
    refine bodyPost_ret (v := .tuple #[.agg #[.int .i64 3, .int .i64 jb, .int .i64 ep, .bool dr, .int .i64 5, .int .i64 now, .int .i64 now], .bool false]) (by simp [results, Try.results58, go_sem]) rfl ⟨⟨3, jb, ep, dr, 5, now, now⟩, by rw [HV.out], (fun _ h => by rw [HV.out] at h; cases h), ?_⟩
    exact (((Below.refl _ _).alloc (Nat.le_refl _) _).alloc (by simp) _).alloc (by simp <;> omega) _
  by_cases s1 : st = 1
  case pos =>
    subst s1
    have HV : Hid (mayB ⟨1, jb, ep, dr, wt, si, ak⟩ 7 job = true) := by
      show _ = _
      simp [mayB]
    go_enter Try.func58, Try.ntmps58
    go_wp2_with fail
    refine bodyPost_ret (v := .tuple #[.agg #[.int .i64 3, .int .i64 jb, .int .i64 ep, .bool dr, .int .i64 5, .int .i64 now, .int .i64 now], .bool true]) (by simp [results, Try.results58, go_sem]) rfl ⟨⟨3, jb, ep, dr, 5, now, now⟩, by rw [HV.out], (fun _ _ => by simp [doneN, sendN]), ?_⟩
    exact (((Below.refl _ _).alloc (Nat.le_refl _) _).alloc (by simp) _).alloc (by simp <;> omega) _
  by_cases s2 : st = 2
  case pos =>
    subst s2
    have HV : Hid (mayB ⟨2, jb, ep, dr, wt, si, ak⟩ 7 job = true) := by
      show _ = _
      simp [mayB]
    go_enter Try.func58, Try.ntmps58
    go_wp2_with fail
    refine bodyPost_ret (v := .tuple #[.agg #[.int .i64 3, .int .i64 jb, .int .i64 ep, .bool dr, .int .i64 5, .int .i64 now, .int .i64 now], .bool true]) (by simp [results, Try.results58, go_sem]) rfl ⟨⟨3, jb, ep, dr, 5, now, now⟩, by rw [HV.out], (fun _ _ => by simp [doneN, sendN]), ?_⟩
    exact (((Below.refl _ _).alloc (Nat.le_refl _) _).alloc (by simp) _).alloc (by simp <;> omega) _
  by_cases s3 : st = 3
  case pos =>
    subst s3
    have HV : Hid (mayB ⟨3, jb, ep, dr, wt, si, ak⟩ 7 job = false) := by
      show _ = _
      simp [mayB]
    go_enter Try.func58, Try.ntmps58
    go_wp2_with fail
    refine bodyPost_ret (v := .tuple #[.agg #[.int .i64 3, .int .i64 jb, .int .i64 ep, .bool dr, .int .i64 5, .int .i64 now, .int .i64 now], .bool false]) (by simp [results, Try.results58, go_sem]) rfl ⟨⟨3, jb, ep, dr, 5, now, now⟩, by rw [HV.out], (fun _ h => by rw [HV.out] at h; cases h), ?_⟩
    exact (((Below.refl _ _).alloc (Nat.le_refl _) _).alloc (by simp) _).alloc (by simp <;> omega) _
  by_cases s4 : st = 4
  case pos =>
    subst s4
    have HV : Hid (mayB ⟨4, jb, ep, dr, wt, si, ak⟩ 7 job = false) := by
      show _ = _
      simp [mayB]
    go_enter Try.func58, Try.ntmps58
    go_wp2_with fail
    refine bodyPost_ret (v := .tuple #[.agg #[.int .i64 3, .int .i64 jb, .int .i64 ep, .bool dr, .int .i64 5, .int .i64 now, .int .i64 now], .bool false]) (by simp [results, Try.results58, go_sem]) rfl ⟨⟨3, jb, ep, dr, 5, now, now⟩, by rw [HV.out], (fun _ h => by rw [HV.out] at h; cases h), ?_⟩
    exact (((Below.refl _ _).alloc (Nat.le_refl _) _).alloc (by simp) _).alloc (by simp <;> omega) _
  have z0 : (st == 0) = false := by simpa using s0
  have y0 : (st != 0) = true := by simpa using s0
  have z1 : (st == 1) = false := by simpa using s1
  have y1 : (st != 1) = true := by simpa using s1
  have z2 : (st == 2) = false := by simpa using s2
  have y2 : (st != 2) = true := by simpa using s2
  have z3 : (st == 3) = false := by simpa using s3
  have y3 : (st != 3) = true := by simpa using s3
  have z4 : (st == 4) = false := by simpa using s4
  have y4 : (st != 4) = true := by simpa using s4
  clear s0 s1 s2 s3 s4
  have HV : Hid (mayB ⟨st, jb, ep, dr, wt, si, ak⟩ 7 job = false) := by
    show _ = _
    simp [mayB, z0, z1, z2, z3, z4, y0, y1, y2, y3, y4]
  go_enter Try.func58, Try.ntmps58
  go_wp2_with fail
  refine bodyPost_ret (v := .tuple #[.agg #[.int .i64 3, .int .i64 jb, .int .i64 ep, .bool dr, .int .i64 5, .int .i64 now, .int .i64 now], .bool false]) (by simp [results, Try.results58, go_sem]) rfl ⟨⟨3, jb, ep, dr, 5, now, now⟩, by rw [HV.out], (fun _ h => by rw [HV.out] at h; cases h), ?_⟩
  exact (((Below.refl _ _).alloc (Nat.le_refl _) _).alloc (by simp) _).alloc (by simp <;> omega) _
set_option maxHeartbeats 4000000 in
set_option maxRecDepth 100000 in
theorem one_8 (x : Nd) (job now : Int) (w : World) (he : x.ep ≤ 999999999) (he' : 0 ≤ x.ep) : OneC x 8 job now w := by
  obtain ⟨st, jb, ep, dr, wt, si, ak⟩ := x
  unfold OneC
  simp only at *
  by_cases s0 : st = 0
  case pos =>
    subst s0
    have HV : Hid (mayB ⟨0, jb, ep, dr, wt, si, ak⟩ 8 job = false) := by
      show _ = _
      simp [mayB]
    go_enter Try.func58, Try.ntmps58
    go_wp2_with fail
    refine bodyPost_ret (v := .tuple #[.agg #[.int .i64 0, .int .i64 0, .int .i64 ep, .bool dr, .int .i64 0, .int .i64 si, .int .i64 ak], .bool false]) (by simp [results, Try.results58, go_sem]) rfl ⟨⟨0, 0, ep, dr, 0, si, ak⟩, by rw [HV.out], (fun _ h => by rw [HV.out] at h; cases h), ?_⟩
    exact (((Below.refl _ _).alloc (Nat.le_refl _) _).alloc (by simp) _).alloc (by simp <;> omega) _
  by_cases s1 : st = 1
  case pos =>
    subst s1
    have HV : Hid (mayB ⟨1, jb, ep, dr, wt, si, ak⟩ 8 job = false) := by
      show _ = _
      simp [mayB]
    go_enter Try.func58, Try.ntmps58
    go_wp2_with fail
    refine bodyPost_ret (v := .tuple #[.agg #[.int .i64 0, .int .i64 0, .int .i64 ep, .bool dr, .int .i64 0, .int .i64 si, .int .i64 ak], .bool false]) (by simp [results, Try.results58, go_sem]) rfl ⟨⟨0, 0, ep, dr, 0, si, ak⟩, by rw [HV.out], (fun _ h => by rw [HV.out] at h; cases h), ?_⟩
    exact (((Below.refl _ _).alloc (Nat.le_refl _) _).alloc (by simp) _).alloc (by simp <;> omega) _
  by_cases s2 : st = 2
  case pos =>
    subst s2
    have HV : Hid (mayB ⟨2, jb, ep, dr, wt, si, ak⟩ 8 job = false) := by
      show _ = _
      simp [mayB]
    go_enter Try.func58, Try.ntmps58
    go_wp2_with fail
    refine bodyPost_ret (v := .tuple #[.agg #[.int .i64 0, .int .i64 0, .int .i64 ep, .bool dr, .int .i64 0, .int .i64 si, .int .i64 ak], .bool false]) (by simp [results, Try.results58, go_sem]) rfl ⟨⟨0, 0, ep, dr, 0, si, ak⟩, by rw [HV.out], (fun _ h => by rw [HV.out] at h; cases h), ?_⟩
    exact (((Below.refl _ _).alloc (Nat.le_refl _) _).alloc (by simp) _).alloc (by simp <;> omega) _
  by_cases s3 : st = 3
  case pos =>
    subst s3
    have HV : Hid (mayB ⟨3, jb, ep, dr, wt, si, ak⟩ 8 job = true) := by
      show _ = _
      simp [mayB]
    go_enter Try.func58, Try.ntmps58
    go_wp2_with fail
    refine bodyPost_ret (v := .tuple #[.agg #[.int .i64 0, .int .i64 0, .int .i64 ep, .bool dr, .int .i64 0, .int .i64 si, .int .i64 ak], .bool true]) (by simp [results, Try.results58, go_sem]) rfl ⟨⟨0, 0, ep, dr, 0, si, ak⟩, by rw [HV.out], (fun _ _ => by simp [doneN, sendN]), ?_⟩
    exact (((Below.refl _ _).alloc (Nat.le_refl _) _).alloc (by simp) _).alloc (by simp <;> omega) _
  by_cases s4 : st = 4
  case pos =>
    subst s4
    have HV : Hid (mayB ⟨4, jb, ep, dr, wt, si, ak⟩ 8 job = false) := by
      show _ = _
      simp [mayB]
    go_enter Try.func58, Try.ntmps58
    go_wp2_with fail
    refine bodyPost_ret (v := .tuple #[.agg #[.int .i64 0, .int .i64 0, .int .i64 ep, .bool dr, .int .i64 0, .int .i64 si, .int .i64 ak], .bool false]) (by simp [results, Try.results58, go_sem]) rfl ⟨⟨0, 0, ep, dr, 0, si, ak⟩, by rw [HV.out], (fun _ h => by rw [HV.out] at h; cases h), ?_⟩
    exact (((Below.refl _ _).alloc (Nat.le_refl _) _).alloc (by simp) _).alloc (by simp <;> omega) _
  have z0 : (st == 0) = false := by simpa using s0
  have y0 : (st != 0) = true := by simpa using s0
  have z1 : (st == 1) = false := by simpa using s1
  have y1 : (st != 1) = true := by simpa using s1
  have z2 : (st == 2) = false := by simpa using s2
  have y2 : (st != 2) = true := by simpa using s2
  have z3 : (st == 3) = false := by simpa using s3
  have y3 : (st != 3) = true := by simpa using s3
  have z4 : (st == 4) = false := by simpa using s4
  have y4 : (st != 4) = true := by simpa using s4
  clear s0 s1 s2 s3 s4
  have HV : Hid (mayB ⟨st, jb, ep, dr, wt, si, ak⟩ 8 job = false) := by
    show _ = _
    simp [mayB, z0, z1, z2, z3, z4, y0, y1, y2, y3, y4]
  go_enter Try.func58, Try.ntmps58
  go_wp2_with fail
  refine bodyPost_ret (v := .tuple #[.agg #[.int .i64 0, .int .i64 0, .int .i64 ep, .bool dr, .int .i64 0, .int .i64 si, .int .i64 ak], .bool false]) (by simp [results, Try.results58, go_sem]) rfl ⟨⟨0, 0, ep, dr, 0, si, ak⟩, by rw [HV.out], (fun _ h => by rw [HV.out] at h; cases h), ?_⟩
  exact (((Below.refl _ _).alloc (Nat.le_refl _) _).alloc (by simp) _).alloc (by simp <;> omega) _
set_option maxHeartbeats 4000000 in
set_option maxRecDepth 100000 in
theorem one_9 (x : Nd) (job now : Int) (w : World) (he : x.ep ≤ 999999999) (he' : 0 ≤ x.ep) : OneC x 9 job now w := by
  obtain ⟨st, jb, ep, dr, wt, si, ak⟩ := x
  unfold OneC
  simp only at *
  by_cases s0 : st = 0
  case pos =>
    subst s0
    by_cases hep : ep < 999999999
    case pos =>
      have HV : Hid (mayB ⟨0, jb, ep, dr, wt, si, ak⟩ 9 job = true) := by
        show _ = _
        simp [mayB, hep]
      go_enter Try.func58, Try.ntmps58
      go_wp2_with fail
      refine bodyPost_ret (v := .tuple #[.agg #[.int .i64 4, .int .i64 0, .int .i64 (ep + 1), .bool dr, .int .i64 0, .int .i64 si, .int .i64 ak], .bool true]) (by simp [results, Try.results58, go_sem]) rfl ⟨⟨4, 0, ep + 1, dr, 0, si, ak⟩, by rw [HV.out], (fun _ _ => by simp [doneN, sendN]), ?_⟩
      exact (((Below.refl _ _).alloc (Nat.le_refl _) _).alloc (by simp) _).alloc (by simp <;> omega) _
    case neg =>
      have hep' : 999999999 ≤ ep := by omega
      have HV : Hid (mayB ⟨0, jb, ep, dr, wt, si, ak⟩ 9 job = false) := by
        show _ = _
        simp [mayB, hep]
      go_enter Try.func58, Try.ntmps58
      go_wp2_with fail
      refine bodyPost_ret (v := .tuple #[.agg #[.int .i64 4, .int .i64 0, .int .i64 (ep + 1), .bool dr, .int .i64 0, .int .i64 si, .int .i64 ak], .bool false]) (by simp [results, Try.results58, go_sem]) rfl ⟨⟨4, 0, ep + 1, dr, 0, si, ak⟩, by rw [HV.out], (fun _ h => by rw [HV.out] at h; cases h), ?_⟩
      exact (((Below.refl _ _).alloc (Nat.le_refl _) _).alloc (by simp) _).alloc (by simp <;> omega) _
  by_cases s1 : st = 1
  case pos =>
    subst s1
    by_cases hep : ep < 999999999
    case pos =>
      have HV : Hid (mayB ⟨1, jb, ep, dr, wt, si, ak⟩ 9 job = true) := by
        show _ = _
        simp [mayB, hep]
      go_enter Try.func58, Try.ntmps58
      go_wp2_with fail
      refine bodyPost_ret (v := .tuple #[.agg #[.int .i64 4, .int .i64 0, .int .i64 (ep + 1), .bool dr, .int .i64 0, .int .i64 si, .int .i64 ak], .bool true]) (by simp [results, Try.results58, go_sem]) rfl ⟨⟨4, 0, ep + 1, dr, 0, si, ak⟩, by rw [HV.out], (fun _ _ => by simp [doneN, sendN]), ?_⟩
      exact (((Below.refl _ _).alloc (Nat.le_refl _) _).alloc (by simp) _).alloc (by simp <;> omega) _
    case neg =>
      have hep' : 999999999 ≤ ep := by omega
      have HV : Hid (mayB ⟨1, jb, ep, dr, wt, si, ak⟩ 9 job = false) := by
        show _ = _
        simp [mayB, hep]
      go_enter Try.func58, Try.ntmps58
      go_wp2_with fail
      refine bodyPost_ret (v := .tuple #[.agg #[.int .i64 4, .int .i64 0, .int .i64 (ep + 1), .bool dr, .int .i64 0, .int .i64 si, .int .i64 ak], .bool false]) (by simp [results, Try.results58, go_sem]) rfl ⟨⟨4, 0, ep + 1, dr, 0, si, ak⟩, by rw [HV.out], (fun _ h => by rw [HV.out] at h; cases h), ?_⟩
      exact (((Below.refl _ _).alloc (Nat.le_refl _) _).alloc (by simp) _).alloc (by simp <;> omega) _
  by_cases s2 : st = 2
  case pos =>
    subst s2
    by_cases hep : ep < 999999999
    case pos =>
      have HV : Hid (mayB ⟨2, jb, ep, dr, wt, si, ak⟩ 9 job = true) := by
        show _ = _
        simp [mayB, hep]
      go_enter Try.func58, Try.ntmps58
      go_wp2_with fail
      refine bodyPost_ret (v := .tuple #[.agg #[.int .i64 4, .int .i64 0, .int .i64 (ep + 1), .bool dr, .int .i64 0, .int .i64 si, .int .i64 ak], .bool true]) (by simp [results, Try.results58, go_sem]) rfl ⟨⟨4, 0, ep + 1, dr, 0, si, ak⟩, by rw [HV.out], (fun _ _ => by simp [doneN, sendN]), ?_⟩
      exact (((Below.refl _ _).alloc (Nat.le_refl _) _).alloc (by simp) _).alloc (by simp <;> omega) _
    case neg =>
      have hep' : 999999999 ≤ ep := by omega
      have HV : Hid (mayB ⟨2, jb, ep, dr, wt, si, ak⟩ 9 job = false) := by
        show _ = _
        simp [mayB, hep]
      go_enter Try.func58, Try.ntmps58
      go_wp2_with fail
      refine bodyPost_ret (v := .tuple #[.agg #[.int .i64 4, .int .i64 0, .int .i64 (ep + 1), .bool dr, .int .i64 0, .int .i64 si, .int .i64 ak], .bool false]) (by simp [results, Try.results58, go_sem]) rfl ⟨⟨4, 0, ep + 1, dr, 0, si, ak⟩, by rw [HV.out], (fun _ h => by rw [HV.out] at h; cases h), ?_⟩
      exact (((Below.refl _ _).alloc (Nat.le_refl _) _).alloc (by simp) _).alloc (by simp <;> omega) _
  by_cases s3 : st = 3
  case pos =>
    subst s3
    by_cases hep : ep < 999999999
    case pos =>
      have HV : Hid (mayB ⟨3, jb, ep, dr, wt, si, ak⟩ 9 job = true) := by
        show _ = _
        simp [mayB, hep]
      go_enter Try.func58, Try.ntmps58
      go_wp2_with fail
      refine bodyPost_ret (v := .tuple #[.agg #[.int .i64 4, .int .i64 0, .int .i64 (ep + 1), .bool dr, .int .i64 0, .int .i64 si, .int .i64 ak], .bool true]) (by simp [results, Try.results58, go_sem]) rfl ⟨⟨4, 0, ep + 1, dr, 0, si, ak⟩, by rw [HV.out], (fun _ _ => by simp [doneN, sendN]), ?_⟩
      exact (((Below.refl _ _).alloc (Nat.le_refl _) _).alloc (by simp) _).alloc (by simp <;> omega) _
    case neg =>
      have hep' : 999999999 ≤ ep := by omega
      have HV : Hid (mayB ⟨3, jb, ep, dr, wt, si, ak⟩ 9 job = false) := by
        show _ = _
        simp [mayB, hep]
      go_enter Try.func58, Try.ntmps58
      go_wp2_with fail
      refine bodyPost_ret (v := .tuple #[.agg #[.int .i64 4, .int .i64 0, .int .i64 (ep + 1), .bool dr, .int .i64 0, .int .i64 si, .int .i64 ak], .bool false]) (by simp [results, Try.results58, go_sem]) rfl ⟨⟨4, 0, ep + 1, dr, 0, si, ak⟩, by rw [HV.out], (fun _ h => by rw [HV.out] at h; cases h), ?_⟩
      exact (((Below.refl _ _).alloc (Nat.le_refl _) _).alloc (by simp) _).alloc (by simp <;> omega) _
  by_cases s4 : st = 4
  case pos =>
    subst s4
    have HV : Hid (mayB ⟨4, jb, ep, dr, wt, si, ak⟩ 9 job = false) := by
      show _ = _
      simp [mayB]
    go_enter Try.func58, Try.ntmps58
    go_wp2_with fail
    refine bodyPost_ret (v := .tuple #[.agg #[.int .i64 4, .int .i64 0, .int .i64 (ep + 1), .bool dr, .int .i64 0, .int .i64 si, .int .i64 ak], .bool false]) (by simp [results, Try.results58, go_sem]) rfl ⟨⟨4, 0, ep + 1, dr, 0, si, ak⟩, by rw [HV.out], (fun _ h => by rw [HV.out] at h; cases h), ?_⟩
    exact (((Below.refl _ _).alloc (Nat.le_refl _) _).alloc (by simp) _).alloc (by simp <;> omega) _
  have z0 : (st == 0) = false := by simpa using s0
  have y0 : (st != 0) = true := by simpa using s0
  have z1 : (st == 1) = false := by simpa using s1
  have y1 : (st != 1) = true := by simpa using s1
  have z2 : (st == 2) = false := by simpa using s2
  have y2 : (st != 2) = true := by simpa using s2
  have z3 : (st == 3) = false := by simpa using s3
  have y3 : (st != 3) = true := by simpa using s3
  have z4 : (st == 4) = false := by simpa using s4
  have y4 : (st != 4) = true := by simpa using s4
  clear s0 s1 s2 s3 s4
  by_cases hep : ep < 999999999
  case pos =>
    have HV : Hid (mayB ⟨st, jb, ep, dr, wt, si, ak⟩ 9 job = true) := by
      show _ = _
      simp [mayB, z0, z1, z2, z3, z4, y0, y1, y2, y3, y4, hep]
    go_enter Try.func58, Try.ntmps58
    go_wp2_with fail
    refine bodyPost_ret (v := .tuple #[.agg #[.int .i64 4, .int .i64 0, .int .i64 (ep + 1), .bool dr, .int .i64 0, .int .i64 si, .int .i64 ak], .bool true]) (by simp [results, Try.results58, go_sem]) rfl ⟨⟨4, 0, ep + 1, dr, 0, si, ak⟩, by rw [HV.out], (fun _ _ => by simp [doneN, sendN]), ?_⟩
    exact (((Below.refl _ _).alloc (Nat.le_refl _) _).alloc (by simp) _).alloc (by simp <;> omega) _
  case neg =>
    have hep' : 999999999 ≤ ep := by omega
    have HV : Hid (mayB ⟨st, jb, ep, dr, wt, si, ak⟩ 9 job = false) := by
      show _ = _
      simp [mayB, z0, z1, z2, z3, z4, y0, y1, y2, y3, y4, hep]
    go_enter Try.func58, Try.ntmps58
    go_wp2_with fail
    refine bodyPost_ret (v := .tuple #[.agg #[.int .i64 4, .int .i64 0, .int .i64 (ep + 1), .bool dr, .int .i64 0, .int .i64 si, .int .i64 ak], .bool false]) (by simp [results, Try.results58, go_sem]) rfl ⟨⟨4, 0, ep + 1, dr, 0, si, ak⟩, by rw [HV.out], (fun _ h => by rw [HV.out] at h; cases h), ?_⟩
    exact (((Below.refl _ _).alloc (Nat.le_refl _) _).alloc (by simp) _).alloc (by simp <;> omega) _
end Go.Proofs.Ytdamocjbkdknaaa.FleetW
