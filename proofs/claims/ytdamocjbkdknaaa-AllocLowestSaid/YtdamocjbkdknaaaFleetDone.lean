/-
  Contract of muster/fleet: done.
-/
import Derived.Test.YtdamocjbkdknaaaFleet
import Derived.RegionTactic
import Derived.ChangeAlike
namespace Go.Proofs.Ytdamocjbkdknaaa.FleetW
open Go.RowKit Mem Fleet
set_option linter.unusedVariables false
set_option linter.unusedSimpArgs false
set_option linter.unnecessarySimpa false

def SendPost (bx : Nat) (t : TypeId) (cs : Array Value) (kind now : Int) (w : World) (e : Ending) (w' : World) : Prop :=
  e = .returned (.tuple #[]) ∧ Blk w' bx t (((cs.setIfInBounds 4 (.int .i64 kind)).setIfInBounds 5 (.int .i64 now)).setIfInBounds 6 (.int .i64 now)) ∧ (∀ b, b ≠ bx → w'.heap[b]? = w.heap[b]?) ∧ ∀ B, B ≤ bx → Below B w w'
set_option maxHeartbeats 1000000 in
theorem send_any (bn bx : Nat) (t : TypeId) (v0 v1 v2 v3 v4 v5 v6 : Value) (kind now : Int) (w : World) (hn : w.cell? ⟨bn, 0, none⟩ = some (.int .i64 now)) (hx : Blk w bx t #[v0, v1, v2, v3, v4, v5, v6]) (hne : bn ≠ bx) :
    Calls Try.prog 71 #[.int .i64 kind, .pointer (some ⟨bn, 0, none⟩), .pointer (some ⟨bx, 0, none⟩)] w (SendPost bx t #[v0, v1, v2, v3, v4, v5, v6] kind now w) := by
  have HX := Lib.hid hx
  obtain ⟨c0, c1, c2, c3, c4, c5, c6⟩ := blk7 hx
  have f4 := hx.frozen 4
  have f5 := hx.frozen 5
  have f6 := hx.frozen 6
  clear hx
  go_enter Try.func71, Try.ntmps71
  go_wp2_with fail
  go_region
  all_goals go_wp2_with fail
  go_end0
  refine ⟨rfl, (((HX.out.set 4 _).set 5 _).set 6 _).drew, fun b hb => ?_, fun B hB => (((((Below.refl B w).setCell (p := ⟨bx, 4, none⟩) hB _).setCell (p := ⟨bx, 5, none⟩) hB _).setCell (p := ⟨bx, 6, none⟩) hB _)).drew⟩
  show (World.setCell (World.setCell (World.setCell w _ _) _ _) _ _).heap[b]? = _
  rw [Below.heap_setCell _ _ _ b hb, Below.heap_setCell _ _ _ b hb, Below.heap_setCell _ _ _ b hb]
abbrev DoneC (x : Nd) (act job now : Int) (w : World) : Prop := Calls Try.prog 57 #[.agg #[.int .i64 x.st, .int .i64 x.jb, .int .i64 x.ep, .bool x.dr, .int .i64 x.wt, .int .i64 x.si, .int .i64 x.ak], .int .i64 act, .int .i64 job, .int .i64 now] w
  (Ret (.agg #[.int .i64 (doneN x act job now).st, .int .i64 (doneN x act job now).jb, .int .i64 (doneN x act job now).ep, .bool (doneN x act job now).dr, .int .i64 (doneN x act job now).wt, .int .i64 (doneN x act job now).si, .int .i64 (doneN x act job now).ak]) w)
abbrev ZN : Array Value := #[.int .i64 0, .int .i64 0, .int .i64 0, .bool false, .int .i64 0, .int .i64 0, .int .i64 0]
abbrev DW (w : World) (v0 v1 v2 v3 v4 v5 v6 : Value) (now : Int) : World := ((w.alloc (.cells #[v0, v1, v2, v3, v4, v5, v6] 48)).alloc (.cells #[.int .i64 now] 3)).alloc (.cells #[.int .i64 0, .int .i64 0, .int .i64 0, .bool false, .int .i64 0, .int .i64 0, .int .i64 0] 48)
def SentPost (w : World) (v0 v1 v2 v3 : Value) (kind now : Int) (e : Ending) (w' : World) : Prop :=
  e = .returned (.tuple #[]) ∧ Blk w' w.heap.size 48 #[v0, v1, v2, v3, .int .i64 kind, .int .i64 now, .int .i64 now] ∧ Blk w' (w.heap.size + 1 + 1) 48 ZN ∧ Below w.heap.size w w'
theorem dw_x (w : World) (v0 v1 v2 v3 v4 v5 v6 : Value) (now : Int) : Blk (DW w v0 v1 v2 v3 v4 v5 v6 now) w.heap.size 48 #[v0, v1, v2, v3, v4, v5, v6] := ((Blk.new _ _ _).alloc _).alloc _
theorem dw_n (w : World) (v0 v1 v2 v3 v4 v5 v6 : Value) (now : Int) : Blk (DW w v0 v1 v2 v3 v4 v5 v6 now) (w.heap.size + 1) 3 #[.int .i64 now] := by
  have := (Blk.new (w.alloc (.cells #[v0, v1, v2, v3, v4, v5, v6] 48)) 3 #[.int .i64 now]).alloc (.cells ZN 48)
  simpa using this
theorem dw_z (w : World) (v0 v1 v2 v3 v4 v5 v6 : Value) (now : Int) : Blk (DW w v0 v1 v2 v3 v4 v5 v6 now) (w.heap.size + 1 + 1) 48 ZN := by
  have := Blk.new ((w.alloc (.cells #[v0, v1, v2, v3, v4, v5, v6] 48)).alloc (.cells #[.int .i64 now] 3)) 48 ZN
  simpa using this
theorem dw_b (w : World) (v0 v1 v2 v3 v4 v5 v6 : Value) (now : Int) : Below w.heap.size w (DW w v0 v1 v2 v3 v4 v5 v6 now) := (((Below.refl _ _).alloc (Nat.le_refl _) _).alloc (by simp) _).alloc (by simp <;> omega) _
theorem sent_any (w : World) (v0 v1 v2 v3 v4 v5 v6 : Value) (kind now : Int) :
    Calls Try.prog 71 #[.int .i64 kind, .pointer (some ⟨w.heap.size + 1, 0, none⟩), .pointer (some ⟨w.heap.size, 0, none⟩)] (DW w v0 v1 v2 v3 v4 v5 v6 now) (SentPost w v0 v1 v2 v3 kind now) := by
  refine (send_any (w.heap.size + 1) w.heap.size 48 v0 v1 v2 v3 v4 v5 v6 kind now _ ((dw_n w v0 v1 v2 v3 v4 v5 v6 now).cell 0) (dw_x w v0 v1 v2 v3 v4 v5 v6 now) (by omega)).mono ?_
  rintro e w' ⟨he, hx, hr, hb⟩
  exact ⟨he, hx, (hr _ (by omega)).trans (dw_z w v0 v1 v2 v3 v4 v5 v6 now), (dw_b w v0 v1 v2 v3 v4 v5 v6 now).trans (hb _ (Nat.le_refl _))⟩
set_option maxHeartbeats 1000000 in
set_option maxRecDepth 100000 in
theorem done_1 (x : Nd) (job now : Int) (w : World) (he : x.ep ≤ 999999999) (he' : 0 ≤ x.ep) : DoneC x 1 job now w := by
  obtain ⟨st, jb, ep, dr, wt, si, ak⟩ := x
  unfold DoneC
  simp only at *
  have HD : Hid (doneN ⟨st, jb, ep, dr, wt, si, ak⟩ 1 job now = ⟨1, job, ep + 1, dr, 1, now, now⟩) := by show _ = _; simp [doneN, sendN]
  rw [HD.out]
  go_enter Try.func57, Try.ntmps57
  go_wp2_with fail
  refine (sent_any w _ _ _ _ _ _ _ 1 now).mono ?_
  rintro e w1 ⟨rfl, kx, kz, b1⟩
  obtain ⟨x0, x1, x2, x3, x4, x5, x6⟩ := blk7 kx
  obtain ⟨z0, z1, z2, z3, z4, z5, z6⟩ := blk7 kz
  have g0 := kz.frozen 0
  have g1 := kz.frozen 1
  have g2 := kz.frozen 2
  have g3 := kz.frozen 3
  have g4 := kz.frozen 4
  have g5 := kz.frozen 5
  have g6 := kz.frozen 6
  have HK := Lib.hid kz
  clear kx kz
  go_wp2_with fail
  have kf := ((((((HK.out.set 0 (.int .i64 1)).set 1 (.int .i64 job)).set 2 (.int .i64 (ep + 1))).set 3 (.bool dr)).set 4 (.int .i64 1)).set 5 (.int .i64 now)).set 6 (.int .i64 now)
  obtain ⟨y0, y1, y2, y3, y4, y5, y6⟩ := blk7 kf
  refine bodyPost_ret (v := .agg #[.int .i64 1, .int .i64 job, .int .i64 (ep + 1), .bool dr, .int .i64 1, .int .i64 now, .int .i64 now]) (by simp [results, Try.results57, go_sem, y0, y1, y2, y3, y4, y5, y6]) rfl ⟨rfl, ?_⟩
  have hle : w.heap.size ≤ w.heap.size + 1 + 1 := by omega
  exact below_setCells (g := w.heap.size + 1 + 1) b1 hle [.int .i64 1, .int .i64 job, .int .i64 (ep + 1), .bool dr, .int .i64 1, .int .i64 now, .int .i64 now] 0
set_option maxHeartbeats 1000000 in
set_option maxRecDepth 100000 in
theorem done_2 (x : Nd) (job now : Int) (w : World) (he : x.ep ≤ 999999999) (he' : 0 ≤ x.ep) : DoneC x 2 job now w := by
  obtain ⟨st, jb, ep, dr, wt, si, ak⟩ := x
  unfold DoneC
  simp only at *
  have HD : Hid (doneN ⟨st, jb, ep, dr, wt, si, ak⟩ 2 job now = ⟨2, job, ep + 1, dr, 2, now, now⟩) := by show _ = _; simp [doneN, sendN]
  rw [HD.out]
  go_enter Try.func57, Try.ntmps57
  go_wp2_with fail
  refine (sent_any w _ _ _ _ _ _ _ 2 now).mono ?_
  rintro e w1 ⟨rfl, kx, kz, b1⟩
  obtain ⟨x0, x1, x2, x3, x4, x5, x6⟩ := blk7 kx
  obtain ⟨z0, z1, z2, z3, z4, z5, z6⟩ := blk7 kz
  have g0 := kz.frozen 0
  have g1 := kz.frozen 1
  have g2 := kz.frozen 2
  have g3 := kz.frozen 3
  have g4 := kz.frozen 4
  have g5 := kz.frozen 5
  have g6 := kz.frozen 6
  have HK := Lib.hid kz
  clear kx kz
  go_wp2_with fail
  have kf := ((((((HK.out.set 0 (.int .i64 2)).set 1 (.int .i64 job)).set 2 (.int .i64 (ep + 1))).set 3 (.bool dr)).set 4 (.int .i64 2)).set 5 (.int .i64 now)).set 6 (.int .i64 now)
  obtain ⟨y0, y1, y2, y3, y4, y5, y6⟩ := blk7 kf
  refine bodyPost_ret (v := .agg #[.int .i64 2, .int .i64 job, .int .i64 (ep + 1), .bool dr, .int .i64 2, .int .i64 now, .int .i64 now]) (by simp [results, Try.results57, go_sem, y0, y1, y2, y3, y4, y5, y6]) rfl ⟨rfl, ?_⟩
  have hle : w.heap.size ≤ w.heap.size + 1 + 1 := by omega
  exact below_setCells (g := w.heap.size + 1 + 1) b1 hle [.int .i64 2, .int .i64 job, .int .i64 (ep + 1), .bool dr, .int .i64 2, .int .i64 now, .int .i64 now] 0
set_option maxHeartbeats 1000000 in
set_option maxRecDepth 100000 in
theorem done_3 (x : Nd) (job now : Int) (w : World) : DoneC x 3 job now w := by
  obtain ⟨st, jb, ep, dr, wt, si, ak⟩ := x
  unfold DoneC
  simp only at *
  have HD : Hid (doneN ⟨st, jb, ep, dr, wt, si, ak⟩ 3 job now = ⟨1, jb, ep, dr, 3, now, now⟩) := by show _ = _; simp [doneN, sendN]
  rw [HD.out]
  go_enter Try.func57, Try.ntmps57
  go_wp2_with fail
  refine (sent_any w _ _ _ _ _ _ _ 3 now).mono ?_
  rintro e w1 ⟨rfl, kx, kz, b1⟩
  obtain ⟨x0, x1, x2, x3, x4, x5, x6⟩ := blk7 kx
  obtain ⟨z0, z1, z2, z3, z4, z5, z6⟩ := blk7 kz
  have g0 := kz.frozen 0
  have g1 := kz.frozen 1
  have g2 := kz.frozen 2
  have g3 := kz.frozen 3
  have g4 := kz.frozen 4
  have g5 := kz.frozen 5
  have g6 := kz.frozen 6
  have HK := Lib.hid kz
  clear kx kz
  go_wp2_with fail
  have kf := ((((((HK.out.set 0 (.int .i64 1)).set 1 (.int .i64 jb)).set 2 (.int .i64 ep)).set 3 (.bool dr)).set 4 (.int .i64 3)).set 5 (.int .i64 now)).set 6 (.int .i64 now)
  obtain ⟨y0, y1, y2, y3, y4, y5, y6⟩ := blk7 kf
  refine bodyPost_ret (v := .agg #[.int .i64 1, .int .i64 jb, .int .i64 ep, .bool dr, .int .i64 3, .int .i64 now, .int .i64 now]) (by simp [results, Try.results57, go_sem, y0, y1, y2, y3, y4, y5, y6]) rfl ⟨rfl, ?_⟩
  have hle : w.heap.size ≤ w.heap.size + 1 + 1 := by omega
  exact below_setCells (g := w.heap.size + 1 + 1) b1 hle [.int .i64 1, .int .i64 jb, .int .i64 ep, .bool dr, .int .i64 3, .int .i64 now, .int .i64 now] 0
set_option maxHeartbeats 1000000 in
set_option maxRecDepth 100000 in
theorem done_4 (x : Nd) (job now : Int) (w : World) : DoneC x 4 job now w := by
  obtain ⟨st, jb, ep, dr, wt, si, ak⟩ := x
  unfold DoneC
  simp only at *
  have HD : Hid (doneN ⟨st, jb, ep, dr, wt, si, ak⟩ 4 job now = ⟨st, jb, ep, dr, 0, si, ak⟩) := by show _ = _; simp [doneN, sendN]
  rw [HD.out]
  go_enter Try.func57, Try.ntmps57
  go_wp2_with fail
  refine bodyPost_ret (v := .agg #[.int .i64 st, .int .i64 jb, .int .i64 ep, .bool dr, .int .i64 0, .int .i64 si, .int .i64 ak]) (by simp [results, Try.results57, go_sem]) rfl ⟨rfl, ?_⟩
  exact (((Below.refl _ _).alloc (Nat.le_refl _) _).alloc (by simp) _).alloc (by simp <;> omega) _
set_option maxHeartbeats 1000000 in
set_option maxRecDepth 100000 in
theorem done_5 (x : Nd) (job now : Int) (w : World) : DoneC x 5 job now w := by
  obtain ⟨st, jb, ep, dr, wt, si, ak⟩ := x
  unfold DoneC
  simp only at *
  have HD : Hid (doneN ⟨st, jb, ep, dr, wt, si, ak⟩ 5 job now = ⟨st, jb, ep, dr, 4, now, now⟩) := by show _ = _; simp [doneN, sendN]
  rw [HD.out]
  go_enter Try.func57, Try.ntmps57
  go_wp2_with fail
  refine (sent_any w _ _ _ _ _ _ _ 4 now).mono ?_
  rintro e w1 ⟨rfl, kx, kz, b1⟩
  obtain ⟨x0, x1, x2, x3, x4, x5, x6⟩ := blk7 kx
  obtain ⟨z0, z1, z2, z3, z4, z5, z6⟩ := blk7 kz
  have g0 := kz.frozen 0
  have g1 := kz.frozen 1
  have g2 := kz.frozen 2
  have g3 := kz.frozen 3
  have g4 := kz.frozen 4
  have g5 := kz.frozen 5
  have g6 := kz.frozen 6
  have HK := Lib.hid kz
  clear kx kz
  go_wp2_with fail
  have kf := ((((((HK.out.set 0 (.int .i64 st)).set 1 (.int .i64 jb)).set 2 (.int .i64 ep)).set 3 (.bool dr)).set 4 (.int .i64 4)).set 5 (.int .i64 now)).set 6 (.int .i64 now)
  obtain ⟨y0, y1, y2, y3, y4, y5, y6⟩ := blk7 kf
  refine bodyPost_ret (v := .agg #[.int .i64 st, .int .i64 jb, .int .i64 ep, .bool dr, .int .i64 4, .int .i64 now, .int .i64 now]) (by simp [results, Try.results57, go_sem, y0, y1, y2, y3, y4, y5, y6]) rfl ⟨rfl, ?_⟩
  have hle : w.heap.size ≤ w.heap.size + 1 + 1 := by omega
  exact below_setCells (g := w.heap.size + 1 + 1) b1 hle [.int .i64 st, .int .i64 jb, .int .i64 ep, .bool dr, .int .i64 4, .int .i64 now, .int .i64 now] 0
set_option maxHeartbeats 1000000 in
set_option maxRecDepth 100000 in
theorem done_6 (x : Nd) (job now : Int) (w : World) : DoneC x 6 job now w := by
  obtain ⟨st, jb, ep, dr, wt, si, ak⟩ := x
  unfold DoneC
  simp only at *
  have HD : Hid (doneN ⟨st, jb, ep, dr, wt, si, ak⟩ 6 job now = ⟨st, jb, ep, dr, 0, si, ak⟩) := by show _ = _; simp [doneN, sendN]
  rw [HD.out]
  go_enter Try.func57, Try.ntmps57
  go_wp2_with fail
  refine bodyPost_ret (v := .agg #[.int .i64 st, .int .i64 jb, .int .i64 ep, .bool dr, .int .i64 0, .int .i64 si, .int .i64 ak]) (by simp [results, Try.results57, go_sem]) rfl ⟨rfl, ?_⟩
  exact (((Below.refl _ _).alloc (Nat.le_refl _) _).alloc (by simp) _).alloc (by simp <;> omega) _
set_option maxHeartbeats 1000000 in
set_option maxRecDepth 100000 in
theorem done_7 (x : Nd) (job now : Int) (w : World) : DoneC x 7 job now w := by
  obtain ⟨st, jb, ep, dr, wt, si, ak⟩ := x
  unfold DoneC
  simp only at *
  have HD : Hid (doneN ⟨st, jb, ep, dr, wt, si, ak⟩ 7 job now = ⟨3, jb, ep, dr, 5, now, now⟩) := by show _ = _; simp [doneN, sendN]
  rw [HD.out]
  go_enter Try.func57, Try.ntmps57
  go_wp2_with fail
  refine (sent_any w _ _ _ _ _ _ _ 5 now).mono ?_
  rintro e w1 ⟨rfl, kx, kz, b1⟩
  obtain ⟨x0, x1, x2, x3, x4, x5, x6⟩ := blk7 kx
  obtain ⟨z0, z1, z2, z3, z4, z5, z6⟩ := blk7 kz
  have g0 := kz.frozen 0
  have g1 := kz.frozen 1
  have g2 := kz.frozen 2
  have g3 := kz.frozen 3
  have g4 := kz.frozen 4
  have g5 := kz.frozen 5
  have g6 := kz.frozen 6
  have HK := Lib.hid kz
  clear kx kz
  go_wp2_with fail
  have kf := ((((((HK.out.set 0 (.int .i64 3)).set 1 (.int .i64 jb)).set 2 (.int .i64 ep)).set 3 (.bool dr)).set 4 (.int .i64 5)).set 5 (.int .i64 now)).set 6 (.int .i64 now)
  obtain ⟨y0, y1, y2, y3, y4, y5, y6⟩ := blk7 kf
  refine bodyPost_ret (v := .agg #[.int .i64 3, .int .i64 jb, .int .i64 ep, .bool dr, .int .i64 5, .int .i64 now, .int .i64 now]) (by simp [results, Try.results57, go_sem, y0, y1, y2, y3, y4, y5, y6]) rfl ⟨rfl, ?_⟩
  have hle : w.heap.size ≤ w.heap.size + 1 + 1 := by omega
  exact below_setCells (g := w.heap.size + 1 + 1) b1 hle [.int .i64 3, .int .i64 jb, .int .i64 ep, .bool dr, .int .i64 5, .int .i64 now, .int .i64 now] 0
set_option maxHeartbeats 1000000 in
set_option maxRecDepth 100000 in
theorem done_8 (x : Nd) (job now : Int) (w : World) : DoneC x 8 job now w := by
  obtain ⟨st, jb, ep, dr, wt, si, ak⟩ := x
  unfold DoneC
  simp only at *
  have HD : Hid (doneN ⟨st, jb, ep, dr, wt, si, ak⟩ 8 job now = ⟨0, 0, ep, dr, 0, si, ak⟩) := by show _ = _; simp [doneN, sendN]
  rw [HD.out]
  go_enter Try.func57, Try.ntmps57
  go_wp2_with fail
  refine bodyPost_ret (v := .agg #[.int .i64 0, .int .i64 0, .int .i64 ep, .bool dr, .int .i64 0, .int .i64 si, .int .i64 ak]) (by simp [results, Try.results57, go_sem]) rfl ⟨rfl, ?_⟩
  exact (((Below.refl _ _).alloc (Nat.le_refl _) _).alloc (by simp) _).alloc (by simp <;> omega) _
set_option maxHeartbeats 1000000 in
set_option maxRecDepth 100000 in
theorem done_9 (x : Nd) (job now : Int) (w : World) (he : x.ep ≤ 999999999) (he' : 0 ≤ x.ep) : DoneC x 9 job now w := by
  obtain ⟨st, jb, ep, dr, wt, si, ak⟩ := x
  unfold DoneC
  simp only at *
  have HD : Hid (doneN ⟨st, jb, ep, dr, wt, si, ak⟩ 9 job now = ⟨4, 0, ep + 1, dr, 0, si, ak⟩) := by show _ = _; simp [doneN, sendN]
  rw [HD.out]
  go_enter Try.func57, Try.ntmps57
  go_wp2_with fail
  refine bodyPost_ret (v := .agg #[.int .i64 4, .int .i64 0, .int .i64 (ep + 1), .bool dr, .int .i64 0, .int .i64 si, .int .i64 ak]) (by simp [results, Try.results57, go_sem]) rfl ⟨rfl, ?_⟩
  exact (((Below.refl _ _).alloc (Nat.le_refl _) _).alloc (by simp) _).alloc (by simp <;> omega) _
set_option maxHeartbeats 1000000 in
set_option maxRecDepth 100000 in
theorem done_10 (x : Nd) (job now : Int) (w : World) : DoneC x 10 job now w := by
  obtain ⟨st, jb, ep, dr, wt, si, ak⟩ := x
  unfold DoneC
  simp only at *
  have HD : Hid (doneN ⟨st, jb, ep, dr, wt, si, ak⟩ 10 job now = ⟨st, jb, ep, dr, 6, now, now⟩) := by show _ = _; simp [doneN, sendN]
  rw [HD.out]
  go_enter Try.func57, Try.ntmps57
  go_wp2_with fail
  refine (sent_any w _ _ _ _ _ _ _ 6 now).mono ?_
  rintro e w1 ⟨rfl, kx, kz, b1⟩
  obtain ⟨x0, x1, x2, x3, x4, x5, x6⟩ := blk7 kx
  obtain ⟨z0, z1, z2, z3, z4, z5, z6⟩ := blk7 kz
  have g0 := kz.frozen 0
  have g1 := kz.frozen 1
  have g2 := kz.frozen 2
  have g3 := kz.frozen 3
  have g4 := kz.frozen 4
  have g5 := kz.frozen 5
  have g6 := kz.frozen 6
  have HK := Lib.hid kz
  clear kx kz
  go_wp2_with fail
  have kf := ((((((HK.out.set 0 (.int .i64 st)).set 1 (.int .i64 jb)).set 2 (.int .i64 ep)).set 3 (.bool dr)).set 4 (.int .i64 6)).set 5 (.int .i64 now)).set 6 (.int .i64 now)
  obtain ⟨y0, y1, y2, y3, y4, y5, y6⟩ := blk7 kf
  refine bodyPost_ret (v := .agg #[.int .i64 st, .int .i64 jb, .int .i64 ep, .bool dr, .int .i64 6, .int .i64 now, .int .i64 now]) (by simp [results, Try.results57, go_sem, y0, y1, y2, y3, y4, y5, y6]) rfl ⟨rfl, ?_⟩
  have hle : w.heap.size ≤ w.heap.size + 1 + 1 := by omega
  exact below_setCells (g := w.heap.size + 1 + 1) b1 hle [.int .i64 st, .int .i64 jb, .int .i64 ep, .bool dr, .int .i64 6, .int .i64 now, .int .i64 now] 0
set_option maxHeartbeats 1000000 in
set_option maxRecDepth 100000 in
theorem done_11 (x : Nd) (job now : Int) (w : World) : DoneC x 11 job now w := by
  obtain ⟨st, jb, ep, dr, wt, si, ak⟩ := x
  unfold DoneC
  simp only at *
  have HD : Hid (doneN ⟨st, jb, ep, dr, wt, si, ak⟩ 11 job now = ⟨0, 0, ep, false, 0, si, ak⟩) := by show _ = _; simp [doneN, sendN]
  rw [HD.out]
  go_enter Try.func57, Try.ntmps57
  go_wp2_with fail
  refine bodyPost_ret (v := .agg #[.int .i64 0, .int .i64 0, .int .i64 ep, .bool false, .int .i64 0, .int .i64 si, .int .i64 ak]) (by simp [results, Try.results57, go_sem]) rfl ⟨rfl, ?_⟩
  exact (((Below.refl _ _).alloc (Nat.le_refl _) _).alloc (by simp) _).alloc (by simp <;> omega) _
set_option maxHeartbeats 1000000 in
set_option maxRecDepth 100000 in
theorem done_12 (x : Nd) (job now : Int) (w : World) : DoneC x 12 job now w := by
  obtain ⟨st, jb, ep, dr, wt, si, ak⟩ := x
  unfold DoneC
  simp only at *
  have HD : Hid (doneN ⟨st, jb, ep, dr, wt, si, ak⟩ 12 job now = ⟨st, jb, ep, true, wt, si, ak⟩) := by show _ = _; simp [doneN, sendN]
  rw [HD.out]
  go_enter Try.func57, Try.ntmps57
  go_wp2_with fail
  refine bodyPost_ret (v := .agg #[.int .i64 st, .int .i64 jb, .int .i64 ep, .bool true, .int .i64 wt, .int .i64 si, .int .i64 ak]) (by simp [results, Try.results57, go_sem]) rfl ⟨rfl, ?_⟩
  exact (((Below.refl _ _).alloc (Nat.le_refl _) _).alloc (by simp) _).alloc (by simp <;> omega) _
set_option maxHeartbeats 1000000 in
set_option maxRecDepth 100000 in
theorem done_13 (x : Nd) (job now : Int) (w : World) : DoneC x 13 job now w := by
  obtain ⟨st, jb, ep, dr, wt, si, ak⟩ := x
  unfold DoneC
  simp only at *
  have HD : Hid (doneN ⟨st, jb, ep, dr, wt, si, ak⟩ 13 job now = ⟨st, jb, ep, false, wt, si, ak⟩) := by show _ = _; simp [doneN, sendN]
  rw [HD.out]
  go_enter Try.func57, Try.ntmps57
  go_wp2_with fail
  refine bodyPost_ret (v := .agg #[.int .i64 st, .int .i64 jb, .int .i64 ep, .bool false, .int .i64 wt, .int .i64 si, .int .i64 ak]) (by simp [results, Try.results57, go_sem]) rfl ⟨rfl, ?_⟩
  exact (((Below.refl _ _).alloc (Nat.le_refl _) _).alloc (by simp) _).alloc (by simp <;> omega) _
set_option maxHeartbeats 1000000 in
set_option maxRecDepth 100000 in
theorem done_o (x : Nd) (act job now : Int) (w : World) (a1 : act ≠ 1) (a2 : act ≠ 2) (a3 : act ≠ 3) (a4 : act ≠ 4) (a5 : act ≠ 5) (a6 : act ≠ 6) (a7 : act ≠ 7) (a8 : act ≠ 8) (a9 : act ≠ 9) (a10 : act ≠ 10) (a11 : act ≠ 11) (a12 : act ≠ 12) (a13 : act ≠ 13) : DoneC x act job now w := by
  obtain ⟨st, jb, ep, dr, wt, si, ak⟩ := x
  unfold DoneC
  simp only at *
  have b1 : (act == 1) = false := by simpa using a1
  have b2 : (act == 2) = false := by simpa using a2
  have b3 : (act == 3) = false := by simpa using a3
  have b4 : (act == 4) = false := by simpa using a4
  have b5 : (act == 5) = false := by simpa using a5
  have b6 : (act == 6) = false := by simpa using a6
  have b7 : (act == 7) = false := by simpa using a7
  have b8 : (act == 8) = false := by simpa using a8
  have b9 : (act == 9) = false := by simpa using a9
  have b10 : (act == 10) = false := by simpa using a10
  have b11 : (act == 11) = false := by simpa using a11
  have b12 : (act == 12) = false := by simpa using a12
  have b13 : (act == 13) = false := by simpa using a13
  have HD : Hid (doneN ⟨st, jb, ep, dr, wt, si, ak⟩ act job now = ⟨st, jb, ep, dr, wt, si, ak⟩) := by show _ = _; simp [doneN, sendN, a1, a2, a3, a4, a5, a6, a7, a8, a9, a10, a11, a12, a13]
  clear a1 a2 a3 a4 a5 a6 a7 a8 a9 a10 a11 a12 a13
  rw [HD.out]
  go_enter Try.func57, Try.ntmps57
  go_wp2_with fail
  refine bodyPost_ret (v := .agg #[.int .i64 st, .int .i64 jb, .int .i64 ep, .bool dr, .int .i64 wt, .int .i64 si, .int .i64 ak]) (by simp [results, Try.results57, go_sem]) rfl ⟨rfl, ?_⟩
  exact (((Below.refl _ _).alloc (Nat.le_refl _) _).alloc (by simp) _).alloc (by simp <;> omega) _
theorem done_any (x : Nd) (act job now : Int) (w : World) (he : x.ep ≤ 999999999) (he' : 0 ≤ x.ep) : DoneC x act job now w := by
  by_cases a1 : act = 1
  · subst a1; exact done_1 x job now w he he'
  by_cases a2 : act = 2
  · subst a2; exact done_2 x job now w he he'
  by_cases a3 : act = 3
  · subst a3; exact done_3 x job now w
  by_cases a4 : act = 4
  · subst a4; exact done_4 x job now w
  by_cases a5 : act = 5
  · subst a5; exact done_5 x job now w
  by_cases a6 : act = 6
  · subst a6; exact done_6 x job now w
  by_cases a7 : act = 7
  · subst a7; exact done_7 x job now w
  by_cases a8 : act = 8
  · subst a8; exact done_8 x job now w
  by_cases a9 : act = 9
  · subst a9; exact done_9 x job now w he he'
  by_cases a10 : act = 10
  · subst a10; exact done_10 x job now w
  by_cases a11 : act = 11
  · subst a11; exact done_11 x job now w
  by_cases a12 : act = 12
  · subst a12; exact done_12 x job now w
  by_cases a13 : act = 13
  · subst a13; exact done_13 x job now w
  exact done_o x act job now w a1 a2 a3 a4 a5 a6 a7 a8 a9 a10 a11 a12 a13
end Go.Proofs.Ytdamocjbkdknaaa.FleetW
