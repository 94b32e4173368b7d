/-
  Contract: frame.Check.
-/
import Derived.Test.YtgmoakbmomaffaaFrameNote
namespace Go.Proofs.Ytgmoakbmomaffaa.FrameW
open Go.RowKit Mem Frm PackW
set_option linter.unusedVariables false
set_option linter.unusedSimpArgs false

abbrev evC (e : Ev) : Array Value := #[.int .i64 e.kd, .string (str e.ln), .int .i64 e.nk, .int .i64 e.nn, .int .i64 e.nj, .int .i64 e.ne]
abbrev evV (e : Ev) : Value := .agg (evC e)
abbrev evO (e : Ev) : Obj := .cells (evC e) 73
theorem blk6 {w : World} {g : Nat} {t : TypeId} {v0 v1 v2 v3 v4 v5 : Value} (h : Blk w g t #[v0, v1, v2, v3, v4, v5]) : w.cell? ⟨g, 0, none⟩ = some v0 ∧ w.cell? ⟨g, 1, none⟩ = some v1 ∧ w.cell? ⟨g, 2, none⟩ = some v2 ∧ w.cell? ⟨g, 3, none⟩ = some v3 ∧ w.cell? ⟨g, 4, none⟩ = some v4 ∧ w.cell? ⟨g, 5, none⟩ = some v5 := ⟨h.cell 0, h.cell 1, h.cell 2, h.cell 3, h.cell 4, h.cell 5⟩
set_option maxHeartbeats 4000000 in
set_option maxRecDepth 100000 in
theorem echeck_any (e : Ev) (w : World) (hl : e.ln.length ≤ 1000000) : Calls Try.prog 45 #[evV e] w (Ret (.int .i64 (evE e)) w) := by
  obtain ⟨V, hV⟩ : ∃ V, V = (w.alloc (evO e)).alloc (.cells #[.int .i64 e.kd, .string ⟨#[]⟩, .int .i64 0, .int .i64 0, .int .i64 0, .int .i64 0] 73) := ⟨_, rfl⟩
  have bV : Below w.heap.size w V := by rw [hV]; exact ((Below.refl _ _).alloc (Nat.le_refl _) _).alloc (by simp) _
  have kE : Blk V w.heap.size 73 (evC e) := by rw [hV]; exact (Blk.new _ _ _).alloc _
  have kB : Blk V (w.heap.size + 1) 73 #[.int .i64 e.kd, .string ⟨#[]⟩, .int .i64 0, .int .i64 0, .int .i64 0, .int .i64 0] := by
    rw [hV]
    have := Blk.new (w.alloc (evO e)) 73 #[.int .i64 e.kd, .string ⟨#[]⟩, .int .i64 0, .int .i64 0, .int .i64 0, .int .i64 0]
    simpa using this
  obtain ⟨x0, x1, x2, x3, x4, x5⟩ := blk6 kE
  obtain ⟨y0, y1, y2, y3, y4, y5⟩ := blk6 kB
  by_cases k2 : e.kd = 2
  · have e1 : (e.kd == 1) = false := by simp [k2]
    have e2 : (e.kd == 2) = true := by simp [k2]
    have HB := Lib.hid (evB_2 k2)
    clear k2
    go_enter Try.func45, Try.ntmps45
    go_upto_region 3 with fail
    rw [← hV]
    clear hV
    go_wp2_with fail
    all_goals go_ret
    all_goals refine ⟨ret_int ?_, bV⟩
    all_goals first
      | (symm; apply evE_yes; rw [HB.out]; simp_all [bareN, str_list]; done)
      | (symm; apply evE_no; rw [HB.out]; simp_all [bareN, str_list]; done)
  by_cases k1 : e.kd = 1
  · have e1 : (e.kd == 1) = true := by simp [k1]
    have HB := Lib.hid (evB_1 k1)
    have HBad : Hid (¬ e.ln.length ≤ 1000 → evB e = false) := fun h => by rw [HB.out]; simp [h]
    have hs1 : (str e.ln).size = e.ln.length := str_size _
    have hf := kB.frozen 1
    have kB2 := kB.set 1 (.string (str e.ln))
    obtain ⟨z0, z1, z2, z3, z4, z5⟩ := blk6 kB2
    have kE2 := kE.far (p := ⟨w.heap.size + 1, 1, none⟩) (by simp) (.string (str e.ln))
    obtain ⟨u0, u1, u2, u3, u4, u5⟩ := blk6 kE2
    have b2 : Below w.heap.size w (V.setCell ⟨w.heap.size + 1, 1, none⟩ (.string (str e.ln))) := bV.setCell (p := ⟨w.heap.size + 1, 1, none⟩) (by simp) _
    by_cases hlen : e.ln.length ≤ 1000
    · have t1 : decide (((str e.ln).size : Int) ≤ 1000) = true := decide_eq_true (by omega)
      have HS1 := Lib.hid hs1
      clear k1 hs1
      go_enter Try.func45, Try.ntmps45
      go_upto_region 3 with fail
      rw [← hV]
      clear hV
      go_wp2_with fail
      all_goals go_ret
      all_goals refine ⟨ret_int ?_, b2⟩
      all_goals first
        | (symm; apply evE_yes; rw [HB.out]; simp_all [bareN, str_list]; done)
        | (symm; apply evE_no; rw [HB.out]; simp_all [bareN, str_list]; done)
    · have HNo := Lib.hid (evE_no (HBad.out hlen))
      have t1 : decide (((str e.ln).size : Int) ≤ 1000) = false := decide_eq_false (by omega)
      clear k1 hs1 hlen
      go_enter Try.func45, Try.ntmps45
      go_upto_region 3 with fail
      rw [← hV]
      clear hV
      go_wp2_with fail
      go_ret
      exact ⟨ret_int HNo.out.symm, b2⟩
  by_cases k3 : e.kd = 3
  · have e1 : (e.kd == 1) = false := by simp [k3]
    have e2 : (e.kd == 2) = false := by simp [k3]
    have e3 : (e.kd == 3) = true := by simp [k3]
    have HB := Lib.hid (evB_3 k3)
    have f2 := kB.frozen 2
    have f3 := kB.frozen 3
    have f4 := kB.frozen 4
    have f5 := kB.frozen 5
    obtain ⟨W4, hW4⟩ : ∃ W4, W4 = (((V.setCell ⟨w.heap.size + 1, 2, none⟩ (.int .i64 e.nk)).setCell ⟨w.heap.size + 1, 3, none⟩ (.int .i64 e.nn)).setCell ⟨w.heap.size + 1, 4, none⟩ (.int .i64 e.nj)).setCell ⟨w.heap.size + 1, 5, none⟩ (.int .i64 e.ne) := ⟨_, rfl⟩
    have kB4 : Blk W4 (w.heap.size + 1) 73 #[.int .i64 e.kd, .string ⟨#[]⟩, .int .i64 e.nk, .int .i64 e.nn, .int .i64 e.nj, .int .i64 e.ne] := by
      rw [hW4]
      exact (((kB.set 2 (.int .i64 e.nk)).set 3 (.int .i64 e.nn)).set 4 (.int .i64 e.nj)).set 5 (.int .i64 e.ne)
    have kE4 : Blk W4 w.heap.size 73 (evC e) := by
      rw [hW4]
      exact (((kE.far (p := ⟨w.heap.size + 1, 2, none⟩) (by simp) (.int .i64 e.nk)).far (p := ⟨w.heap.size + 1, 3, none⟩) (by simp) (.int .i64 e.nn)).far (p := ⟨w.heap.size + 1, 4, none⟩) (by simp) (.int .i64 e.nj)).far (p := ⟨w.heap.size + 1, 5, none⟩) (by simp) (.int .i64 e.ne)
    have b4 : Below w.heap.size w W4 := by
      rw [hW4]
      exact (((bV.setCell (p := ⟨w.heap.size + 1, 2, none⟩) (by simp) _).setCell (p := ⟨w.heap.size + 1, 3, none⟩) (by simp) _).setCell (p := ⟨w.heap.size + 1, 4, none⟩) (by simp) _).setCell (p := ⟨w.heap.size + 1, 5, none⟩) (by simp) _
    obtain ⟨z0, z1, z2, z3, z4, z5⟩ := blk6 (kB4.alloc (nO e.nk e.nn e.nj e.ne))
    obtain ⟨u0, u1, u2, u3, u4, u5⟩ := blk6 kE4
    obtain ⟨t0, t1, t2, t3, t4, t5⟩ := blk6 (kE4.alloc (nO e.nk e.nn e.nj e.ne))
    have HNC := Lib.hid (ncheck_any e.nk e.nn e.nj e.ne W4)
    have b5 : Below w.heap.size w (W4.alloc (nO e.nk e.nn e.nj e.ne)) := b4.alloc b4.size _
    have HE : Hid (noteB e.nk e.nn e.nj e.ne = false → evB e = false) := fun h => by rw [HB.out, h, Bool.and_false]
    have HE2 : Hid (noteB e.nk e.nn e.nj e.ne = true → evB e = e.ln.isEmpty) := fun h => by rw [HB.out, h, Bool.and_true]
    cases hnb : noteB e.nk e.nn e.nj e.ne
    · have HNo := Lib.hid (evE_no (HE.out hnb))
      have hne : noteE e.nk e.nn e.nj e.ne = 230 := by rw [noteE, hnb]; rfl
      rw [hne] at HNC
      clear k3 hnb hne
      go_enter Try.func45, Try.ntmps45
      go_upto_region 3 with fail
      rw [← hV]
      clear hV
      go_upto_region 11 with fail
      rw [← hW4]
      clear hW4
      go_wp2_with fail
      refine HNC.out.mono ?_
      rintro en w1 ⟨rfl, rfl⟩
      go_wp2_with fail
      go_ret
      exact ⟨ret_int HNo.out.symm, b5⟩
    · have HB2 := Lib.hid (HE2.out hnb)
      have hne : noteE e.nk e.nn e.nj e.ne = 0 := by rw [noteE, hnb]; rfl
      rw [hne] at HNC
      clear k3 hnb hne
      go_enter Try.func45, Try.ntmps45
      go_upto_region 3 with fail
      rw [← hV]
      clear hV
      go_upto_region 11 with fail
      rw [← hW4]
      clear hW4
      go_wp2_with fail
      refine HNC.out.mono ?_
      rintro en w1 ⟨rfl, rfl⟩
      go_wp2_with fail
      all_goals go_ret
      all_goals refine ⟨ret_int ?_, b5⟩
      all_goals first
        | (symm; apply evE_yes; rw [HB2.out]; simp_all [bareN, str_list]; done)
        | (symm; apply evE_no; rw [HB2.out]; simp_all [bareN, str_list]; done)
  have e1 : (e.kd == 1) = false := by simpa using k1
  have e2 : (e.kd == 2) = false := by simpa using k2
  have e3 : (e.kd == 3) = false := by simpa using k3
  have HNo := Lib.hid (evE_no (evB_0 k1 k2 k3))
  clear k1 k2 k3
  go_enter Try.func45, Try.ntmps45
  go_upto_region 3 with fail
  rw [← hV]
  clear hV
  go_wp2_with fail
  go_ret
  exact ⟨ret_int HNo.out.symm, bV⟩
end Go.Proofs.Ytgmoakbmomaffaa.FrameW
