/-
  Contract of musterref07: Walls.
-/
import Derived.Test.YthfnmighhoighaaShapeRef2
namespace Go.Proofs.Ythfnmighhoighaa.ShapeW
open Go.RowKit Mem Shape
set_option linter.unusedVariables false
set_option linter.unusedSimpArgs false
set_option linter.unnecessarySimpa false

theorem step_app {P : Program} {ops : Array Oper} {o : Oper} {a : Act} {K : Act → World → Prop} {Q : Exit → Act → World → Prop} {E : Prop} {W W' : World} {t u : TypeId} {v v2 r : Value} (hgd : o.guard = none) (s x : Operand)
    (ho : o.op = .call { callee := .builtin .append, args := #[s, x], argTypes := #[t, u] }) (hs : a.eval s = v) (hx : a.eval x = v2) (hrun : (Builtin.append_ #[t, u] o.type #[v, v2]).run P W = .ok r W')
    (h : K (a.put o.dst r) W') : if Region.wanted o (yielded ops a.tmps) = true then Oper.wp P o a W K Q else E := by
  have hw : Region.wanted o (yielded ops a.tmps) = true := by simp [Region.wanted, hgd]
  rw [if_pos hw]
  unfold Oper.wp execOp
  simp only [ho, resolve, invoke, builtin, Sem.run_bind, Sem.run_pure, Result.andThen_ok, List.map_toArray, List.map_cons, List.map_nil, hs, hx, hrun]
  exact h
def RwRel (w V : World) (s : Sh) (Ao : Option Addr) (co : Nat) (u : Int) (Y : Value) (wr : World) : Prop := ∃ (k : Nat) (A : Option Addr) (c : Nat), k ≤ s.al.length ∧ Y = .int .i64 k ∧ Blk wr w.heap.size 24 #[.int .i64 s.kd, .slice Ao s.al.length co, .int .i64 s.mn, .int .i64 s.mx, .int .i64 s.wl] ∧ Blk wr (w.heap.size + 1) 24 zSh ∧ Blk wr (w.heap.size + 1 + 1) 24 #[.int .i64 s.kd, .slice A k c, .int .i64 s.mn, .int .i64 s.mx, .int .i64 s.wl] ∧ AlsO wr V.heap.size A k c ((s.al.take k).map (wallA u)) ∧ Below w.heap.size w wr
set_option maxHeartbeats 4000000 in
set_option maxRecDepth 100000 in
theorem rwalls_any (A : Option Addr) (n c : Nat) (s : Sh) (u : Int) (w : World) (h : ArgS w A n c s) : Calls Try.prog 24 #[shV A n c s, .int .i64 u] w (WallsPost (wallsT s u) w) := by
  have hlen := h.st.len
  subst hlen
  have hfew := h.few
  obtain ⟨V, hV⟩ : ∃ V, V = ((w.alloc (shO A s.al.length c s)).alloc (.cells zSh 24)).alloc (.cells #[.int .i64 s.kd, .slice none 0 0, .int .i64 s.mn, .int .i64 s.mx, .int .i64 s.wl] 24) := ⟨_, rfl⟩
  have bV : Below w.heap.size w V := by rw [hV]; exact (((Below.refl _ _).alloc (Nat.le_refl _) _).alloc (by simp) _).alloc (by simp; omega) _
  have kV : Blk V w.heap.size 24 #[.int .i64 s.kd, .slice A s.al.length c, .int .i64 s.mn, .int .i64 s.mx, .int .i64 s.wl] := by rw [hV]; exact ((Blk.new _ _ _).alloc _).alloc _
  have kZ : Blk V (w.heap.size + 1) 24 zSh := by
    rw [hV]
    have := (Blk.new (w.alloc (shO A s.al.length c s)) 24 zSh).alloc (.cells #[.int .i64 s.kd, .slice none 0 0, .int .i64 s.mn, .int .i64 s.mx, .int .i64 s.wl] 24)
    simpa using this
  have kO : Blk V (w.heap.size + 1 + 1) 24 #[.int .i64 s.kd, .slice none 0 0, .int .i64 s.mn, .int .i64 s.mx, .int .i64 s.wl] := by
    rw [hV]
    have := Blk.new ((w.alloc (shO A s.al.length c s)).alloc (.cells zSh 24)) 24 #[.int .i64 s.kd, .slice none 0 0, .int .i64 s.mn, .int .i64 s.mx, .int .i64 s.wl]
    simpa using this
  have hVs : V.heap.size = w.heap.size + 3 := by rw [hV]; simp
  have HVs := Lib.hid hVs
  have HH := Lib.hid h.st
  have HK := Lib.hid kV
  have HZ := Lib.hid kZ
  have HO := Lib.hid kO
  clear h hVs kV kZ kO
  go_enter Try.func24, Try.ntmps24
  go_wp2_with fail
  rw [← hV]
  clear hV
  go_loopw [6] (fun Y wr => RwRel w V s A c u Y wr) (fun Y _ => s.al.length - (intOf Y).toNat)
  case atStart => exact ⟨0, none, 0, by omega, rfl, HK.out, HZ.out, HO.out, SOwn.nil _ _ _ _, bV⟩
  case round =>
    obtain ⟨k, A1, c1, hk, rfl, hkb, hzb, hob, hown, hbel⟩ := hrel
    obtain ⟨x0, x1, x2, x3, x4⟩ := blk5 hkb
    obtain ⟨y0, y1, y2, y3, y4⟩ := blk5 hob
    have hszv := hbel.size
    have hlt0 := hkb.lt
    have hlt2 := hob.lt
    by_cases hlt : k < s.al.length
    · obtain ⟨b, off, a, rfl, hb, ha, d0, d1⟩ := Lst.alt (HH.out.below hbel) hlt
      obtain ⟨U, hU⟩ : ∃ U, U = (wr.alloc (.cells #[.int .i64 a.nd, .int .i64 u] 38)).drew := ⟨_, rfl⟩
      have bU : Below wr.heap.size wr U := by rw [hU]; exact ((Below.refl _ _).alloc (Nat.le_refl _) _).drew
      have sU : Als U (some ⟨wr.heap.size, 0, none⟩) 1 [⟨a.nd, u⟩] := by
        rw [hU]
        exact (Lst.new layA wr ⟨a.nd, u⟩ #[.int .i64 a.nd, .int .i64 u] 38 rfl).below (Below.refl _ _).drew
      have hVw : V.heap.size ≤ wr.heap.size := by have := hob.lt; have := HVs.out; omega
      obtain ⟨A2, c2, w3, hrun, o3, b3, hfr, _⟩ := app_s layA (P := Try.prog) U V.heap.size 22 22 38 _ 16 Try.underlying22 altInfo rfl A1 k c1 _ (hown.below bU) (some ⟨wr.heap.size, 0, none⟩) 1 1 [⟨a.nd, u⟩] sU (by simp only [maxLen]; omega) (by omega) (Nat.le_trans hVw bU.size)
      have hnn : (s.al.take k).map (wallA u) ++ [⟨a.nd, u⟩] = (s.al.take (k + 1)).map (wallA u) := by rw [take_snoc_some ha, List.map_append]; rfl
      rw [hnn] at o3
      have bV3 : Below V.heap.size wr w3 := (bU.mono hVw).trans b3
      have hs := HVs.out
      have hk3 := hkb.below bV3 (by omega)
      have hz3 := hzb.below bV3 (by omega)
      have ho3 := hob.below bV3 (by omega)
      have g3 := ho3.frozen 1
      obtain ⟨p0, p1, p2, p3, p4⟩ := blk5 ho3
      have HKn := Lib.hid (hk3.far (p := ⟨w.heap.size + 1 + 1, 1, none⟩) (by simp <;> omega) (.slice A2 (k + 1) c2))
      have HZn := Lib.hid (hz3.far (p := ⟨w.heap.size + 1 + 1, 1, none⟩) (by simp <;> omega) (.slice A2 (k + 1) c2))
      have HOn : Hid (Blk (w3.setCell ⟨w.heap.size + 1 + 1, 1, none⟩ (.slice A2 (k + 1) c2)) (w.heap.size + 1 + 1) 24 #[.int .i64 s.kd, .slice A2 (k + 1) c2, .int .i64 s.mn, .int .i64 s.mx, .int .i64 s.wl]) := ho3.set 1 _
      have HWn := Lib.hid (o3.far (p := ⟨w.heap.size + 1 + 1, 1, none⟩) (by show w.heap.size + 1 + 1 < V.heap.size; omega) (.slice A2 (k + 1) c2))
      have HBn := Lib.hid ((hbel.trans (bV3.mono (by omega))).setCell (p := ⟨w.heap.size + 1 + 1, 1, none⟩) (by show w.heap.size ≤ w.heap.size + 1 + 1; omega) (.slice A2 (k + 1) c2))
      have HR := Lib.hid hrun
      rw [hU] at HR
      have hki : (k : Int) < (s.al.length : Int) := by omega
      clear hrun o3 b3 hfr sU bU hU hnn hk3 hz3 ho3 hown bV3 hs
      go_wp2_with fail
      go_region_law ((refine step_app rfl _ _ (by rfl) (by rfl) (by rfl) HR.out ?_))
      all_goals
        go_wp2_with fail
        exact ⟨⟨k + 1, A2, c2, by omega, by go_num, HKn.out, HZn.out, HOn.out, HWn.out, HBn.out⟩, by simp [intOf]; omega⟩
    · obtain rfl : k = s.al.length := by omega
      rw [List.take_length] at hown
      have HO := Lib.hid hown
      have fz0 := hzb.frozen 0
      have fz1 := hzb.frozen 1
      have fz2 := hzb.frozen 2
      have fz3 := hzb.frozen 3
      have fz4 := hzb.frozen 4
      have fk4 := hob.frozen 4
      obtain ⟨z0, z1, z2, z3, z4⟩ := blk5 hzb
      clear hown
      by_cases k3 : s.kd = 3
      · have e3 : (s.kd == 3) = true := by simp [k3]
        have HFin := Lib.hid (st5_blk (hzb.far (p := ⟨w.heap.size + 1 + 1, 4, none⟩) (by simp <;> omega) (.int .i64 u)) (.int .i64 s.kd) (.slice A1 s.al.length c1) (.int .i64 s.mn) (.int .i64 s.mx) (.int .i64 u))
        obtain ⟨q0, q1, q2, q3, q4⟩ := blk5 HFin.out
        have HOn := Lib.hid (st5_own (HO.out.far (p := ⟨w.heap.size + 1 + 1, 4, none⟩) (by show w.heap.size + 1 + 1 < V.heap.size; rw [HVs.out]; omega) (.int .i64 u)) (show w.heap.size + 1 < V.heap.size by rw [HVs.out]; omega) (.int .i64 s.kd) (.slice A1 s.al.length c1) (.int .i64 s.mn) (.int .i64 s.mx) (.int .i64 u))
        have HBn := Lib.hid (st5_below (hbel.setCell (p := ⟨w.heap.size + 1 + 1, 4, none⟩) (by show w.heap.size ≤ w.heap.size + 1 + 1; omega) (.int .i64 u)) (show w.heap.size ≤ w.heap.size + 1 by omega) (.int .i64 s.kd) (.slice A1 s.al.length c1) (.int .i64 s.mn) (.int .i64 s.mx) (.int .i64 u))
        have HT : Hid (wallsT s u = ⟨s.kd, s.al.map (wallA u), s.mn, s.mx, u⟩) := by show _ = _; simp [wallsT, k3, wallA]; try rfl
        clear k3
        go_wp2_with fail
        refine bodyPost_ret (v := .agg #[.int .i64 s.kd, .slice A1 s.al.length c1, .int .i64 s.mn, .int .i64 s.mx, .int .i64 u]) (by simp [results, Try.results24, go_sem, q0, q1, q2, q3, q4]) rfl ?_
        rw [HT.out]
        refine ⟨A1, c1, by simp, ?_, HBn.out⟩
        simp only [List.length_map]
        exact HOn.out.mono (by rw [HVs.out]; omega)
      · have e3 : (s.kd == 3) = false := by simpa using k3
        have HFin := Lib.hid (st5_blk (hzb) (.int .i64 s.kd) (.slice A1 s.al.length c1) (.int .i64 s.mn) (.int .i64 s.mx) (.int .i64 s.wl))
        obtain ⟨q0, q1, q2, q3, q4⟩ := blk5 HFin.out
        have HOn := Lib.hid (st5_own (HO.out) (show w.heap.size + 1 < V.heap.size by rw [HVs.out]; omega) (.int .i64 s.kd) (.slice A1 s.al.length c1) (.int .i64 s.mn) (.int .i64 s.mx) (.int .i64 s.wl))
        have HBn := Lib.hid (st5_below (hbel) (show w.heap.size ≤ w.heap.size + 1 by omega) (.int .i64 s.kd) (.slice A1 s.al.length c1) (.int .i64 s.mn) (.int .i64 s.mx) (.int .i64 s.wl))
        have HT : Hid (wallsT s u = ⟨s.kd, s.al.map (wallA u), s.mn, s.mx, s.wl⟩) := by show _ = _; simp [wallsT, k3, wallA]; try rfl
        clear k3
        go_wp2_with fail
        refine bodyPost_ret (v := .agg #[.int .i64 s.kd, .slice A1 s.al.length c1, .int .i64 s.mn, .int .i64 s.mx, .int .i64 s.wl]) (by simp [results, Try.results24, go_sem, q0, q1, q2, q3, q4]) rfl ?_
        rw [HT.out]
        refine ⟨A1, c1, by simp, ?_, HBn.out⟩
        simp only [List.length_map]
        exact HOn.out.mono (by rw [HVs.out]; omega)
end Go.Proofs.Ythfnmighhoighaa.ShapeW
