/-
  Contract: shape.Options.
-/
import Derived.Test.YthfnmighhoighaaShapeSizes
namespace Go.Proofs.Ythfnmighhoighaa.ShapeW
open Go.RowKit Go.Shelf Mem Shape
set_option linter.unusedVariables false
set_option linter.unusedSimpArgs false
set_option linter.unnecessarySimpa false
attribute [local go_sem] Oper.semAt_some

/-- an empty slice, cloned: empty, without room -/
def New0 (w : World) (e : Ending) (w' : World) : Prop := ∃ A, e = .returned (.slice A 0 0) ∧ Below w.heap.size w w' ∧ ∀ b, A = some ⟨b, 0, none⟩ → w.heap.size ≤ b ∧ b < w'.heap.size ∧ ∃ o : Obj, w'.heap[b]? = some o ∧ o.isCells = true
set_option maxHeartbeats 1000000 in
theorem aclone0_any (A : Option Addr) (c : Nat) (w : World) (hA : A = none → c = 0) : Calls Try.prog 51 #[.slice A 0 c] w (New0 w) := by
  cases A with
  | none =>
    obtain rfl := hA rfl
    have hnil := fun (w : World) => Lib.run_eql_slice_nil (P := Try.prog) w 22 38 none 0 0 0 0 Try.underlying22
    go_enter Try.func51, Try.ntmps51
    go_wp2_with fail
    go_ret
    exact ⟨none, rfl, Below.refl _ _, fun b e => by cases e⟩
  | some a =>
    have hnil := fun (w : World) => Lib.run_eql_slice_nil (P := Try.prog) w 22 38 (some a) 0 c 0 0 Try.underlying22
    simp only [Option.isNone_some] at hnil
    have hrun : (Builtin.append_ #[22, 22] 22 #[.slice (some ⟨w.heap.size, 0, none⟩) 0 0, .slice (some a) 0 c]).run Try.prog (w.alloc (.cells #[] 38)) = .ok (.slice (some ⟨w.heap.size, 0, none⟩) 0 0) (w.alloc (.cells #[] 38)) := by
      obtain ⟨i0, hi, hz0, hz1, hz2⟩ := info_parts altInfo
      simp [Builtin.append_, go_sem, Try.underlying22, hi, hz0, hz1, hz2]
    have HR := Lib.hid hrun
    clear hrun hA
    go_enter Try.func51, Try.ntmps51
    go_wp2_with (at_builtin; refine wpList_app2 rfl _ _ rfl rfl rfl HR.out ?_)
    go_ret
    refine ⟨_, rfl, (Below.refl _ _).alloc (Nat.le_refl _) _, fun b e => ?_⟩
    injection e with e
    injection e with e
    subst e
    exact ⟨Nat.le_refl _, by simp, _, World.alloc_heap_new _ _, rfl⟩
theorem opt_no {s : Sh} (h : chk s = false) : optL s = [] := by rw [optL, if_pos h]
theorem opt_al {s : Sh} (h : chk s = true) (h3 : s.kd ≠ 3) : optL s = s.al := by rw [optL, if_neg (by simp [h]), if_neg h3]
theorem opt_mal {s : Sh} (h : chk s = true) (h3 : s.kd = 3) : optL s = (sizesL s.mn s.mx).map (fun n => ⟨n, s.wl⟩) := by rw [optL, if_neg (by simp [h]), if_pos h3]
theorem mal_facts {s : Sh} (h : chk s = true) (h3 : s.kd = 3) : s.al = [] ∧ s.mn ≤ s.mx ∧ 1 ≤ s.mn ∧ s.mx ≤ 48 ∧ 1 ≤ s.wl ∧ s.wl ≤ 100000 := by
  rw [chk_3 h3] at h
  simp only [malB, Bool.and_eq_true, decide_eq_true_eq, fineA_iff, beq_iff_eq] at h
  exact ⟨len_zero h.1.1.1, h.1.1.2, h.1.2.1, h.2, h.1.2.2.2.1, h.1.2.2.2.2⟩
/-- what the loop's cells hold when pre has come -/
structure OptI (w : World) (B0 B Bt Bf : Nat) (Ao : Option Addr) (co : Nat) (s : Sh) (pre : List Int) (W : World) (A : Option Addr) (c : Nat) : Prop where
  box : Blk W B 22 #[.slice A pre.length c]
  own : AlsO W w.heap.size A pre.length c (pre.map fun n => ⟨n, s.wl⟩)
  cells : InCells W A
  apart : ∀ b, A = some ⟨b, 0, none⟩ → b ≠ B0 ∧ b ≠ B ∧ b ≠ Bt ∧ b ≠ Bf
  shape : Blk W B0 24 #[.int .i64 s.kd, .slice Ao 0 co, .int .i64 s.mn, .int .i64 s.mx, .int .i64 s.wl]
  t : Bt < W.heap.size
  f : Bf < W.heap.size
theorem OptI.grown {w : World} {B0 B Bt Bf : Nat} {Ao : Option Addr} {co : Nat} {s : Sh} {pre : List Int} {W W' : World} {A : Option Addr} {c : Nat} {row : Option Nat} (h : OptI w B0 B Bt Bf Ao co s pre W A c) (hg : W.grownBy W' row) (hr : NoCells W row) : OptI w B0 B Bt Bf Ao co s pre W' A c :=
  ⟨Blk.grown h.box hg hr, ⟨h.own.1, OwnC.grown h.own.2 hg hr⟩, h.cells.grown hg hr, h.apart, Blk.grown h.shape hg hr, Nat.lt_of_lt_of_le h.t hg.size, Nat.lt_of_lt_of_le h.f hg.size⟩
set_option maxRecDepth 100000 in
set_option maxHeartbeats 4000000 in
theorem options_mal (A : Option Addr) (c : Nat) (s : Sh) (w : World) (h : ArgS w A 0 c s) (hc : chk s = true) (h3 : s.kd = 3) : Calls Try.prog 16 #[shV A 0 c s] w (NewA (optL s) w) := by
  obtain ⟨hal, hm1, hm2, hm3, hm4, hm5⟩ := mal_facts hc h3
  rw [opt_mal hc h3]
  have hcnt : (sizesL s.mn s.mx).length ≤ 48 := by rw [sizes_len]; omega
  obtain ⟨V, hV⟩ : ∃ V, V = w.alloc (shO A 0 c s) := ⟨_, rfl⟩
  have bV : Below w.heap.size w V := by rw [hV]; exact (Below.refl _ _).alloc (Nat.le_refl _) _
  have kV : Blk V w.heap.size 24 #[.int .i64 s.kd, .slice A 0 c, .int .i64 s.mn, .int .i64 s.mx, .int .i64 s.wl] := by rw [hV]; exact Blk.new _ _ _
  have HCk := Lib.hid (check_is 0 A 0 c s V (h.below bV) (chkE_yes hc))
  have HCl := Lib.hid fun w' => aclone0_any A c w' h.bare
  have e3 : (s.kd == 3) = true := by simp [h3]
  obtain ⟨x0, x1, x2, x3, x4⟩ := blk5 kV
  clear h hc hal h3
  refine (callsIn_wide (n := 5)).1 ?_
  refine callsIn_of_wp_marks Try.func16 rfl trivial ?_ rfl
  simp only [Try.ntmps16, List.size_toArray, List.length_cons, List.length_nil, Nat.reduceAdd, Nat.reduceSub, Array.replicate_succ, Array.replicate_zero, List.push_toArray, List.append_toArray, List.nil_append, List.cons_append]
  gi_wp2_with fail
  rw [← hV]
  clear hV
  refine ⟨trivial, ?_⟩
  refine (callsIn_wide.2 HCk.out).mono ?_
  rintro e w1 ⟨rfl, b1⟩
  have k1 := kV.below b1 kV.lt
  clear x0 x1 x2 x3 x4
  obtain ⟨x0, x1, x2, x3, x4⟩ := blk5 k1
  gi_wp2_with fail
  refine ⟨trivial, ?_⟩
  refine (callsIn_wide.2 (HCl.out w1)).mono ?_
  rintro e w2 ⟨A2, rfl, b2, hA2⟩
  have k2 := k1.below b2 k1.lt
  clear x0 x1 x2 x3 x4
  obtain ⟨W3, hW3⟩ : ∃ W3, W3 = w2.alloc (.cells #[.slice A2 0 0] 22) := ⟨_, rfl⟩
  have b3 : Below w2.heap.size w2 W3 := by rw [hW3]; exact (Below.refl _ _).alloc (Nat.le_refl _) _
  have kO : Blk W3 w2.heap.size 22 #[.slice A2 0 0] := by rw [hW3]; exact Blk.new _ _ _
  have k3 := k2.below b3 k2.lt
  obtain ⟨x0, x1, x2, x3, x4⟩ := blk5 (k2.alloc (.cells #[.slice A2 0 0] 22))
  gi_wp2_with fail
  rw [← hW3]
  refine ⟨trivial, ?_⟩
  refine (callsIn_wide.2 (sizes_any s.mn s.mx W3)).mono ?_
  rintro e W4 ⟨rfl, hW4⟩
  have b4 : Below W3.heap.size W3 W4 := by rw [hW4]; exact ((Below.refl _ _).alloc (Nat.le_refl _) _).alloc (by simp) _
  have kF : Blk W4 W3.heap.size 3 #[.int .i64 s.mn] := by rw [hW4]; exact (Blk.new _ _ _).alloc _
  have kT : Blk W4 (W3.heap.size + 1) 3 #[.int .i64 s.mx] := by
    rw [hW4]
    have := Blk.new (W3.alloc (.cells #[.int .i64 s.mn] 3)) 3 #[.int .i64 s.mx]
    simpa using this
  have k4 := k3.below b4 k3.lt
  have kO4 := kO.below b4 kO.lt
  have b04 : Below w.heap.size w W4 := below_step (below_step (below_step (below_step bV b1) b2) b3) b4
  have hs3 : W3.heap.size = w2.heap.size + 1 := by rw [hW3]; simp
  have hs4 : W4.heap.size = W3.heap.size + 2 := by rw [hW4]; simp
  have hsz1 := b1.size
  have hsz2 := b2.size
  have hVlt := kV.lt
  have HS3 := Lib.hid hs3
  have HS4 := Lib.hid hs4
  clear hW3 hW4 x0 x1 x2 x3 x4 hs3 hs4
  gi_wp2_with fail
  have hs3 := HS3.out
  have hs4 := HS4.out
  refine wpIn_rangeFunc_ownG rfl (by omega) (gf := 69) (lb := #[.pointer (some ⟨W3.heap.size + 1, 0, none⟩), .pointer (some ⟨W3.heap.size, 0, none⟩)]) rfl trivial (enters_of Try.func69 (by kernel_rfl) rfl)
    (sizes_stops Fence.wide _ trivial rfl (by omega) (W3.heap.size + 1) W3.heap.size s.mn s.mx hm2 hm3 W4 kT kF) Keep2.trans (keep2_put (w := W4) (by omega) (by omega)) (Below.refl _ _) (fun _ => rfl)
    (fun pre W => (∃ A' c', OptI w w.heap.size w2.heap.size (W3.heap.size + 1) W3.heap.size A c s pre W A' c') ∧ Below w.heap.size w W)
    (fun _ _ _ => False)
    (OwnFrom.and (Own.from (fun pre W W' row hs hg hr => by obtain ⟨A', c', hi⟩ := hs; exact ⟨A', c', hi.grown hg hr⟩) _) (ownFrom_below (Nat.le_refl _) (by have := b04.size; omega)))
    (fun _ _ _ _ _ hs _ _ => hs)
    ⟨⟨A2, 0, ⟨kO4, ⟨rfl, by simp, by simp, by simp [maxLen], fun h => absurd h (by omega), fun _ => rfl⟩, fun b e => by
      obtain ⟨q1, q2, o, ho, hc⟩ := hA2 b e
      exact ⟨o, ((b4.block b (by omega)).trans (b3.block b q2)).trans ho, hc⟩, fun b e => by
      obtain ⟨q1, q2, _⟩ := hA2 b e
      exact ⟨by omega, by omega, by omega, by omega⟩, k4, by omega, by omega⟩⟩, b04⟩
    ?a1 ?assign ?body ?done ?stop
  case assign =>
    intro l x W K hK
    gi_wp2
    exact hK
  case body =>
    rintro l pre x W ⟨⟨A', c', hi⟩, hB⟩ hlt
    obtain ⟨U, hU⟩ : ∃ U, U = W.alloc (.cells #[.int .i64 x, .int .i64 s.wl] 38) := ⟨_, rfl⟩
    have bU : Below W.heap.size W U := by rw [hU]; exact (Below.refl _ _).alloc (Nat.le_refl _) _
    have sU : Als U (some ⟨W.heap.size, 0, none⟩) 1 [⟨x, s.wl⟩] := by rw [hU]; exact Lst.new layA W ⟨x, s.wl⟩ #[.int .i64 x, .int .i64 s.wl] 38 rfl
    obtain ⟨A3, c3, w3, hrun, o3, b3', hfr, hA3⟩ := app_s layA (P := Try.prog) U w.heap.size 22 22 38 _ 16 Try.underlying22 altInfo rfl A' pre.length c' _ (hi.own.below bU) (some ⟨W.heap.size, 0, none⟩) 1 1 [⟨x, s.wl⟩] sU (by simp only [maxLen]; omega) (by omega) (Nat.le_trans hB.size bU.size)
    have HR := Lib.hid hrun
    rw [hU] at HR
    have hsU : U.heap.size = W.heap.size + 1 := by rw [hU]; simp
    have keep : ∀ b, b < W.heap.size → A' ≠ some ⟨b, 0, none⟩ → w3.heap[b]? = W.heap[b]? := fun b hb hne => (hfr b (by omega) hne).trans (bU.block b hb)
    have nA : ∀ b, (b = w.heap.size ∨ b = w2.heap.size ∨ b = W3.heap.size + 1 ∨ b = W3.heap.size) → A' ≠ some ⟨b, 0, none⟩ := fun b hb e => by
      obtain ⟨q1, q2, q3, q4⟩ := hi.apart b e
      omega
    have hbox := hi.box
    have hbox3 : Blk w3 w2.heap.size 22 #[.slice A' pre.length c'] := (keep _ hbox.lt (nA _ (by omega))).trans hbox
    have hsh := hi.shape
    have hsh3 : Blk w3 w.heap.size 24 #[.int .i64 s.kd, .slice A 0 c, .int .i64 s.mn, .int .i64 s.mx, .int .i64 s.wl] := (keep _ hsh.lt (nA _ (by omega))).trans hsh
    have x0 := blk1 hbox
    have x0U := blk1 (hbox.alloc (.cells #[.int .i64 x, .int .i64 s.wl] 38))
    have y0 := blk1 hbox3
    have g0 := hbox3.frozen 0
    obtain ⟨z0, z1, z2, z3, z4⟩ := blk5 hsh
    have HI := Lib.hid hi
    have HO3 := Lib.hid o3
    have HA3 := Lib.hid hA3
    have HKeep := Lib.hid keep
    have HB3 := Lib.hid (bU.mono hB.size |>.trans b3')
    have hsz3 : W.heap.size + 1 ≤ w3.heap.size := by rw [← hsU]; exact b3'.size
    clear hi o3 hrun hfr hU hA3 sU b3' bU keep
    gi_wp2_with (gi_at_builtin; refine wpListIn_app2 rfl _ _ rfl rfl rfl HR.out ?_)
    have hi := HI.out
    have ne3 : ∀ b, A3 = some ⟨b, 0, none⟩ → b ≠ w.heap.size ∧ b ≠ w2.heap.size ∧ b ≠ W3.heap.size + 1 ∧ b ≠ W3.heap.size := fun b e => by
      rcases HA3.out with h | h
      · exact hi.apart b (h ▸ e)
      · rw [h] at e
        injection e with e
        injection e with e
        have q1 := hi.shape.lt
        have q2 := hi.box.lt
        have q3 := hi.t
        have q4 := hi.f
        omega
    have oth : ∀ b, b ≠ w2.heap.size → (w3.setCell ⟨w2.heap.size, 0, none⟩ (.slice A3 (pre.length + 1) c3)).heap[b]? = w3.heap[b]? := fun b hb => Below.heap_setCell w3 _ _ b hb
    have own3 : AlsO (w3.setCell ⟨w2.heap.size, 0, none⟩ (.slice A3 (pre.length + 1) c3)) w.heap.size A3 (pre ++ [x]).length c3 ((pre ++ [x]).map fun n => ⟨n, s.wl⟩) := by
      rw [List.map_append, List.length_append]
      exact ⟨HO3.out.1, HO3.out.2.keep (by simp) (fun g e _ => oth g (ne3 g e).2.1)⟩
    have q3 := hi.t
    have q4 := hi.f
    have q5 := hi.shape.lt
    refine ⟨KeepsFrom.trans ⟨by omega, fun k o hB' hk ho => ?_⟩ ((KeepsOthers.setCell _ _ _).from _), ⟨(oth _ (by omega)).trans (HKeep.out _ q3 (nA _ (by omega))), (oth _ (by omega)).trans (HKeep.out _ q4 (nA _ (by omega)))⟩, ⟨A3, c3, ⟨?_, own3, ?_, ne3, (oth _ (by omega)).trans hsh3, by simp; omega, by simp; omega⟩⟩, ?_⟩
    · rw [HKeep.out k (Array.getElem?_eq_some_iff.1 hk).1 (fun e => by
        obtain ⟨o', ho', hc'⟩ := hi.cells k e
        rw [hk] at ho'
        injection ho' with e'
        subst e'
        rw [ho] at hc'
        cases hc')]
      exact hk
    · have := hbox3.set 0 (.slice A3 (pre.length + 1) c3)
      rw [List.length_append]
      exact this
    · exact InCells.own own3.2 (by simp) (by omega)
    · exact (hB.trans HB3.out).setCell (p := ⟨w2.heap.size, 0, none⟩) (by show w.heap.size ≤ w2.heap.size; omega) _
  case done =>
    rintro D ys W hD rfl ⟨⟨A', c', hi⟩, hB⟩ hK
    have x0 := blk1 hi.box
    have HI := Lib.hid hi
    clear hi
    gi_wp2_with fail
    refine ⟨by simp, .inl ⟨_, _, rfl, run_takeDeferred hK, ?_⟩⟩
    refine ⟨_, results_tmp rfl _ _ _, ?_⟩
    unfold NewA
    rw [List.length_map]
    exact ⟨A', c', rfl, ⟨HI.out.own.1, OwnC.grown HI.out.own.2 (grownBy_putObj' W D _) (fun r e => by cases e; exact ⟨_, hK, rfl⟩)⟩, hB.trans (belowK_b (w := w) (Nat.le_refl _) W D _ _ (by have := b04.size; omega) hK rfl rfl)⟩
  case stop =>
    rintro D c pre W _ _ h _
    exact h.elim
set_option maxHeartbeats 2000000 in
theorem options_any (A : Option Addr) (n c : Nat) (s : Sh) (w : World) (h : ArgS w A n c s) : Calls Try.prog 16 #[shV A n c s] w (NewA (optL s) w) := by
  cases hc : chk s
  · obtain ⟨V, hV⟩ : ∃ V, V = w.alloc (shO A n c s) := ⟨_, rfl⟩
    have bV : Below w.heap.size w V := by rw [hV]; exact (Below.refl _ _).alloc (Nat.le_refl _) _
    have HCk := Lib.hid (check_is 70 A n c s V (h.below bV) (chkE_no hc))
    rw [opt_no hc]
    clear h hc
    go_enter Try.func16, Try.ntmps16
    go_wp2_with fail
    rw [← hV]
    clear hV
    refine HCk.out.mono ?_
    rintro e w1 ⟨rfl, b1⟩
    go_wp2_with fail
    go_ret
    exact ⟨none, 0, rfl, SOwn.nil _ _ _ _, below_step bV b1⟩
  · by_cases h3 : s.kd = 3
    · have hal := (mal_facts hc h3).1
      have hn : n = 0 := by have := h.st.len; rw [hal] at this; exact this.symm
      subst hn
      exact options_mal A c s w h hc h3
    · have hlen := h.st.len
      subst hlen
      obtain ⟨V, hV⟩ : ∃ V, V = w.alloc (shO A s.al.length c s) := ⟨_, rfl⟩
      have bV : Below w.heap.size w V := by rw [hV]; exact (Below.refl _ _).alloc (Nat.le_refl _) _
      have kV : Blk V w.heap.size 24 #[.int .i64 s.kd, .slice A s.al.length c, .int .i64 s.mn, .int .i64 s.mx, .int .i64 s.wl] := by rw [hV]; exact Blk.new _ _ _
      have HCk := Lib.hid (check_is 0 A s.al.length c s V (h.below bV) (chkE_yes hc))
      have HCl := Lib.hid fun (w' : World) (b : Below V.heap.size V w') => aclone_any A s.al.length c s.al w' ((h.st.below bV).below b) (by have := h.few; omega) h.bare
      rw [opt_al hc h3]
      have e3 : (s.kd == 3) = false := by simpa using h3
      clear h hc h3
      go_enter Try.func16, Try.ntmps16
      go_wp2_with fail
      rw [← hV]
      clear hV
      refine HCk.out.mono ?_
      rintro e w1 ⟨rfl, b1⟩
      have k1 := kV.below b1 kV.lt
      obtain ⟨x0, x1, x2, x3, x4⟩ := blk5 k1
      go_wp2_with fail
      refine (HCl.out w1 b1).mono ?_
      rintro e w2 ⟨A2, c2, rfl, o2, b2⟩
      have k2 := k1.below b2 k1.lt
      clear x0 x1 x2 x3 x4
      have bO : Below w2.heap.size w2 (w2.alloc (.cells #[.slice A2 s.al.length c2] 22)) := (Below.refl _ _).alloc (Nat.le_refl _) _
      obtain ⟨x0, x1, x2, x3, x4⟩ := blk5 (k2.alloc (.cells #[.slice A2 s.al.length c2] 22))
      have HO := Lib.hid ((o2.below bO).mono (Nat.le_trans bV.size b1.size))
      clear o2
      go_wp2_with fail
      go_ret
      exact ⟨A2, c2, rfl, HO.out, below_step (below_step (below_step bV b1) b2) bO⟩
end Go.Proofs.Ythfnmighhoighaa.ShapeW
