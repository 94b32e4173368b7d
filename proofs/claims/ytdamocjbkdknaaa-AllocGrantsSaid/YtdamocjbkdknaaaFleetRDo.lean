/-
  Contract of musterref12: Do.
-/
import Derived.Test.YtdamocjbkdknaaaFleetOne
import Derived.Test.YtdamocjbkdknaaaFleetRef2
import Derived.Test.YtdamocjbkdknaaaFleetDo
namespace Go.Proofs.Ytdamocjbkdknaaa.FleetW
open Go.RowKit Mem Fleet
set_option linter.unusedVariables false
set_option linter.unusedSimpArgs false
set_option linter.unnecessarySimpa false

theorem doT_tick {l : List Nd} {n act job now : Int} (h : tickB now = false) : doT l n act job now = ([], 120) := by
  unfold doT
  repeat' split
  all_goals first | rfl | simp_all
set_option maxHeartbeats 4000000 in
set_option maxRecDepth 100000 in
theorem rdo_any (A : Option Addr) (n c : Nat) (l : List Nd) (m act job now : Int) (w : World) (h : Nds w A n l) (hn : n ≤ maxLen) :
    Calls Try.prog 28 #[.slice A n c, .int .i64 m, .int .i64 act, .int .i64 job, .int .i64 now] w (NPost (doT l m act job now) w) := by
  have hlen := h.len
  subst hlen
  have HCk := Lib.hid (rcheck_any A l.length c l w h hn)
  cases hck : chk l
  · rw [chkE_no hck] at HCk
    have HP := Lib.hid (doT_chk (n := m) (act := act) (job := job) (now := now) hck)
    clear hck h
    go_enter Try.func28, Try.ntmps28
    go_wp2_with fail
    refine HCk.out.mono ?_
    rintro e w1 ⟨rfl, b1⟩
    go_wp2_with fail
    go_ret2
    rw [HP.out]
    exact ⟨none, 0, rfl, SOwn.nil _ _ _ _, b1⟩
  rw [chkE_yes hck] at HCk
  have hfew := (chk_iff.1 hck).few
  by_cases h1 : m < 0
  · have HP := Lib.hid (doT_out (l := l) (act := act) (job := job) (now := now) (.inl h1))
    clear hck h
    go_enter Try.func28, Try.ntmps28
    go_wp2_with fail
    refine HCk.out.mono ?_
    rintro e w1 ⟨rfl, b1⟩
    go_wp2_with fail
    go_ret2
    rw [HP.out]
    exact ⟨none, 0, rfl, SOwn.nil _ _ _ _, b1⟩
  have h1' : 0 ≤ m := by omega
  by_cases h2 : (l.length : Int) ≤ m
  · have HP := Lib.hid (doT_out (l := l) (act := act) (job := job) (now := now) (.inr h2))
    clear hck h h1
    go_enter Try.func28, Try.ntmps28
    go_wp2_with fail
    refine HCk.out.mono ?_
    rintro e w1 ⟨rfl, b1⟩
    go_wp2_with fail
    go_ret2
    rw [HP.out]
    exact ⟨none, 0, rfl, SOwn.nil _ _ _ _, b1⟩
  obtain ⟨k, rfl⟩ : ∃ k : Nat, m = (k : Int) := ⟨m.toNat, by omega⟩
  have hk : k < l.length := by omega
  have hki : (k : Int) < (l.length : Int) := by omega
  have hk2 : decide (l.length ≤ k) = false := by simp; omega
  have hk3 : ¬ l.length ≤ k := by omega
  clear h1 h1' h2
  by_cases h3 : now < 0
  · have HP := Lib.hid (doT_tick (l := l) (n := (k : Int)) (act := act) (job := job) (now := now) (by cases ht : tickB now; rfl; have := tick_iff.1 ht; omega))
    clear hck h
    go_enter Try.func28, Try.ntmps28
    go_wp2_with fail
    refine HCk.out.mono ?_
    rintro e w1 ⟨rfl, b1⟩
    go_wp2_with fail
    go_ret2
    rw [HP.out]
    exact ⟨none, 0, rfl, SOwn.nil _ _ _ _, b1⟩
  have h3' : 0 ≤ now := by omega
  by_cases h4 : 1000000 < now
  · have HP := Lib.hid (doT_tick (l := l) (n := (k : Int)) (act := act) (job := job) (now := now) (by cases ht : tickB now; rfl; have := tick_iff.1 ht; omega))
    clear hck h h3
    go_enter Try.func28, Try.ntmps28
    go_wp2_with fail
    refine HCk.out.mono ?_
    rintro e w1 ⟨rfl, b1⟩
    go_wp2_with fail
    go_ret2
    rw [HP.out]
    exact ⟨none, 0, rfl, SOwn.nil _ _ _ _, b1⟩
  have h4' : now ≤ 1000000 := by omega
  have h3d : decide (now < 0) = false := by simp; omega
  have h4d : decide (1000000 < now) = false := by simp; omega
  have ht : tickB now = true := tick_iff.2 ⟨h3', h4'⟩
  clear h3 h4
  obtain ⟨b, off, x, rfl, hb, hx, _⟩ := Lst.seven h hk
  have HP := Lib.hid (doT_at (act := act) (job := job) (now := now) hck hx)
  rw [ht, if_neg (by simp)] at HP
  have hfx := (chk_iff.1 hck).fine x (mem_of_at hx)
  obtain ⟨he1, he2, _⟩ := fineN_iff.1 hfx
  have HX := Lib.hid hx
  have HH := Lib.hid h
  have HFx := Lib.hid hfx
  have HOn := Lib.hid (rone_any x act job now)
  unfold OneC at HOn
  clear hck hx h ht hfx
  cases hm : mayB x act job
  · rw [hm, if_pos rfl] at HP
    go_enter Try.func28, Try.ntmps28
    go_wp2_with fail
    refine HCk.out.mono ?_
    rintro e w1 ⟨rfl, b1⟩
    obtain ⟨b', off', x', e', hb', hx', d0, d1, d2, d3, d4, d5, d6⟩ := Lst.seven (HH.out.below b1) hk
    injection e' with e'
    injection e' with e1 e2
    subst e1 e2
    rw [HX.out] at hx'
    injection hx' with hx'
    subst hx'
    go_wp2_with fail
    refine (HOn.out _ he2 he1).mono ?_
    rintro e w2 ⟨y, rfl, hy, b2⟩
    rw [hm]
    clear d0 d1 d2 d3 d4 d5 d6 hy hm
    go_wp2_with fail
    go_ret2
    rw [HP.out]
    exact ⟨none, 0, rfl, SOwn.nil _ _ _ _, (below_step b1 b2).alloc (below_step b1 b2).size _⟩
  · rw [hm, if_neg (by simp)] at HP
    go_enter Try.func28, Try.ntmps28
    go_wp2_with fail
    refine HCk.out.mono ?_
    rintro e w1 ⟨rfl, b1⟩
    obtain ⟨b', off', x', e', hb', hx', d0, d1, d2, d3, d4, d5, d6⟩ := Lst.seven (HH.out.below b1) hk
    injection e' with e'
    injection e' with e1 e2
    subst e1 e2
    rw [HX.out] at hx'
    injection hx' with hx'
    subst hx'
    go_wp2_with fail
    refine (HOn.out _ he2 he1).mono ?_
    rintro e w2 ⟨y, rfl, hy, b2⟩
    rw [hm]
    have hyd := hy HFx.out hm
    rw [← hyd] at HP
    have b02 := below_step b1 b2
    clear d0 d1 d2 d3 d4 d5 d6 hy hm hyd
    obtain ⟨V, hV⟩ : ∃ V, V = w2.alloc (.cells #[.int .i64 y.st, .int .i64 y.jb, .int .i64 y.ep, .bool y.dr, .int .i64 y.wt, .int .i64 y.si, .int .i64 y.ak] 48) := ⟨_, rfl⟩
    have bV : Below w2.heap.size w2 V := by rw [hV]; exact (Below.refl _ _).alloc (Nat.le_refl _) _
    have kV : Blk V w2.heap.size 48 #[.int .i64 y.st, .int .i64 y.jb, .int .i64 y.ep, .bool y.dr, .int .i64 y.wt, .int .i64 y.si, .int .i64 y.ak] := by rw [hV]; exact Blk.new _ _ _
    have b0V := below_step b02 bV
    obtain ⟨A3, c3, w3, hrun, o3, b3, hfr, _⟩ := app_s layN (P := Try.prog) (V.alloc (.cells #[] 48)) V.heap.size 22 22 48 _ 56 Try.underlying22 nodeInfo rfl (some ⟨V.heap.size, 0, none⟩) 0 0 [] (SOwn.none _ _ _ _ _) (some ⟨b, off, none⟩) l.length c l ((HH.out.below b0V).below ((Below.refl _ _).alloc (Nat.le_refl _) _)) (by simp [maxLen]; omega) (by omega) (by simp)
    simp only [Nat.zero_add, List.nil_append] at hrun o3
    have bV3 : Below V.heap.size V w3 := ((Below.refl _ _).alloc (Nat.le_refl _) _).trans b3
    have b03 := below_step b0V bV3
    have k3 := kV.below bV3 kV.lt
    obtain ⟨x0, x1, x2, x3, x4, x5, x6⟩ := blk7 k3
    have hc3 := o3.2.le
    obtain ⟨g, rfl, hg1, hg2, hro1, hro2⟩ := o3.2.room (by omega)
    clear hro1 hro2
    obtain ⟨s, _, ⟨q0, q1, q2, q3, q4, q5, q6⟩, hfz⟩ := own_seven o3 hk
    have f0 := hfz 0 (by omega)
    have f1 := hfz 1 (by omega)
    have f2 := hfz 2 (by omega)
    have f3 := hfz 3 (by omega)
    have f4 := hfz 4 (by omega)
    have f5 := hfz 5 (by omega)
    have f6 := hfz 6 (by omega)
    rw [Nat.add_zero] at f0
    have HN := Lib.hid (sown_set layN o3 k hk y)
    have hVs : V.heap.size = w2.heap.size + 1 := by rw [hV]; simp
    rw [hVs, hV] at hrun
    have HR := Lib.hid hrun
    have hlt := kV.lt
    have hgne : g ≠ w2.heap.size := by omega
    have hgne' : w2.heap.size ≠ g := by omega
    have HL : Hid ((l.set k y).length = l.length) := by show _ = _; simp
    clear hrun o3 hfz hfr k3 kV hV b3 hVs
    go_wp2_with (at_builtin; refine wpList_app2 rfl _ _ rfl rfl rfl HR.out ?_)
    go_ret2
    rw [HP.out]
    unfold NPost
    rw [HL.out]
    exact ⟨_, c3, rfl, HN.out.mono b0V.size, below_setCells b03 (Nat.le_trans b0V.size hg1) (ndRow y) (k * 7)⟩
end Go.Proofs.Ytdamocjbkdknaaa.FleetW
