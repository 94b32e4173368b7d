/-
  AllocApart: the law's walk.
-/
import Derived.Test.YtdamocjbkdknaaaAllocAwake
import Derived.Test.YtdamocjbkdknaaaAllocPlain2
import Derived.Test.YtdamocjbkdknaaaFleetOpen
import Derived.Test.YtdamocjbkdknaaaFleetSame
namespace Go.Proofs.Ytdamocjbkdknaaa.FleetW
open Go.RowKit Mem Fleet
set_option linter.unusedVariables false
set_option linter.unusedSimpArgs false
set_option linter.unnecessarySimpa false

abbrev C7a (w : World) (b o : Nat) (s : Nd) : Prop := w.cell? ⟨b, o, none⟩ = some (.int .i64 s.st) ∧ w.cell? ⟨b, o + 1, none⟩ = some (.int .i64 s.jb) ∧ w.cell? ⟨b, o + 2, none⟩ = some (.int .i64 s.ep) ∧ w.cell? ⟨b, o + 3, none⟩ = some (.bool s.dr) ∧ w.cell? ⟨b, o + 4, none⟩ = some (.int .i64 s.wt) ∧ w.cell? ⟨b, o + 5, none⟩ = some (.int .i64 s.si) ∧ w.cell? ⟨b, o + 6, none⟩ = some (.int .i64 s.ak)
theorem C7a.below {w w' : World} {b o : Nat} {s : Nd} (h : C7a w b o s) (hb : b < w.heap.size) (hbel : Below w.heap.size w w') : C7a w' b o s :=
  ⟨(hbel.cell (p := ⟨b, o, none⟩) hb).trans h.1, (hbel.cell (p := ⟨b, o + 1, none⟩) hb).trans h.2.1, (hbel.cell (p := ⟨b, o + 2, none⟩) hb).trans h.2.2.1, (hbel.cell (p := ⟨b, o + 3, none⟩) hb).trans h.2.2.2.1, (hbel.cell (p := ⟨b, o + 4, none⟩) hb).trans h.2.2.2.2.1, (hbel.cell (p := ⟨b, o + 5, none⟩) hb).trans h.2.2.2.2.2.1, (hbel.cell (p := ⟨b, o + 6, none⟩) hb).trans h.2.2.2.2.2.2⟩
def APRel (w5 : World) (n : Nat) (Y : Value) (wr : World) : Prop := ∃ k : Nat, k ≤ n ∧ Y = .int .i64 k ∧ Below w5.heap.size w5 wr
theorem heldN_lt (l : List Nd) (job : Int) : heldN l job < 2 ^ 64 := by
  unfold heldN
  split
  · simp
  · exact whereN_lt _ _
set_option maxHeartbeats 8000000 in
set_option maxRecDepth 100000 in
theorem aapart_any (A : Option Addr) (n c : Nat) (l : List Nd) (a : Ac) (other : Int) (W : World) (h : ArgN W A n c l) :
    Calls Try.prog 11 #[.slice A n c, .agg #[.int .i64 a.nd, .int .i64 a.ac, .int .i64 a.jb, .int .i64 a.nw], .int .i64 other] W (TrueB W) := by
  have hl := h.st.len
  subst hl
  obtain ⟨nd, ac, jb, nw⟩ := a
  simp only
  have HAw := Lib.hid aawake_any
  obtain ⟨V, hV⟩ : ∃ V, V = W.alloc (.cells #[.int .i64 nd, .int .i64 ac, .int .i64 jb, .int .i64 nw] 42) := ⟨_, rfl⟩
  have bV : Below W.heap.size W V := by rw [hV]; exact (Below.refl _ _).alloc (Nat.le_refl _) _
  have kV : Blk V W.heap.size 42 #[.int .i64 nd, .int .i64 ac, .int .i64 jb, .int .i64 nw] := by rw [hV]; exact Blk.new _ _ _
  by_cases h1 : l.length ≤ 100
  case neg =>
    have HF := Lib.hid (nfew_is false A l.length c V (by simp; omega))
    clear h
    go_enter Try.func11, Try.ntmps11
    go_wp2_with fail
    rw [← hV]
    clear hV
    refine HF.out.mono ?_
    rintro e w1 ⟨rfl, rfl⟩
    go_wp2_with fail
    refine (HAw.out V).mono ?_
    rintro e w1 ⟨rfl, b1⟩
    go_wp2_with fail
    go_ret
    exact ⟨rfl, below_step bV b1⟩
  have HF := Lib.hid (nfew_is true A l.length c V (by simp; omega))
  obtain ⟨x0, x1, x2, x3⟩ := blk4 kV
  by_cases ho : other = jb
  · subst ho
    clear h
    go_enter Try.func11, Try.ntmps11
    go_wp2_with fail
    rw [← hV]
    clear hV
    refine HF.out.mono ?_
    rintro e w1 ⟨rfl, rfl⟩
    go_wp2_with fail
    refine (HAw.out V).mono ?_
    rintro e w1 ⟨rfl, b1⟩
    go_wp2_with fail
    go_ret
    exact ⟨rfl, below_step bV b1⟩
  have o1 : (other == jb) = false := by simpa using ho
  have HH := Lib.hid h
  have HDo := Lib.hid (grant_any A l.length c l nd ac jb nw V (h.st.below bV) h.max h.bare)
  by_cases he : (grantT l nd ac jb nw).2.2.2 = 0
  case neg =>
    obtain ⟨r, hr⟩ : ∃ r, r = grantT l nd ac jb nw := ⟨_, rfl⟩
    rw [← hr] at HDo he
    obtain ⟨r1, r2, r3, r4⟩ := r
    simp only at he
    have e1 : (r4 == 0) = false := by simpa using he
    have e2 : (r4 != 0) = true := by simpa using he
    clear hr h he ho
    go_enter Try.func11, Try.ntmps11
    go_wp2_with fail
    rw [← hV]
    clear hV
    refine HF.out.mono ?_
    rintro e w1 ⟨rfl, rfl⟩
    go_wp2_with fail
    refine HDo.out.mono ?_
    rintro e w1 ⟨A1, c1, B1, d1, rfl, o1, p1, b1⟩
    have b01 := below_step bV b1
    clear o1 p1 x0 x1 x2 x3
    go_wp2_with fail
    refine (HAw.out w1).mono ?_
    rintro e w2 ⟨rfl, b2⟩
    go_wp2_with fail
    go_ret
    exact ⟨rfl, below_step b01 b2⟩
  obtain ⟨N, m, rfl, g, hgr⟩ := grant_ok he
  have hfew := (chk_iff.1 g.good).few
  rw [hgr] at HDo
  have hids := takes_up l N
  have hlt64 := takes_lt (N := N) hfew
  have hS64 : setM (takes l N) < 2 ^ 64 := setM_lt _ _ hids hlt64
  have hand := bits_and (heldN m other) (setM (takes l N)) (heldN_lt _ _) hS64
  rw [grant_apart g ho] at hand
  simp only [Int.natCast_zero] at hand
  have hheld := grant_held g ho
  have hor := bits_or (heldN l jb) (setM (takes l N)) (heldN_lt _ _) hS64
  have HOwn : Hid (ac = 1 → heldN m jb = heldN l jb ||| setM (takes l N)) := by
    show _ → _
    intro e
    subst e
    exact grant_own g
  have HLen := Lib.hid g.done.len
  have HAt : Hid (∀ i, i ∉ takes l N → m[i]? = l[i]?) := fun i hi => by rw [g.done.at_, if_neg hi]
  have HBit : Hid (∀ i : Nat, i < 64 → hasB (setM (takes l N)) (i : Int) = decide (i ∈ takes l N)) := fun i hi => by
    rw [hasB, Int.toNat_natCast, setM_bit _ _ hids]
    have : decide ((i : Int) < 64) = true := by simp; omega
    rw [this]
    simp
  have HHas : Hid (∀ w' (i : Nat), Calls Try.prog 44 #[.int .u64 (setM (takes l N) : Int), .int .i64 (i : Int)] w' (fun e w'' => e = .returned (.bool (hasB (setM (takes l N)) (i : Int))) ∧ w' = w'')) := fun w' i => has_any (setM (takes l N)) (i : Int) w' hS64
  obtain ⟨S, hS⟩ : ∃ S, S = setM (takes l N) := ⟨_, rfl⟩
  obtain ⟨T, hT⟩ : ∃ T, T = notesT m (nats (takes l N)) := ⟨_, rfl⟩
  rw [← hS] at hand hor HDo HHas HOwn HBit
  rw [← hT] at HDo
  obtain ⟨U, hU⟩ : ∃ U, U = heldN l jb ||| S := ⟨_, rfl⟩
  rw [← hU] at hor HOwn
  clear h he hgr hids hlt64 hS64 hS hT hU g ho
  go_enter Try.func11, Try.ntmps11
  go_wp2_with fail
  rw [← hV]
  clear hV
  refine HF.out.mono ?_
  rintro e w1 ⟨rfl, rfl⟩
  go_wp2_with fail
  refine HDo.out.mono ?_
  rintro e w1 ⟨A1, c1, B1, d1, rfl, q1, p1, b1⟩
  have b01 := below_step bV b1
  have k1 := kV.below b1 kV.lt
  have HO1 := Lib.hid (q1.lst layN)
  have HM1 := Lib.hid (SOwn.max q1)
  have HHe1 := Lib.hid fun (w' : World) (b : Below w1.heap.size w1 w') => held_any A1 m.length c1 m other w' (HO1.out.below b) HM1.out
  have HHe2 := Lib.hid fun (w' : World) (b : Below w1.heap.size w1 w') => held_any A l.length c l other w' ((HH.out.st.below b01).below b) HH.out.max
  have HHe3 := Lib.hid fun (w' : World) (b : Below w1.heap.size w1 w') => held_any A1 m.length c1 m jb w' (HO1.out.below b) HM1.out
  have HHe4 := Lib.hid fun (w' : World) (b : Below w1.heap.size w1 w') => held_any A l.length c l jb w' ((HH.out.st.below b01).below b) HH.out.max
  rw [hheld] at HHe1 hand
  obtain ⟨X, hX⟩ : ∃ X, X = heldN l other := ⟨_, rfl⟩
  obtain ⟨Y, hY⟩ : ∃ Y, Y = heldN l jb := ⟨_, rfl⟩
  obtain ⟨Z, hZ⟩ : ∃ Z, Z = heldN m jb := ⟨_, rfl⟩
  rw [← hX] at HHe1 HHe2 hand
  rw [← hY] at HHe4 hor
  rw [← hZ] at HHe3 HOwn
  have eX : ((X : Int) == (X : Int)) = true := by simp
  have hll : ((m.length : Int) != (l.length : Int)) = false := by rw [HLen.out]; simp
  have hll' : (m.length == l.length) = true := by rw [HLen.out]; simp
  have hll2 : (m.length != l.length) = false := by rw [HLen.out]; simp
  clear q1 p1 x0 x1 x2 x3 hX hY hZ hheld
  go_wp2_with fail
  refine (HHe1.out w1 (Below.refl _ _)).mono ?_
  rintro e w2 ⟨rfl, b2⟩
  go_wp2_with fail
  refine (HHe1.out w2 b2).mono ?_
  rintro e w3 ⟨rfl, b3⟩
  have b13 := below_step b2 b3
  go_wp2_with fail
  refine (HHe2.out w3 b13).mono ?_
  rintro e w4 ⟨rfl, b4⟩
  have b14 := below_step b13 b4
  have b04 := below_step b01 b14
  have k4 := k1.below b14 k1.lt
  go_wp2_with fail
  go_loopw [11] (fun Y wr => APRel w4 l.length Y wr) (fun Y _ => l.length - (intOf Y).toNat)
  case atStart => exact ⟨0, by omega, rfl, Below.refl _ _⟩
  case round =>
    obtain ⟨k, hk, rfl, hbel⟩ := hrel
    have b0 := Below.refl wr.heap.size wr
    have b1r := below_step b14 hbel
    have b0r := below_step b01 b1r
    by_cases hlt : k < l.length
    · obtain ⟨b, off, s, rfl, hb, hs, D0⟩ := Lst.seven (HH.out.st.below b0r) hlt
      obtain ⟨b', off', z, rfl, hb', hz, E0⟩ := Lst.seven (HO1.out.below b1r) (show k < m.length by rw [HLen.out]; exact hlt)
      have hki : (k : Int) < (l.length : Int) := by omega
      have hki2 : (k : Int) < (m.length : Int) := by rw [HLen.out]; exact hki
      have hki3 : k < m.length := by rw [HLen.out]; exact hlt
      have hbit := HBit.out k (by omega)
      have HHi := Lib.hid fun w' => HHas.out w' k
      rw [hbit] at HHi
      go_wp2_with fail
      go_cut [82] (fun X wx => X = .bool false ∧ Below wr.heap.size wr wx)
      case first =>
        by_cases hin : k ∈ takes l N
        · rw [decide_eq_true hin] at HHi
          clear hin hs hz D0 E0 hbit
          refine wp_region_cls (fun w' => Below wr.heap.size wr w') (by kernel_rfl) (by kernel_rfl) b0.drew ?_
          repeat (first
            | (refine cq_skip ?_ ?_
               · rfl
               simp only [Act.put, List.setIfInBounds_toArray, List.set_cons_succ, List.set_cons_zero])
            | (refine cq_ex ?_ ?_
               · rfl
               apply Exists.intro
               refine ⟨fun w' hw' => ?_, ?_⟩
               · simp [go_sem, hki, hki2]
                 try rfl
               simp only [Act.put, List.setIfInBounds_toArray, List.set_cons_succ, List.set_cons_zero])
            | (refine cq_call 44 #[.int .u64 (S : Int), .int .i64 (k : Int)] (.bool true) ?_ (fun w' => ?_) (fun w' hw' => (HHi.out w').mono fun e w'' ⟨he, hb⟩ => ⟨he, hb ▸ hw'⟩) ?_
               · rfl
               · simp [go_sem]
               simp only [Act.put, List.setIfInBounds_toArray, List.set_cons_succ, List.set_cons_zero]))
          refine cq_nil ?_
          intro w' b7
          go_wp2_with fail
          go_meet
          exact ⟨rfl, b7⟩
        · rw [decide_eq_false hin] at HHi
          have hzs : z = s := by
            rw [HAt.out k hin, hs] at hz
            injection hz with hz
            exact hz.symm
          subst hzs
          have HSw : Hid (∀ w', Below wr.heap.size wr w' → C7a w' b (off + k * 7) z ∧ C7a w' b' (off' + k * 7) z) := fun w' hx => ⟨C7a.below D0 hb hx, C7a.below E0 hb' hx⟩
          clear hin hs hz D0 E0 hbit
          refine wp_region_cls (fun w' => Below wr.heap.size wr w') (by kernel_rfl) (by kernel_rfl) b0.drew ?_
          repeat (first
            | (refine cq_skip ?_ ?_
               · rfl
               simp only [Act.put, List.setIfInBounds_toArray, List.set_cons_succ, List.set_cons_zero])
            | (refine cq_ex ?_ ?_
               · rfl
               apply Exists.intro
               refine ⟨fun w' hw' => ?_, ?_⟩
               · obtain ⟨⟨c0, c1, c2, c3, c4, c5, c6⟩, m0, m1, m2, m3, m4, m5, m6⟩ := HSw.out w' hw'
                 simp [go_sem, c0, c1, c2, c3, c4, c5, c6, m0, m1, m2, m3, m4, m5, m6, hki, hki2, hki3, hlt]
                 try rfl
               simp only [Act.put, List.setIfInBounds_toArray, List.set_cons_succ, List.set_cons_zero])
            | (refine cq_call 44 #[.int .u64 (S : Int), .int .i64 (k : Int)] (.bool false) ?_ (fun w' => ?_) (fun w' hw' => (HHi.out w').mono fun e w'' ⟨he, hb⟩ => ⟨he, hb ▸ hw'⟩) ?_
               · rfl
               · simp [go_sem]
               simp only [Act.put, List.setIfInBounds_toArray, List.set_cons_succ, List.set_cons_zero]))
          refine cq_nil ?_
          intro w' b7
          go_wp2_with fail
          go_meet
          exact ⟨rfl, b7⟩
      case rest =>
        obtain ⟨rfl, b7⟩ := hcut
        clear hs hz D0 E0 hbit
        go_wp2_with fail
        exact ⟨⟨k + 1, by omega, by go_num, below_step hbel b7⟩, by simp [intOf]; omega⟩
    · obtain rfl : k = l.length := by omega
      have kr := k4.below hbel k4.lt
      have HSw : Hid (∀ w', Below wr.heap.size wr w' → w'.cell? ⟨W.heap.size, 1, none⟩ = some (.int .i64 ac) ∧ w'.cell? ⟨W.heap.size, 2, none⟩ = some (.int .i64 jb)) := fun w' hx => ⟨(blk4 (kr.below hx kr.lt)).2.1, (blk4 (kr.below hx kr.lt)).2.2.1⟩
      go_wp2_with fail
      by_cases hac : ac = 1
      · subst hac
        have hZU := HOwn.out rfl
        subst hZU
        refine wp_region_cls (fun w' => Below wr.heap.size wr w') (by kernel_rfl) (by kernel_rfl) b0.drew ?_
        repeat (first
          | (refine cq_skip ?_ ?_
             · rfl
             simp only [Act.put, List.setIfInBounds_toArray, List.set_cons_succ, List.set_cons_zero])
          | (refine cq_ex ?_ ?_
             · rfl
             apply Exists.intro
             refine ⟨fun w' hw' => ?_, ?_⟩
             · obtain ⟨c0, c1⟩ := HSw.out w' hw'
               simp [go_sem, c0, c1, hor]
               try rfl
             simp only [Act.put, List.setIfInBounds_toArray, List.set_cons_succ, List.set_cons_zero])
          | (refine cq_call 37 #[.slice A1 m.length c1, .int .i64 jb] (.int .u64 (Z : Int)) ?_ (fun w' => ?_) (fun w' hw' => (HHe3.out w' (below_step b1r hw')).mono fun e w'' ⟨he, hb⟩ => ⟨he, below_step hw' hb⟩) ?_
             · rfl
             · simp [go_sem]
             simp only [Act.put, List.setIfInBounds_toArray, List.set_cons_succ, List.set_cons_zero])
          | (refine cq_call 37 #[.slice A l.length c, .int .i64 jb] (.int .u64 (Y : Int)) ?_ (fun w' => ?_) (fun w' hw' => (HHe4.out w' (below_step b1r hw')).mono fun e w'' ⟨he, hb⟩ => ⟨he, below_step hw' hb⟩) ?_
             · rfl
             · simp [go_sem]
             simp only [Act.put, List.setIfInBounds_toArray, List.set_cons_succ, List.set_cons_zero])
          | (refine cq_call 31 #[] (.bool true) ?_ (fun w' => ?_) (fun w' hw' => (HAw.out w').mono fun e w'' ⟨he, hb⟩ => ⟨he, below_step hw' hb⟩) ?_
             · rfl
             · simp [go_sem]
             simp only [Act.put, List.setIfInBounds_toArray, List.set_cons_succ, List.set_cons_zero]))
        refine cq_nil ?_
        intro w' b7
        go_wp2_with fail
        go_ret
        exact ⟨rfl, below_step b0r b7⟩
      · have t1 : (ac != 1) = true := by simpa using hac
        have t2 : (ac == 1) = false := by simpa using hac
        refine wp_region_cls (fun w' => Below wr.heap.size wr w') (by kernel_rfl) (by kernel_rfl) b0.drew ?_
        repeat (first
          | (refine cq_skip ?_ ?_
             · rfl
             simp only [Act.put, List.setIfInBounds_toArray, List.set_cons_succ, List.set_cons_zero])
          | (refine cq_ex ?_ ?_
             · rfl
             apply Exists.intro
             refine ⟨fun w' hw' => ?_, ?_⟩
             · obtain ⟨c0, c1⟩ := HSw.out w' hw'
               simp [go_sem, c0, c1, t1, t2, hac]
               try rfl
             simp only [Act.put, List.setIfInBounds_toArray, List.set_cons_succ, List.set_cons_zero])
          | (refine cq_call 31 #[] (.bool true) ?_ (fun w' => ?_) (fun w' hw' => (HAw.out w').mono fun e w'' ⟨he, hb⟩ => ⟨he, below_step hw' hb⟩) ?_
             · rfl
             · simp [go_sem]
             simp only [Act.put, List.setIfInBounds_toArray, List.set_cons_succ, List.set_cons_zero]))
        refine cq_nil ?_
        intro w' b7
        go_wp2_with fail
        go_ret
        exact ⟨rfl, below_step b0r b7⟩
end Go.Proofs.Ytdamocjbkdknaaa.FleetW
