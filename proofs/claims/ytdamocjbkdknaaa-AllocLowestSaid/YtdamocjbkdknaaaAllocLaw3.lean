/-
  AllocLowest: the law's walk.
-/
import Derived.Test.YtdamocjbkdknaaaAllocAwake
import Derived.Test.YtdamocjbkdknaaaAllocPlain2
import Derived.Test.YtdamocjbkdknaaaFleetOpen
import Derived.Test.YtdamocjbkdknaaaFleetSame
namespace Go.Proofs.Ytdamocjbkdknaaa.FleetW
open Go.RowKit Mem Fleet
set_option linter.unusedVariables false
set_option linter.unusedSimpArgs false
set_option linter.unnecessarySimpa false

theorem wrap_neg (R : Nat) (h0 : 0 < R) (h : R < 2 ^ 64) : IntKind.u64.wrap (-(R : Int)) = ((2 ^ 64 - R : Nat) : Int) := by
  have e : -(R : Int) = ((2 ^ 64 - R : Nat) : Int) - 18446744073709551616 := by omega
  unfold IntKind.wrap
  simp [IntKind.bits, IntKind.signed]
  omega
def ALRel (w5 : World) (n : Nat) (Y : Value) (wr : World) : Prop := ∃ k : Nat, k ≤ n ∧ Y = .int .i64 k ∧ Below w5.heap.size w5 wr
set_option maxHeartbeats 8000000 in
set_option maxRecDepth 100000 in
theorem alowest_any (A : Option Addr) (n c : Nat) (l : List Nd) (a : Ac) (W : World) (h : ArgN W A n c l) :
    Calls Try.prog 10 #[.slice A n c, .agg #[.int .i64 a.nd, .int .i64 a.ac, .int .i64 a.jb, .int .i64 a.nw]] W (TrueB W) := by
  have hl := h.st.len
  subst hl
  obtain ⟨nd, ac, jb, nw⟩ := a
  simp only
  have HAw := Lib.hid aawake_any
  obtain ⟨V, hV⟩ : ∃ V, V = W.alloc (.cells #[.int .i64 nd, .int .i64 ac, .int .i64 jb, .int .i64 nw] 42) := ⟨_, rfl⟩
  have bV : Below W.heap.size W V := by rw [hV]; exact (Below.refl _ _).alloc (Nat.le_refl _) _
  have kV : Blk V W.heap.size 42 #[.int .i64 nd, .int .i64 ac, .int .i64 jb, .int .i64 nw] := by rw [hV]; exact Blk.new _ _ _
  by_cases h1 : l.length ≤ 100
  case neg =>
    have HF := Lib.hid (nfew_is false A l.length c V (by simp; omega))
    clear h
    go_enter Try.func10, Try.ntmps10
    go_wp2_with fail
    rw [← hV]
    clear hV
    refine HF.out.mono ?_
    rintro e w1 ⟨rfl, rfl⟩
    go_wp2_with fail
    refine (HAw.out V).mono ?_
    rintro e w1 ⟨rfl, b1⟩
    go_wp2_with fail
    go_ret
    exact ⟨rfl, below_step bV b1⟩
  have HF := Lib.hid (nfew_is true A l.length c V (by simp; omega))
  have HH := Lib.hid h
  have HDo := Lib.hid (grant_any A l.length c l nd ac jb nw V (h.st.below bV) h.max h.bare)
  have HFr : Hid (∀ w', Below W.heap.size W w' → Calls Try.prog 21 #[.slice A l.length c] w' (Ret (.int .u64 (whereN freeQ l : Int)) w')) := fun w' hb' => free_any A l.length c l w' (HH.out.st.below hb') HH.out.max
  have hF64 := whereN_lt freeQ l
  by_cases he : (grantT l nd ac jb nw).2.2.2 = 0
  case neg =>
    obtain ⟨z1, z2, z3, z4⟩ := grant_err he
    obtain ⟨r, hr⟩ : ∃ r, r = grantT l nd ac jb nw := ⟨_, rfl⟩
    rw [← hr] at HDo z1 z2 z3 z4 he
    obtain ⟨r1, r2, r3, r4⟩ := r
    simp only at z1 z2 z3 z4 he
    subst z1 z2 z3
    have HCo : Hid (∀ w', Calls Try.prog 43 #[.int .u64 (whereN freeQ l : Int)] w' (fun e w'' => e = .returned (.int .i64 ((memL (whereN freeQ l)).length : Int)) ∧ w' = w'')) := fun w' => count_any (whereN freeQ l) w' hF64
    obtain ⟨F, hF⟩ : ∃ F, F = whereN freeQ l := ⟨_, rfl⟩
    rw [← hF] at HCo HFr z4
    obtain ⟨L, hL⟩ : ∃ L, L = (memL F).length := ⟨_, rfl⟩
    rw [← hL] at HCo z4
    have e1 : (r4 == 0) = false := by simpa using he
    have e2 : (r4 != 0) = true := by simpa using he
    obtain ⟨x0, x1, x2, x3⟩ := blk4 kV
    clear hr hF hL h hF64 he
    go_enter Try.func10, Try.ntmps10
    go_wp2_with fail
    rw [← hV]
    clear hV
    refine HF.out.mono ?_
    rintro e w1 ⟨rfl, rfl⟩
    go_wp2_with fail
    refine HDo.out.mono ?_
    rintro e w1 ⟨A1, c1, B1, d1, rfl, o1, p1, b1⟩
    have b01 := below_step bV b1
    have k1 := kV.below b1 kV.lt
    clear o1 p1 x0 x1 x2 x3
    simp only [List.length_nil]
    go_wp2_with fail
    refine (HFr.out w1 b01).mono ?_
    rintro e w2 ⟨rfl, b2⟩
    have b02 := below_step b01 b2
    have k2 := k1.below b2 k1.lt
    have HSw : Hid (∀ w', Below w2.heap.size w2 w' → w'.cell? ⟨W.heap.size, 0, none⟩ = some (.int .i64 nd)) := fun w' b => (blk4 (k2.below b k2.lt)).1
    have b0 := Below.refl w2.heap.size w2
    have x0 := HSw.out _ b0
    clear k1 k2 kV
    go_wp2_with fail
    by_cases h130 : r4 = 130
    · subst h130
      have t1 := z4 rfl
      have t1' : decide ((L : Int) < nd) = true := by simp [t1]
      clear z4 x0
      refine wp_region_cls (fun w' => Below w2.heap.size w2 w') (by kernel_rfl) (by kernel_rfl) b0.drew ?_
      repeat (first
        | (refine cq_skip ?_ ?_
           · rfl
           simp only [Act.put, List.setIfInBounds_toArray, List.set_cons_succ, List.set_cons_zero])
        | (refine cq_ex ?_ ?_
           · rfl
           apply Exists.intro
           refine ⟨fun w' hw' => ?_, ?_⟩
           · obtain c0 := HSw.out w' hw'
             simp [go_sem, c0, t1, t1']
             try rfl
           simp only [Act.put, List.setIfInBounds_toArray, List.set_cons_succ, List.set_cons_zero])
        | (refine cq_call 43 #[.int .u64 (F : Int)] (.int .i64 (L : Int)) ?_ (fun w' => ?_) (fun w' hw' => (HCo.out w').mono fun e w'' ⟨he, hb⟩ => ⟨he, hb ▸ hw'⟩) ?_
           · rfl
           · simp [go_sem]
           simp only [Act.put, List.setIfInBounds_toArray, List.set_cons_succ, List.set_cons_zero])
        | (refine cq_call 31 #[] (.bool true) ?_ (fun w' => ?_) (fun w' hw' => (HAw.out w').mono fun e w'' ⟨he, hb⟩ => ⟨he, below_step hw' hb⟩) ?_
           · rfl
           · simp [go_sem]
           simp only [Act.put, List.setIfInBounds_toArray, List.set_cons_succ, List.set_cons_zero]))
      refine cq_nil ?_
      intro w' b4
      go_wp2_with fail
      go_ret
      exact ⟨rfl, below_step b02 b4⟩
    · have t2 : (r4 == 130) = false := by simpa using h130
      have t3 : (r4 != 130) = true := by simpa using h130
      clear z4 x0
      refine wp_region_cls (fun w' => Below w2.heap.size w2 w') (by kernel_rfl) (by kernel_rfl) b0.drew ?_
      repeat (first
        | (refine cq_skip ?_ ?_
           · rfl
           simp only [Act.put, List.setIfInBounds_toArray, List.set_cons_succ, List.set_cons_zero])
        | (refine cq_ex ?_ ?_
           · rfl
           apply Exists.intro
           refine ⟨fun w' hw' => ?_, ?_⟩
           · obtain c0 := HSw.out w' hw'
             simp [go_sem, c0, t2, t3, h130]
             try rfl
           simp only [Act.put, List.setIfInBounds_toArray, List.set_cons_succ, List.set_cons_zero])
        | (refine cq_call 31 #[] (.bool true) ?_ (fun w' => ?_) (fun w' hw' => (HAw.out w').mono fun e w'' ⟨he, hb⟩ => ⟨he, below_step hw' hb⟩) ?_
           · rfl
           · simp [go_sem]
           simp only [Act.put, List.setIfInBounds_toArray, List.set_cons_succ, List.set_cons_zero]))
      refine cq_nil ?_
      intro w' b4
      go_wp2_with fail
      go_ret
      exact ⟨rfl, below_step b02 b4⟩
  obtain ⟨N, m, rfl, g, hgr⟩ := grant_ok he
  have hfew := (chk_iff.1 g.good).few
  obtain ⟨T, hT, hTl, hTk⟩ := grant_notes g (takes l N) (fun i hi => hi)
  rw [hgr, hT] at HDo
  have hids := takes_up l N
  have hlt64 := takes_lt (N := N) hfew
  have hS64 : setM (takes l N) < 2 ^ 64 := setM_lt _ _ hids hlt64
  have hmS : memL (setM (takes l N)) = takes l N := memL_setM hids hlt64
  have hup := sel_up freeQ l l.length
  have hslt := sel_lt64 hfew
  have hFs := free_setM g.good
  have hrest : diffN (whereN freeQ l) (setM (takes l N)) = setM ((sel freeQ l l.length).drop N) := by rw [hFs]; exact diff_drop hup hslt N
  have hsub : diffN (setM (takes l N)) (whereN freeQ l) = 0 := by rw [hFs]; exact diff_sub hup N
  have hfm := grant_free g
  have hR64 : setM ((sel freeQ l l.length).drop N) < 2 ^ 64 := setM_lt _ _ (hup.sublist (List.drop_sublist _ _)) (fun x hx => hslt x (List.mem_of_mem_drop hx))
  have hlow : setM ((sel freeQ l l.length).drop N) ≠ 0 → ∃ P : Nat, setM ((sel freeQ l l.length).drop N) &&& (2 ^ 64 - setM ((sel freeQ l l.length).drop N)) = P ∧ ¬ P < setM (takes l N) := by
    intro hne
    cases hd : (sel freeQ l l.length).drop N with
    | nil => rw [hd] at hne; simp [setM] at hne
    | cons p r =>
      have hpd := hup.sublist (List.drop_sublist N (sel freeQ l l.length))
      rw [hd] at hpd
      rw [hd] at hR64
      refine ⟨2 ^ p, low_bit (List.pairwise_cons.1 hpd).1 hR64, ?_⟩
      have : setM (takes l N) < 2 ^ p := by
        refine setM_lt _ _ hids fun x hx => ?_
        have hs := List.take_append_drop N (sel freeQ l l.length)
        rw [hd] at hs
        rw [← hs, List.pairwise_append] at hup
        exact hup.2.2 x hx p (by simp)
      omega
  have HCm := Lib.hid (g.done.ok g.good)
  have hTN : T.length = N := by rw [hTl, g.len]
  have HTN := Lib.hid hTN
  have HTk : Hid (∀ k, k < T.length → ∃ x i, T[k]? = some x ∧ (takes l N)[k]? = some i ∧ x.jb = jb ∧ x.nd = (i : Int)) := fun k hk => hTk k (by rw [← hTl]; exact hk)
  have HIds := Lib.hid hids
  have HLt := Lib.hid hlt64
  have HCo : Hid (∀ w', Calls Try.prog 43 #[.int .u64 (setM (takes l N) : Int)] w' (fun e w'' => e = .returned (.int .i64 (N : Int)) ∧ w' = w'')) := fun w' => by
    have := count_any (setM (takes l N)) w' hS64
    rw [hmS, g.len] at this
    exact this
  have HHas : Hid (∀ w' (i : Nat), i ∈ takes l N → Calls Try.prog 44 #[.int .u64 (setM (takes l N) : Int), .int .i64 (i : Int)] w' (fun e w'' => e = .returned (.bool true) ∧ w' = w'')) := fun w' i hi => by
    have := has_any (setM (takes l N)) (i : Int) w' hS64
    have e : hasB (setM (takes l N)) (i : Int) = true := by
      have h64 := hlt64 i hi
      rw [hasB, Int.toNat_natCast, setM_bit _ _ hids]
      simp [hi]
      omega
    rw [e] at this
    exact this
  have e1 := bits_andNot (whereN freeQ l) (setM (takes l N))
  have e2 := bits_andNot (setM (takes l N)) (whereN freeQ l)
  rw [hrest] at e1
  rw [hsub] at e2
  obtain ⟨R, hR⟩ : ∃ R, R = setM ((sel freeQ l l.length).drop N) := ⟨_, rfl⟩
  obtain ⟨S, hS⟩ : ∃ S, S = setM (takes l N) := ⟨_, rfl⟩
  obtain ⟨F, hF⟩ : ∃ F, F = whereN freeQ l := ⟨_, rfl⟩
  rw [← hR] at e1 hfm hlow hR64
  rw [← hS] at e1 e2 HDo HCo HHas hlow
  rw [← hF] at e1 e2 HFr
  simp only [Int.natCast_zero] at e2
  have HLow := Lib.hid hlow
  have HFm := Lib.hid hfm
  have HR64 := Lib.hid hR64
  have hN48 := g.few
  obtain ⟨x0, x1, x2, x3⟩ := blk4 kV
  clear h he hgr hT hTl hTk hids hlt64 hS64 hmS hup hslt hFs hrest hsub hfm hR64 hlow hR hS hF hF64 hTN g
  go_enter Try.func10, Try.ntmps10
  go_wp2_with fail
  rw [← hV]
  clear hV
  refine HF.out.mono ?_
  rintro e w1 ⟨rfl, rfl⟩
  go_wp2_with fail
  refine HDo.out.mono ?_
  rintro e w1 ⟨A1, c1, B1, d1, rfl, o1, p1, b1⟩
  have b01 := below_step bV b1
  have k1 := kV.below b1 kV.lt
  have HO1 := Lib.hid (o1.lst layN)
  have HM1 := Lib.hid (SOwn.max o1)
  have HP1 := Lib.hid (p1.lst layT)
  clear o1 p1 x0 x1 x2 x3
  go_wp2_with fail
  refine (HFr.out w1 b01).mono ?_
  rintro e w2 ⟨rfl, b2⟩
  have b02 := below_step b01 b2
  have k2 := k1.below b2 k1.lt
  have HSw : Hid (∀ w', Below w2.heap.size w2 w' → w'.cell? ⟨W.heap.size, 0, none⟩ = some (.int .i64 (N : Int))) := fun w' b => (blk4 (k2.below b k2.lt)).1
  have HFr2 : Hid (∀ w', Below w2.heap.size w2 w' → Calls Try.prog 21 #[.slice A1 m.length c1] w' (Ret (.int .u64 (R : Int)) w')) := fun w' b => by
    have := free_any A1 m.length c1 m w' ((HO1.out.below b2).below b) HM1.out
    rw [HFm.out] at this
    exact this
  have b0 := Below.refl w2.heap.size w2
  have x0 := HSw.out _ b0
  go_wp2_with fail
  go_cut [99] (fun X wx => X = .bool false ∧ Below w2.heap.size w2 wx)
  case first =>
    clear x0
    by_cases hR0 : R = 0
    · have t1 : ((R : Int) != 0) = false := by simp [hR0]
      have t2 : (R == 0) = true := by simp [hR0]
      refine wp_region_cls (fun w' => Below w2.heap.size w2 w') (by kernel_rfl) (by kernel_rfl) b0.drew ?_
      repeat (first
        | (refine cq_skip ?_ ?_
           · rfl
           simp only [Act.put, List.setIfInBounds_toArray, List.set_cons_succ, List.set_cons_zero])
        | (refine cq_ex ?_ ?_
           · rfl
           apply Exists.intro
           refine ⟨fun w' hw' => ?_, ?_⟩
           · obtain c0 := HSw.out w' hw'
             simp [go_sem, c0, t1, t2, hR0, e2, HTN.out]
             try rfl
           simp only [Act.put, List.setIfInBounds_toArray, List.set_cons_succ, List.set_cons_zero])
        | (refine cq_call 43 #[.int .u64 (S : Int)] (.int .i64 (N : Int)) ?_ (fun w' => ?_) (fun w' hw' => (HCo.out w').mono fun e w'' ⟨he, hb⟩ => ⟨he, hb ▸ hw'⟩) ?_
           · rfl
           · simp [go_sem]
           simp only [Act.put, List.setIfInBounds_toArray, List.set_cons_succ, List.set_cons_zero])
        | (refine cq_call 21 #[.slice A1 m.length c1] (.int .u64 (R : Int)) ?_ (fun w' => ?_) (fun w' hw' => (HFr2.out w' hw').mono fun e w'' ⟨he, hb⟩ => ⟨he, below_step hw' hb⟩) ?_
           · rfl
           · simp [go_sem]
           simp only [Act.put, List.setIfInBounds_toArray, List.set_cons_succ, List.set_cons_zero]))
      refine cq_nil ?_
      intro w' b4
      go_wp2_with fail
      go_meet
      exact ⟨rfl, b4⟩
    · obtain ⟨P, hP, hPS⟩ := HLow.out hR0
      have t3 := wrap_neg R (by omega) HR64.out
      have t4 := bits_and R (2 ^ 64 - R) HR64.out (by omega)
      rw [hP] at t4
      obtain ⟨Q, hQ⟩ : ∃ Q, Q = 2 ^ 64 - R := ⟨_, rfl⟩
      rw [← hQ] at t3 t4
      have t5 : decide (P < S) = false := by simp; omega
      have t1 : ((R : Int) != 0) = true := by rw [bne_iff_ne]; omega
      have t2 : (R == 0) = false := by simpa using hR0
      have t6 : S ≤ P := by omega
      clear hP hQ hPS
      refine wp_region_cls (fun w' => Below w2.heap.size w2 w') (by kernel_rfl) (by kernel_rfl) b0.drew ?_
      repeat (first
        | (refine cq_skip ?_ ?_
           · rfl
           simp only [Act.put, List.setIfInBounds_toArray, List.set_cons_succ, List.set_cons_zero])
        | (refine cq_ex ?_ ?_
           · rfl
           apply Exists.intro
           refine ⟨fun w' hw' => ?_, ?_⟩
           · obtain c0 := HSw.out w' hw'
             simp [go_sem, c0, t1, t2, hR0, e2, HTN.out, t3, t4, t5, t6]
             try rfl
           simp only [Act.put, List.setIfInBounds_toArray, List.set_cons_succ, List.set_cons_zero])
        | (refine cq_call 43 #[.int .u64 (S : Int)] (.int .i64 (N : Int)) ?_ (fun w' => ?_) (fun w' hw' => (HCo.out w').mono fun e w'' ⟨he, hb⟩ => ⟨he, hb ▸ hw'⟩) ?_
           · rfl
           · simp [go_sem]
           simp only [Act.put, List.setIfInBounds_toArray, List.set_cons_succ, List.set_cons_zero])
        | (refine cq_call 21 #[.slice A1 m.length c1] (.int .u64 (R : Int)) ?_ (fun w' => ?_) (fun w' hw' => (HFr2.out w' hw').mono fun e w'' ⟨he, hb⟩ => ⟨he, below_step hw' hb⟩) ?_
           · rfl
           · simp [go_sem]
           simp only [Act.put, List.setIfInBounds_toArray, List.set_cons_succ, List.set_cons_zero]))
      refine cq_nil ?_
      intro w' b4
      go_wp2_with fail
      go_meet
      exact ⟨rfl, b4⟩
  case rest =>
    obtain ⟨rfl, b4⟩ := hcut
    have HP5 := Lib.hid ((HP1.out.below b2).below b4)
    have b05 := below_step b02 b4
    have k5 := k2.below b4 k2.lt
    clear x0
    go_wp2_with fail
    go_loopw [11] (fun Y wr => ALRel wc T.length Y wr) (fun Y _ => T.length - (intOf Y).toNat)
    case atStart => exact ⟨0, by omega, rfl, Below.refl _ _⟩
    case round =>
      obtain ⟨k, hk, rfl, hbel⟩ := hrel
      have hT48 : T.length ≤ 48 := by rw [HTN.out]; exact hN48
      have b0 := Below.refl wr.heap.size wr
      have b0r := below_step b05 hbel
      by_cases hlt : k < T.length
      · obtain ⟨b, off, t, rfl, hb, ht, q0, q1, q2, q3⟩ := Lst.note (HP5.out.below hbel) hlt
        obtain ⟨x, i, hx, hi, hxj, hxn⟩ := HTk.out k hlt
        rw [hx] at ht
        injection ht with ht
        subst ht
        rw [hxj] at q2
        rw [hxn] at q1
        have kr := k5.below hbel k5.lt
        have hki : (k : Int) < (T.length : Int) := by omega
        have HHi := Lib.hid fun w' => HHas.out w' i (mem_of_at hi)
        go_wp2_with fail
        go_cut [141] (fun X wx => X = .bool false ∧ Below wr.heap.size wr wx)
        case first =>
          by_cases hk0 : k = 0
          · have hk1 : decide (0 < k) = false := by simp [hk0]
            have hk2 : ¬ 0 < k := by omega
            have HSw : Hid (∀ w', Below wr.heap.size wr w' → (w'.cell? ⟨b, off + k * 4 + 1, none⟩ = some (.int .i64 (i : Int)) ∧ w'.cell? ⟨b, off + k * 4 + 2, none⟩ = some (.int .i64 jb)) ∧ w'.cell? ⟨W.heap.size, 2, none⟩ = some (.int .i64 jb)) := fun w' hb' => ⟨⟨(hb'.cell (p := ⟨b, off + k * 4 + 1, none⟩) hb).trans q1, (hb'.cell (p := ⟨b, off + k * 4 + 2, none⟩) hb).trans q2⟩, (blk4 (kr.below hb' kr.lt)).2.2.1⟩
            clear hk0 hx hi q0 q1 q2 q3 kr
            refine wp_region_cls (fun w' => Below wr.heap.size wr w') (by kernel_rfl) (by kernel_rfl) b0.drew ?_
            repeat (first
              | (refine cq_skip ?_ ?_
                 · rfl
                 simp only [Act.put, List.setIfInBounds_toArray, List.set_cons_succ, List.set_cons_zero])
              | (refine cq_ex ?_ ?_
                 · rfl
                 apply Exists.intro
                 refine ⟨fun w' hw' => ?_, ?_⟩
                 · obtain ⟨⟨c0, c1⟩, c2⟩ := HSw.out w' hw'
                   simp [go_sem, c0, c1, c2, hk1, hk2, hki, hlt]
                   try rfl
                 simp only [Act.put, List.setIfInBounds_toArray, List.set_cons_succ, List.set_cons_zero])
              | (refine cq_call 44 #[.int .u64 (S : Int), .int .i64 (i : Int)] (.bool true) ?_ (fun w' => ?_) (fun w' hw' => (HHi.out w').mono fun e w'' ⟨he, hb⟩ => ⟨he, hb ▸ hw'⟩) ?_
                 · rfl
                 · simp [go_sem]
                 simp only [Act.put, List.setIfInBounds_toArray, List.set_cons_succ, List.set_cons_zero]))
            refine cq_nil ?_
            intro w' b6
            go_wp2_with fail
            go_meet
            exact ⟨rfl, b6⟩
          · have hk1 : decide (0 < k) = true := by simp; omega
            have hk2 : 0 < k := by omega
            obtain ⟨b', off', s', e', _, hs', f0, f1, f2, f3⟩ := Lst.note (HP5.out.below hbel) (show k - 1 < T.length by omega)
            injection e' with e'
            injection e' with e3 e4
            subst e3 e4
            obtain ⟨y, j, hy, hj, hyj, hyn⟩ := HTk.out (k - 1) (by omega)
            rw [hy] at hs'
            injection hs' with hs'
            subst hs'
            rw [hyn] at f1
            have hup : j < i := by
              obtain ⟨g1, g2⟩ := List.getElem?_eq_some_iff.1 hj
              obtain ⟨g3, g4⟩ := List.getElem?_eq_some_iff.1 hi
              have := List.pairwise_iff_getElem.1 HIds.out (k - 1) k g1 g3 (by omega)
              rw [g2, g4] at this
              exact this
            have t2 : decide (i ≤ j) = false := by simp; omega
            have t2' : ¬ i ≤ j := by omega
            have hw1 : IntKind.i64.wrap ((k : Int) - 1) = (k : Int) - 1 := IntWalk.i64_in _ (by omega)
            have hw2 : (0 : Int) ≤ (k : Int) - 1 := by omega
            have hw3 : (1 : Int) ≤ (k : Int) := by omega
            have hw4 : ((k : Int) - 1).toNat = k - 1 := by omega
            have hw5 : (k : Int) - 1 < (T.length : Int) := by omega
            have HSw : Hid (∀ w', Below wr.heap.size wr w' → (w'.cell? ⟨b, off + k * 4 + 1, none⟩ = some (.int .i64 (i : Int)) ∧ w'.cell? ⟨b, off + k * 4 + 2, none⟩ = some (.int .i64 jb) ∧ w'.cell? ⟨b, off + (k - 1) * 4 + 1, none⟩ = some (.int .i64 (j : Int))) ∧ w'.cell? ⟨W.heap.size, 2, none⟩ = some (.int .i64 jb)) := fun w' hb' => ⟨⟨(hb'.cell (p := ⟨b, off + k * 4 + 1, none⟩) hb).trans q1, (hb'.cell (p := ⟨b, off + k * 4 + 2, none⟩) hb).trans q2, (hb'.cell (p := ⟨b, off + (k - 1) * 4 + 1, none⟩) hb).trans f1⟩, (blk4 (kr.below hb' kr.lt)).2.2.1⟩
            clear hk0 hx hi hy hj q0 q1 q2 q3 f0 f1 f2 f3 kr hup
            refine wp_region_cls (fun w' => Below wr.heap.size wr w') (by kernel_rfl) (by kernel_rfl) b0.drew ?_
            repeat (first
              | (refine cq_skip ?_ ?_
                 · rfl
                 simp only [Act.put, List.setIfInBounds_toArray, List.set_cons_succ, List.set_cons_zero])
              | (refine cq_ex ?_ ?_
                 · rfl
                 apply Exists.intro
                 refine ⟨fun w' hw' => ?_, ?_⟩
                 · obtain ⟨⟨c0, c1, c3⟩, c2⟩ := HSw.out w' hw'
                   simp [go_sem, c0, c1, c2, c3, t2, t2', hk1, hk2, hki, hlt, hw1, hw2, hw3, hw4, hw5]
                   try rfl
                 simp only [Act.put, List.setIfInBounds_toArray, List.set_cons_succ, List.set_cons_zero])
              | (refine cq_call 44 #[.int .u64 (S : Int), .int .i64 (i : Int)] (.bool true) ?_ (fun w' => ?_) (fun w' hw' => (HHi.out w').mono fun e w'' ⟨he, hb⟩ => ⟨he, hb ▸ hw'⟩) ?_
                 · rfl
                 · simp [go_sem]
                 simp only [Act.put, List.setIfInBounds_toArray, List.set_cons_succ, List.set_cons_zero]))
            refine cq_nil ?_
            intro w' b6
            go_wp2_with fail
            go_meet
            exact ⟨rfl, b6⟩
        case rest =>
          obtain ⟨rfl, b6⟩ := hcut
          clear hx hi q0 q1 q2 q3 kr
          go_wp2_with fail
          exact ⟨⟨k + 1, by omega, by go_num, below_step hbel b6⟩, by simp [intOf]; omega⟩
      · obtain rfl : k = T.length := by omega
        have HCk := Lib.hid (check_any A1 m.length c1 m wr (((HO1.out.below b2).below b4).below hbel) HM1.out)
        rw [chkE_yes HCm.out] at HCk
        go_wp2_with fail
        refine HCk.out.mono ?_
        rintro e w6 ⟨rfl, b6⟩
        go_wp2_with fail
        refine (HAw.out w6).mono ?_
        rintro e w7 ⟨rfl, b7⟩
        go_wp2_with fail
        go_ret
        exact ⟨rfl, below_step (below_step b0r b6) b7⟩
end Go.Proofs.Ytdamocjbkdknaaa.FleetW
