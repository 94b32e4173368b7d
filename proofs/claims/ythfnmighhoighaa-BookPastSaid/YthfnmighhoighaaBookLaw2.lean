/-
  BookPast: the law's walk.
-/
import Derived.Test.YthfnmighhoighaaBookLaw
import Derived.Test.YthfnmighhoighaaQuiet
namespace Go.Proofs.Ythfnmighhoighaa.BookW
open Go.RowKit Mem Prof Book ProfW
set_option linter.unusedVariables false
set_option linter.unusedSimpArgs false

def PastRel (w5 : World) (m : List Bk) (Y : Value) (wr : World) : Prop := ∃ k : Nat, k ≤ m.length ∧ Y = .int .i64 k ∧ Below w5.heap.size w5 wr
theorem blk2 {w : World} {g : Nat} {t : TypeId} {v0 v1 : Value} (h : Blk w g t #[v0, v1]) : w.cell? ⟨g, 0, none⟩ = some v0 ∧ w.cell? ⟨g, 1, none⟩ = some v1 := ⟨h.cell 0, h.cell 1⟩
theorem past_sum {p : List Stp} {l : List Bk} {n0 n1 : Int} (h0 : 0 ≤ n0) (h1 : n0 ≤ n1) (h2 : n1 ≤ 1000000) (e1 : (takeT p l).2 = 0) (e2 : (takeT p (pastT l n0)).2 = 0) (hc : Book.chk l = true) : atT (takeT p l).1 n1 = atT (takeT p (pastT l n0)).1 n1 := by
  rw [takeT_at (by omega) h2 e1, takeT_at (by omega) h2 e2]
  have : sumAt (pastT l n0) n1 = sumAt l n1 := by
    rw [pastT, if_neg (by simp [hc])]
    exact sumAt_past n0 n1 h1 l
  rw [this]
theorem takeT_ok {p : List Stp} {l : List Bk} (h0 : (takeT p l).2 = 0) : Book.chk l = true := by
  rw [takeT] at h0
  split at h0
  · cases h0
  · split at h0
    · cases h0
    · rename_i q; simpa using q
set_option maxHeartbeats 2000000 in
set_option maxRecDepth 100000 in
theorem bpast_any (A : Option Addr) (m c : Nat) (p : List Stp) (B : Option Addr) (n d : Nat) (l : List Bk) (u : Stp) (W : World) (h : ArgS W A m c p) (g : ArgB W B n d l) :
    Calls Try.prog 10 #[.slice A m c, .slice B n d, .agg #[.int .i64 u.1, .int .i64 u.2]] W (TrueB W) := by
  have hl := h.st.len
  have hk := g.st.len
  subst hl hk
  have HAw := Lib.hid bawake_any
  obtain ⟨V, hV⟩ : ∃ V, V = W.alloc (.cells #[.int .i64 u.1, .int .i64 u.2] 66) := ⟨_, rfl⟩
  have bV : Below W.heap.size W V := by rw [hV]; exact (Below.refl _ _).alloc (Nat.le_refl _) _
  have kV : Blk V W.heap.size 66 #[.int .i64 u.1, .int .i64 u.2] := by rw [hV]; exact Blk.new _ _ _
  by_cases h1 : p.length ≤ 200
  case neg =>
    have HF : Hid (∀ w, Calls Try.prog 39 #[.slice A p.length c] w fun e w' => e = .returned (.bool false) ∧ w = w') := fun w => few_is false A p.length c w (by simp; omega)
    go_enter Try.func10, Try.ntmps10
    go_wp2_with fail
    rw [← hV]
    clear hV
    refine (HF.out V).mono ?_
    rintro e w1 ⟨rfl, rfl⟩
    go_wp2_with fail
    refine (HAw.out V).mono ?_
    rintro e w1 ⟨rfl, b1⟩
    go_wp2_with fail
    go_ret
    exact ⟨rfl, below_step bV b1⟩
  have HF : Hid (∀ w, Calls Try.prog 39 #[.slice A p.length c] w fun e w' => e = .returned (.bool true) ∧ w = w') := fun w => few_is true A p.length c w (by simp; omega)
  by_cases h2 : l.length ≤ 100
  case neg =>
    have HF2 : Hid (∀ w, Calls Try.prog 28 #[.slice B l.length d] w fun e w' => e = .returned (.bool false) ∧ w = w') := fun w => bfew_is false B l.length d w (by simp; omega)
    go_enter Try.func10, Try.ntmps10
    go_wp2_with fail
    rw [← hV]
    clear hV
    refine (HF.out V).mono ?_
    rintro e w1 ⟨rfl, rfl⟩
    go_wp2_with fail
    refine (HF2.out V).mono ?_
    rintro e w1 ⟨rfl, rfl⟩
    go_wp2_with fail
    refine (HAw.out V).mono ?_
    rintro e w1 ⟨rfl, b1⟩
    go_wp2_with fail
    go_ret
    exact ⟨rfl, below_step bV b1⟩
  have HF2 : Hid (∀ w, Calls Try.prog 28 #[.slice B l.length d] w fun e w' => e = .returned (.bool true) ∧ w = w') := fun w => bfew_is true B l.length d w (by simp; omega)
  obtain ⟨x0, x1⟩ := blk2 kV
  by_cases h3 : u.1 < 0
  · clear h g
    go_enter Try.func10, Try.ntmps10
    go_wp2_with fail
    rw [← hV]
    clear hV
    refine (HF.out V).mono ?_
    rintro e w1 ⟨rfl, rfl⟩
    go_wp2_with fail
    refine (HF2.out V).mono ?_
    rintro e w1 ⟨rfl, rfl⟩
    go_wp2_with fail
    refine (HAw.out V).mono ?_
    rintro e w1 ⟨rfl, b1⟩
    go_wp2_with fail
    go_ret
    exact ⟨rfl, below_step bV b1⟩
  have h3' : 0 ≤ u.1 := by omega
  by_cases h4 : u.2 < u.1
  · clear h g h3
    go_enter Try.func10, Try.ntmps10
    go_wp2_with fail
    rw [← hV]
    clear hV
    refine (HF.out V).mono ?_
    rintro e w1 ⟨rfl, rfl⟩
    go_wp2_with fail
    refine (HF2.out V).mono ?_
    rintro e w1 ⟨rfl, rfl⟩
    go_wp2_with fail
    refine (HAw.out V).mono ?_
    rintro e w1 ⟨rfl, b1⟩
    go_wp2_with fail
    go_ret
    exact ⟨rfl, below_step bV b1⟩
  have h4' : u.1 ≤ u.2 := by omega
  by_cases h5 : 1000000 < u.2
  · clear h g h3 h4
    go_enter Try.func10, Try.ntmps10
    go_wp2_with fail
    rw [← hV]
    clear hV
    refine (HF.out V).mono ?_
    rintro e w1 ⟨rfl, rfl⟩
    go_wp2_with fail
    refine (HF2.out V).mono ?_
    rintro e w1 ⟨rfl, rfl⟩
    go_wp2_with fail
    refine (HAw.out V).mono ?_
    rintro e w1 ⟨rfl, b1⟩
    go_wp2_with fail
    go_ret
    exact ⟨rfl, below_step bV b1⟩
  have h5' : u.2 ≤ 1000000 := by omega
  clear h3 h4 h5
  have HPa := Lib.hid (past_any B l.length d l u.1 V (g.st.below bV) g.max g.bare)
  have HH := Lib.hid h
  have HG := Lib.hid g
  have HPok := Lib.hid (pastT_ok (l := l) (now := u.1))
  have HPto := Lib.hid (pastT_to (l := l) (now := u.1))
  have HSum : Hid ((takeT p l).2 = 0 → (takeT p (pastT l u.1)).2 = 0 → atT (takeT p l).1 u.2 = atT (takeT p (pastT l u.1)).1 u.2) := fun e1 e2 => past_sum h3' h4' h5' e1 e2 (takeT_ok e1)
  have hm8 := HPok.out.few
  obtain ⟨M, hM⟩ : ∃ M, M = pastT l u.1 := ⟨_, rfl⟩
  rw [← hM] at HPa HPok HPto HSum hm8
  clear hM h g
  obtain ⟨r1, hr1⟩ : ∃ r, r = takeT p l := ⟨_, rfl⟩
  obtain ⟨r2, hr2⟩ : ∃ r, r = takeT p M := ⟨_, rfl⟩
  go_enter Try.func10, Try.ntmps10
  go_wp2_with fail
  rw [← hV]
  clear hV
  refine (HF.out V).mono ?_
  rintro e w1 ⟨rfl, rfl⟩
  go_wp2_with fail
  refine (HF2.out V).mono ?_
  rintro e w1 ⟨rfl, rfl⟩
  go_wp2_with fail
  refine HPa.out.mono ?_
  rintro e w1 ⟨A1, c1, rfl, o1, b1⟩
  have b01 := below_step bV b1
  have HTk := Lib.hid (take_any A p.length c p B l.length d l w1 (HH.out.st.below b01) HH.out.max HH.out.bare (HG.out.st.below b01) HG.out.max)
  rw [← hr1] at HTk HSum
  clear hr1
  have HO1 := Lib.hid o1
  clear o1
  go_wp2_with fail
  refine HTk.out.mono ?_
  rintro e w2 ⟨A2, c2, rfl, o2, b2⟩
  have b02 := below_step b01 b2
  have hO1 := HO1.out.below b2
  have HTk2 := Lib.hid (take_any A p.length c p A1 M.length c1 M w2 (HH.out.st.below b02) HH.out.max HH.out.bare (hO1.lst layB) (SOwn.max hO1))
  rw [← hr2] at HTk2 HSum
  clear hr2
  have HO2 := Lib.hid o2
  clear o2 hO1
  go_wp2_with fail
  refine HTk2.out.mono ?_
  rintro e w3 ⟨A3, c3, rfl, o3, b3⟩
  have b03 := below_step b02 b3
  have bV3 := below_step b1 (below_step b2 b3)
  have HM3 := Lib.hid (((HO1.out.below b2).below b3).lst layB)
  have HMx := Lib.hid (SOwn.max HO1.out)
  have HS2 := Lib.hid ((HO2.out.below b3).lst layS)
  have HX2 := Lib.hid (SOwn.max HO2.out)
  have HS3 := Lib.hid (o3.lst layS)
  have HX3 := Lib.hid (SOwn.max o3)
  have k3 := kV.below bV3 kV.lt
  clear o3 HO1 HO2 kV x0 x1
  by_cases e1 : r1.2 = 0
  case neg =>
    have q1 : (r1.2 != 0) = true := by simpa using e1
    clear e1
    go_wp2_with fail
    refine (HAw.out w3).mono ?_
    rintro e w4 ⟨rfl, b4⟩
    go_wp2_with fail
    go_ret
    exact ⟨rfl, below_step b03 b4⟩
  have q1 : (r1.2 != 0) = false := by simp [e1]
  by_cases e2 : r2.2 = 0
  case neg =>
    have q2 : (r2.2 != 0) = true := by simpa using e2
    clear e1 e2
    go_wp2_with fail
    refine (HAw.out w3).mono ?_
    rintro e w4 ⟨rfl, b4⟩
    go_wp2_with fail
    go_ret
    exact ⟨rfl, below_step b03 b4⟩
  have q2 : (r2.2 != 0) = false := by simp [e2]
  have HE := Lib.hid (HSum.out e1 e2)
  clear e1 e2 HSum
  go_wp2_with fail
  go_loopw [12] (fun Y wr => PastRel w3 M Y wr) (fun Y _ => M.length - (intOf Y).toNat)
  case atStart => exact ⟨0, by omega, rfl, Below.refl _ _⟩
  case round =>
    obtain ⟨k, hk, rfl, hbel⟩ := hrel
    have b0 := Below.refl wr.heap.size wr
    by_cases hlt : k < M.length
    · obtain ⟨b, off, s, rfl, hb, hs, d0, d1, d2, d3⟩ := Lst.four (HM3.out.below hbel) hlt
      have hto := HPto.out s (mem_of_at hs)
      have t1 : decide (s.to ≤ u.1) = false := by simp; omega
      have t1' : ¬ s.to ≤ u.1 := by omega
      have kr := k3.below hbel k3.lt
      have hsz := k3.lt
      have hi : (k : Int) < (M.length : Int) := by omega
      go_wp2_with fail
      go_cut [93] (fun X wx => X = .bool false ∧ Below wr.heap.size wr wx)
      case first =>
        by_cases hk0 : k = 0
        · have hk1 : decide (0 < k) = false := by simp [hk0]
          have hk2 : ¬ 0 < k := by omega
          have HSw : Hid (∀ w', Below wr.heap.size wr w' → w'.cell? ⟨b, off + k * 4 + 2, none⟩ = some (.int .i64 s.to) ∧ (w'.cell? ⟨W.heap.size, 0, none⟩ = some (.int .i64 u.1) ∧ w'.cell? ⟨W.heap.size, 1, none⟩ = some (.int .i64 u.2))) := fun w' hb' => ⟨(hb'.cell (p := ⟨b, off + k * 4 + 2, none⟩) hb).trans d2, blk2 (kr.below hb' kr.lt)⟩
          clear hk0 hs hto d0 d1 d2 d3 kr
          refine wp_region_cls (fun w' => Below wr.heap.size wr w') (by kernel_rfl) (by kernel_rfl) b0.drew ?_
          repeat (first
            | (refine cq_skip ?_ ?_
               · rfl
               simp only [Act.put, List.setIfInBounds_toArray, List.set_cons_succ, List.set_cons_zero])
            | (refine cq_ex ?_ ?_
               · rfl
               apply Exists.intro
               refine ⟨fun w' hw' => ?_, ?_⟩
               · obtain ⟨c0, c1, c2⟩ := HSw.out w' hw'
                 simp [go_sem, c0, c1, c2, t1, t1', hk1, hk2, hi]
                 try rfl
               simp only [Act.put, List.setIfInBounds_toArray, List.set_cons_succ, List.set_cons_zero]))
          refine cq_nil ?_
          intro w' b4
          go_wp2_with fail
          go_meet
          exact ⟨rfl, b4⟩
        · have hk1 : decide (0 < k) = true := by simp; omega
          have hk2 : 0 < k := by omega
          obtain ⟨b', off', s', e', _, hs', f0, f1, f2, f3⟩ := Lst.four (HM3.out.below hbel) (show k - 1 < M.length by omega)
          injection e' with e'
          injection e' with e1 e2
          subst e1 e2
          have hup : s'.id < s.id := by
            obtain ⟨g1, g2⟩ := List.getElem?_eq_some_iff.1 hs'
            obtain ⟨g3, g4⟩ := List.getElem?_eq_some_iff.1 hs
            have := List.pairwise_iff_getElem.1 HPok.out.up (k - 1) k g1 g3 (by omega)
            rw [g2, g4] at this
            exact this
          have t2 : decide (s.id ≤ s'.id) = false := by simp; omega
          have t2' : ¬ s.id ≤ s'.id := by omega
          have hw1 : IntKind.i64.wrap ((k : Int) - 1) = (k : Int) - 1 := IntWalk.i64_in _ (by omega)
          have hw2 : (0 : Int) ≤ (k : Int) - 1 := by omega
          have hw3 : (1 : Int) ≤ (k : Int) := by omega
          have hw4 : ((k : Int) - 1).toNat = k - 1 := by omega
          have hw5 : (k : Int) - 1 < (M.length : Int) := by omega
          have HSw : Hid (∀ w', Below wr.heap.size wr w' → (w'.cell? ⟨b, off + k * 4 + 2, none⟩ = some (.int .i64 s.to) ∧ w'.cell? ⟨b, off + k * 4, none⟩ = some (.int .i64 s.id) ∧ w'.cell? ⟨b, off + (k - 1) * 4, none⟩ = some (.int .i64 s'.id)) ∧ (w'.cell? ⟨W.heap.size, 0, none⟩ = some (.int .i64 u.1) ∧ w'.cell? ⟨W.heap.size, 1, none⟩ = some (.int .i64 u.2))) := fun w' hb' => ⟨⟨(hb'.cell (p := ⟨b, off + k * 4 + 2, none⟩) hb).trans d2, (hb'.cell (p := ⟨b, off + k * 4, none⟩) hb).trans d0, (hb'.cell (p := ⟨b, off + (k - 1) * 4, none⟩) hb).trans f0⟩, blk2 (kr.below hb' kr.lt)⟩
          clear hk0 hs hs' hto hup d0 d1 d2 d3 f0 f1 f2 f3 kr
          refine wp_region_cls (fun w' => Below wr.heap.size wr w') (by kernel_rfl) (by kernel_rfl) b0.drew ?_
          repeat (first
            | (refine cq_skip ?_ ?_
               · rfl
               simp only [Act.put, List.setIfInBounds_toArray, List.set_cons_succ, List.set_cons_zero])
            | (refine cq_ex ?_ ?_
               · rfl
               apply Exists.intro
               refine ⟨fun w' hw' => ?_, ?_⟩
               · obtain ⟨⟨c0, c3, c4⟩, c1, c2⟩ := HSw.out w' hw'
                 simp [go_sem, c0, c1, c2, c3, c4, t1, t1', t2, t2', hk1, hk2, hi, hw1, hw2, hw3, hw4, hw5]
                 try rfl
               simp only [Act.put, List.setIfInBounds_toArray, List.set_cons_succ, List.set_cons_zero]))
          refine cq_nil ?_
          intro w' b4
          go_wp2_with fail
          go_meet
          exact ⟨rfl, b4⟩
      case rest =>
        obtain ⟨rfl, b4⟩ := hcut
        clear hs hto d0 d1 d2 d3 kr
        go_wp2_with fail
        exact ⟨⟨k + 1, by omega, by go_num, below_step hbel b4⟩, by simp [intOf]; omega⟩
    · have HA1 : Hid (∀ w', Below wr.heap.size wr w' → Calls Try.prog 44 #[.slice A2 r1.1.length c2, .int .i64 u.2] w' (Ret (.int .i64 (atT r1.1 u.2)) w')) := fun w' hb' => at_any A2 r1.1.length c2 r1.1 u.2 w' ((HS2.out.below hbel).below hb') HX2.out
      have HA2 : Hid (∀ w', Below wr.heap.size wr w' → Calls Try.prog 44 #[.slice A3 r2.1.length c3, .int .i64 u.2] w' (Ret (.int .i64 (atT r1.1 u.2)) w')) := by
        show ∀ w', _
        intro w' hb'
        rw [HE.out]
        exact at_any A3 r2.1.length c3 r2.1 u.2 w' ((HS3.out.below hbel).below hb') HX3.out
      have HCk : Hid (∀ w', Below wr.heap.size wr w' → Calls Try.prog 37 #[.slice A1 M.length c1] w' (Ret (.int .i64 0) w')) := fun w' hb' => bcheck_is 0 A1 M.length c1 M w' ((HM3.out.below hbel).below hb') HMx.out (Book.chkE_yes (of_chk HPok.out))
      have kr := k3.below hbel k3.lt
      have HSw : Hid (∀ w', Below wr.heap.size wr w' → (w'.cell? ⟨W.heap.size, 0, none⟩ = some (.int .i64 u.1) ∧ w'.cell? ⟨W.heap.size, 1, none⟩ = some (.int .i64 u.2))) := fun w' hb' => blk2 (kr.below hb' kr.lt)
      go_wp2_with fail
      refine wp_region_cls (fun w' => Below wr.heap.size wr w') (by kernel_rfl) (by kernel_rfl) b0.drew ?_
      repeat (first
        | (refine cq_skip ?_ ?_
           · rfl
           simp only [Act.put, List.setIfInBounds_toArray, List.set_cons_succ, List.set_cons_zero])
        | (refine cq_ex ?_ ?_
           · rfl
           apply Exists.intro
           refine ⟨fun w' hw' => ?_, ?_⟩
           · obtain ⟨c0, c1⟩ := HSw.out w' hw'
             simp [go_sem, c0, c1]
             try rfl
           simp only [Act.put, List.setIfInBounds_toArray, List.set_cons_succ, List.set_cons_zero])
        | (refine cq_call 44 #[.slice A2 r1.1.length c2, .int .i64 u.2] (.int .i64 (atT r1.1 u.2)) ?_ (fun w' => ?_) (fun w' hw' => (HA1.out w' hw').mono fun e w'' ⟨he, hb⟩ => ⟨he, below_step hw' hb⟩) ?_
           · rfl
           · simp [go_sem]
           simp only [Act.put, List.setIfInBounds_toArray, List.set_cons_succ, List.set_cons_zero])
        | (refine cq_call 44 #[.slice A3 r2.1.length c3, .int .i64 u.2] (.int .i64 (atT r1.1 u.2)) ?_ (fun w' => ?_) (fun w' hw' => (HA2.out w' hw').mono fun e w'' ⟨he, hb⟩ => ⟨he, below_step hw' hb⟩) ?_
           · rfl
           · simp [go_sem]
           simp only [Act.put, List.setIfInBounds_toArray, List.set_cons_succ, List.set_cons_zero])
        | (refine cq_call 37 #[.slice A1 M.length c1] (.int .i64 0) ?_ (fun w' => ?_) (fun w' hw' => (HCk.out w' hw').mono fun e w'' ⟨he, hb⟩ => ⟨he, below_step hw' hb⟩) ?_
           · rfl
           · simp [go_sem]
           simp only [Act.put, List.setIfInBounds_toArray, List.set_cons_succ, List.set_cons_zero])
        | (refine cq_call 29 #[] (.bool true) ?_ (fun w' => ?_) (fun w' hw' => (HAw.out w').mono fun e w'' ⟨he, hb⟩ => ⟨he, below_step hw' hb⟩) ?_
           · rfl
           · simp [go_sem]
           simp only [Act.put, List.setIfInBounds_toArray, List.set_cons_succ, List.set_cons_zero]))
      refine cq_nil ?_
      intro w' b4
      go_wp2_with fail
      go_ret
      exact ⟨rfl, below_step (below_step b03 hbel) b4⟩
end Go.Proofs.Ythfnmighhoighaa.BookW
