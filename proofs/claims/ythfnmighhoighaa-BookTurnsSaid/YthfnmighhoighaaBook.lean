/-
  Contract of muster/book's Check.
-/
import Derived.Test.YthfnmighhoighaaBookBase
import Derived.Test.YthfnmighhoighaaQuiet
namespace Go.Proofs.Ythfnmighhoighaa.BookW
open Go.RowKit Mem Prof Book ProfW
set_option linter.unusedVariables false
set_option linter.unusedSimpArgs false

theorem okB_fine {l : List Bk} {k : Nat} {b : Bk} (h : l[k]? = some b) (hf : fineB b = false) : okB l k = false := by simp [okB, h, hf]
theorem okB_prev {l : List Bk} {k : Nat} {a b : Bk} (h : l[k]? = some b) (ha : l[k - 1]? = some a) (h0 : 0 < k) (hf : b.id ≤ a.id) : okB l k = false := by
  obtain ⟨j, rfl⟩ : ∃ j, k = j + 1 := ⟨k - 1, by omega⟩
  rw [Nat.add_sub_cancel] at ha
  rw [okB_succ ha h]
  have : decide (a.id < b.id) = false := by simpa using hf
  simp [this]
theorem okB_yes {l : List Bk} {k : Nat} {b : Bk} (h : l[k]? = some b) (hf : fineB b = true) (hp : k = 0 ∨ (0 < k ∧ ∃ a, l[k - 1]? = some a ∧ a.id < b.id)) : okB l k = true := by
  rcases hp with rfl | ⟨h0, a, ha, hlt⟩
  · rw [okB_zero h]; exact hf
  · obtain ⟨j, rfl⟩ : ∃ j, k = j + 1 := ⟨k - 1, by omega⟩
    rw [Nat.add_sub_cancel] at ha
    rw [okB_succ ha h, hf]
    simpa using hlt
def BChkRel (w : World) (l : List Bk) (i : Value) (wr : World) : Prop := ∃ k : Nat, k ≤ l.length ∧ i = .int .i64 k ∧ (∀ j, j < k → okB l j = true) ∧ Below w.heap.size w wr
set_option maxHeartbeats 2000000 in
set_option maxRecDepth 100000 in
theorem bcheck_any (A : Option Addr) (n c : Nat) (l : List Bk) (w : World) (h : Bks w A n l) (hn : n ≤ maxLen) :
    Calls Try.prog 37 #[.slice A n c] w (Ret (.int .i64 (Book.chkE l)) w) := by
  unfold maxLen at hn
  have hlen := h.len
  subst hlen
  by_cases h1 : 8 < l.length
  · have HC := Lib.hid (Book.chkE_no (chk_long h1))
    clear h
    go_enter Try.func37, Try.ntmps37
    go_wp2_with fail
    go_ret
    exact ⟨ret_int HC.out.symm, Below.refl _ _⟩
  · have hle : l.length ≤ 8 := by omega
    have HH := Lib.hid h
    clear h1 h
    go_enter Try.func37, Try.ntmps37
    go_wp2_with fail
    go_loopw [10] (fun i wr => BChkRel w l i wr) (fun i _ => l.length - (intOf i).toNat)
    case atStart => exact ⟨0, by omega, rfl, by omega, Below.refl _ _⟩
    case round =>
      obtain ⟨k, hk, rfl, hall, hbel⟩ := hrel
      have HAll := Lib.hid hall
      clear hall
      by_cases hlt : k < l.length
      · obtain ⟨b, off, s, rfl, hb, hs, d0, d1, d2, d3⟩ := Lst.four (HH.out.below hbel) hlt
        have HS := Lib.hid hs
        clear hs
        go_wp2_with fail
        obtain ⟨V, hV⟩ : ∃ V, V = wr.alloc (.cells #[.int .i64 s.id, .int .i64 s.fr, .int .i64 s.to, .int .i64 s.nd] 42) := ⟨_, rfl⟩
        rw [← hV]
        have bV : Below wr.heap.size wr V := by rw [hV]; exact (Below.refl _ _).alloc (Nat.le_refl _) _
        have kV : Blk V wr.heap.size 42 #[.int .i64 s.id, .int .i64 s.fr, .int .i64 s.to, .int .i64 s.nd] := by rw [hV]; exact Blk.new _ _ _
        have bwV := below_step hbel bV
        clear hV d0 d1 d2 d3
        have HF : Hid (∀ w', Calls Try.prog 58 #[.agg #[.int .i64 s.id, .int .i64 s.fr, .int .i64 s.to, .int .i64 s.nd]] w' (Ret (.bool (fineB s)) w')) := fun w' => fine_any s w'
        have b0 := Below.refl V.heap.size V
        go_cut [32] (fun X wx => (X = .bool (!(okB l k))) ∧ Below V.heap.size V wx)
        case first =>
          by_cases hk0 : k = 0
          · have hk1 : decide (0 < k) = false := by simp [hk0]
            have hk2 : ¬ 0 < k := by omega
            have HK := Lib.hid hk0
            have HSw : Hid (∀ w', Below V.heap.size V w' → (w'.cell? ⟨wr.heap.size, 0, none⟩ = some (.int .i64 s.id) ∧ w'.cell? ⟨wr.heap.size, 1, none⟩ = some (.int .i64 s.fr) ∧ w'.cell? ⟨wr.heap.size, 2, none⟩ = some (.int .i64 s.to) ∧ w'.cell? ⟨wr.heap.size, 3, none⟩ = some (.int .i64 s.nd))) := fun w' hb' => blk4 (kV.below hb' kV.lt)
            clear hk0
            cases hf : fineB s
            · have HO := Lib.hid (okB_fine HS.out hf)
              rw [hf] at HF
              clear hf
              refine wp_region_cls (fun w' => Below V.heap.size V w') (by kernel_rfl) (by kernel_rfl) b0.drew ?_
              repeat (first
                | (refine cq_skip ?_ ?_
                   · rfl
                   simp only [Act.put, List.setIfInBounds_toArray, List.set_cons_succ, List.set_cons_zero])
                | (refine cq_ex ?_ ?_
                   · rfl
                   apply Exists.intro
                   refine ⟨fun w' hw' => ?_, ?_⟩
                   · obtain ⟨c0, c1, c2, c3⟩ := HSw.out w' hw'
                     simp [go_sem, c0, c1, c2, c3, hk1, hk2]
                     try rfl
                   simp only [Act.put, List.setIfInBounds_toArray, List.set_cons_succ, List.set_cons_zero])
                | (refine cq_call 58 #[.agg #[.int .i64 s.id, .int .i64 s.fr, .int .i64 s.to, .int .i64 s.nd]] (.bool false) ?_ (fun w' => ?_) (fun w' hw' => (HF.out w').mono fun e w'' ⟨he, hb⟩ => ⟨he, below_step hw' hb⟩) ?_
                   · rfl
                   · simp [go_sem]
                   simp only [Act.put, List.setIfInBounds_toArray, List.set_cons_succ, List.set_cons_zero]))
              refine cq_nil ?_
              intro w' b3
              all_goals go_wp2_with fail
              all_goals go_meet
              all_goals exact ⟨by rw [HO.out]; rfl, b3⟩
            · have HO := Lib.hid (okB_yes HS.out hf (.inl HK.out))
              rw [hf] at HF
              clear hf
              refine wp_region_cls (fun w' => Below V.heap.size V w') (by kernel_rfl) (by kernel_rfl) b0.drew ?_
              repeat (first
                | (refine cq_skip ?_ ?_
                   · rfl
                   simp only [Act.put, List.setIfInBounds_toArray, List.set_cons_succ, List.set_cons_zero])
                | (refine cq_ex ?_ ?_
                   · rfl
                   apply Exists.intro
                   refine ⟨fun w' hw' => ?_, ?_⟩
                   · obtain ⟨c0, c1, c2, c3⟩ := HSw.out w' hw'
                     simp [go_sem, c0, c1, c2, c3, hk1, hk2]
                     try rfl
                   simp only [Act.put, List.setIfInBounds_toArray, List.set_cons_succ, List.set_cons_zero])
                | (refine cq_call 58 #[.agg #[.int .i64 s.id, .int .i64 s.fr, .int .i64 s.to, .int .i64 s.nd]] (.bool true) ?_ (fun w' => ?_) (fun w' hw' => (HF.out w').mono fun e w'' ⟨he, hb⟩ => ⟨he, below_step hw' hb⟩) ?_
                   · rfl
                   · simp [go_sem]
                   simp only [Act.put, List.setIfInBounds_toArray, List.set_cons_succ, List.set_cons_zero]))
              refine cq_nil ?_
              intro w' b3
              all_goals go_wp2_with fail
              all_goals go_meet
              all_goals exact ⟨by rw [HO.out]; rfl, b3⟩
          · have hk1 : decide (0 < k) = true := by simp; omega
            have hk2 : 0 < k := by omega
            obtain ⟨b', off', r, e, _, hr, f0, f1, f2, f3⟩ := Lst.four (HH.out.below bwV) (show k - 1 < l.length by omega)
            injection e with e
            injection e with e1 e2
            subst e1 e2
            have HR := Lib.hid hr
            have HSw : Hid (∀ w', Below V.heap.size V w' → (w'.cell? ⟨b, off + (k - 1) * 4, none⟩ = some (.int .i64 r.id)) ∧ (w'.cell? ⟨wr.heap.size, 0, none⟩ = some (.int .i64 s.id) ∧ w'.cell? ⟨wr.heap.size, 1, none⟩ = some (.int .i64 s.fr) ∧ w'.cell? ⟨wr.heap.size, 2, none⟩ = some (.int .i64 s.to) ∧ w'.cell? ⟨wr.heap.size, 3, none⟩ = some (.int .i64 s.nd))) := fun w' hb' => ⟨(hb'.cell (p := ⟨b, off + (k - 1) * 4, none⟩) (Nat.lt_of_lt_of_le hb bV.size)).trans f0, blk4 (kV.below hb' kV.lt)⟩
            have hw1 : IntKind.i64.wrap ((k : Int) - 1) = (k : Int) - 1 := IntWalk.i64_in _ (by omega)
            have hw2 : (0 : Int) ≤ (k : Int) - 1 := by omega
            have hw3 : (1 : Int) ≤ (k : Int) := by omega
            have hw4 : ((k : Int) - 1).toNat = k - 1 := by omega
            have hw5 : (k : Int) - 1 < (l.length : Int) := by omega
            clear hk0 hr f0 f1 f2 f3
            cases hf : fineB s
            · have HO := Lib.hid (okB_fine HS.out hf)
              rw [hf] at HF
              clear hf
              refine wp_region_cls (fun w' => Below V.heap.size V w') (by kernel_rfl) (by kernel_rfl) b0.drew ?_
              repeat (first
                | (refine cq_skip ?_ ?_
                   · rfl
                   simp only [Act.put, List.setIfInBounds_toArray, List.set_cons_succ, List.set_cons_zero])
                | (refine cq_ex ?_ ?_
                   · rfl
                   apply Exists.intro
                   refine ⟨fun w' hw' => ?_, ?_⟩
                   · obtain ⟨c4, c0, c1, c2, c3⟩ := HSw.out w' hw'
                     simp [go_sem, c0, c1, c2, c3, c4, hw1, hw2, hw3, hw4, hw5, hk1, hk2]
                     try rfl
                   simp only [Act.put, List.setIfInBounds_toArray, List.set_cons_succ, List.set_cons_zero])
                | (refine cq_call 58 #[.agg #[.int .i64 s.id, .int .i64 s.fr, .int .i64 s.to, .int .i64 s.nd]] (.bool false) ?_ (fun w' => ?_) (fun w' hw' => (HF.out w').mono fun e w'' ⟨he, hb⟩ => ⟨he, below_step hw' hb⟩) ?_
                   · rfl
                   · simp [go_sem]
                   simp only [Act.put, List.setIfInBounds_toArray, List.set_cons_succ, List.set_cons_zero]))
              refine cq_nil ?_
              intro w' b3
              all_goals go_wp2_with fail
              all_goals go_meet
              all_goals exact ⟨by rw [HO.out]; rfl, b3⟩
            · rw [hf] at HF
              by_cases hu : s.id ≤ r.id
              · have hu1 : decide (s.id ≤ r.id) = true := by simpa using hu
                have HO := Lib.hid (okB_prev HS.out HR.out hk2 hu)
                clear hf
                refine wp_region_cls (fun w' => Below V.heap.size V w') (by kernel_rfl) (by kernel_rfl) b0.drew ?_
                repeat (first
                  | (refine cq_skip ?_ ?_
                     · rfl
                     simp only [Act.put, List.setIfInBounds_toArray, List.set_cons_succ, List.set_cons_zero])
                  | (refine cq_ex ?_ ?_
                     · rfl
                     apply Exists.intro
                     refine ⟨fun w' hw' => ?_, ?_⟩
                     · obtain ⟨c4, c0, c1, c2, c3⟩ := HSw.out w' hw'
                       simp [go_sem, c0, c1, c2, c3, c4, hw1, hw2, hw3, hw4, hw5, hk1, hk2, hu1]
                       try rfl
                     simp only [Act.put, List.setIfInBounds_toArray, List.set_cons_succ, List.set_cons_zero])
                  | (refine cq_call 58 #[.agg #[.int .i64 s.id, .int .i64 s.fr, .int .i64 s.to, .int .i64 s.nd]] (.bool true) ?_ (fun w' => ?_) (fun w' hw' => (HF.out w').mono fun e w'' ⟨he, hb⟩ => ⟨he, below_step hw' hb⟩) ?_
                     · rfl
                     · simp [go_sem]
                     simp only [Act.put, List.setIfInBounds_toArray, List.set_cons_succ, List.set_cons_zero]))
                refine cq_nil ?_
                intro w' b3
                all_goals go_wp2_with fail
                all_goals go_meet
                all_goals exact ⟨by rw [HO.out]; simp [hu1], b3⟩
              · have hu1 : decide (s.id ≤ r.id) = false := by simpa using hu
                have HO := Lib.hid (okB_yes HS.out hf (.inr ⟨hk2, r, HR.out, by omega⟩))
                clear hf
                refine wp_region_cls (fun w' => Below V.heap.size V w') (by kernel_rfl) (by kernel_rfl) b0.drew ?_
                repeat (first
                  | (refine cq_skip ?_ ?_
                     · rfl
                     simp only [Act.put, List.setIfInBounds_toArray, List.set_cons_succ, List.set_cons_zero])
                  | (refine cq_ex ?_ ?_
                     · rfl
                     apply Exists.intro
                     refine ⟨fun w' hw' => ?_, ?_⟩
                     · obtain ⟨c4, c0, c1, c2, c3⟩ := HSw.out w' hw'
                       simp [go_sem, c0, c1, c2, c3, c4, hw1, hw2, hw3, hw4, hw5, hk1, hk2, hu1]
                       try rfl
                     simp only [Act.put, List.setIfInBounds_toArray, List.set_cons_succ, List.set_cons_zero])
                  | (refine cq_call 58 #[.agg #[.int .i64 s.id, .int .i64 s.fr, .int .i64 s.to, .int .i64 s.nd]] (.bool true) ?_ (fun w' => ?_) (fun w' hw' => (HF.out w').mono fun e w'' ⟨he, hb⟩ => ⟨he, below_step hw' hb⟩) ?_
                     · rfl
                     · simp [go_sem]
                     simp only [Act.put, List.setIfInBounds_toArray, List.set_cons_succ, List.set_cons_zero]))
                refine cq_nil ?_
                intro w' b3
                all_goals go_wp2_with fail
                all_goals go_meet
                all_goals exact ⟨by rw [HO.out]; simp [hu1], b3⟩
        case rest =>
          obtain ⟨rfl, b3⟩ := hcut
          cases ho : okB l k
          · have HC := Lib.hid (Book.chkE_no (chk_not hlt ho))
            clear ho
            go_wp2_with fail
            go_ret
            exact ⟨ret_int HC.out.symm, below_step bwV b3⟩
          · have HG := Lib.hid (all_lt HAll.out ho)
            clear ho
            go_wp2_with fail
            exact ⟨⟨k + 1, by omega, by go_num, HG.out, below_step bwV b3⟩, by simp [intOf]; omega⟩
      · obtain rfl : k = l.length := by omega
        have HC := Lib.hid (Book.chkE_yes (chk_all hle HAll.out))
        go_wp2_with fail
        go_ret
        exact ⟨ret_int HC.out.symm, hbel⟩
end Go.Proofs.Ythfnmighhoighaa.BookW
