/-
  BookTurns: the law's walk.
-/
import Derived.Test.YthfnmighhoighaaBookLaw
import Derived.Test.YthfnmighhoighaaBookRef4
import Derived.Test.YthfnmighhoighaaProfLaw4
namespace Go.Proofs.Ythfnmighhoighaa.BookW
open Go.RowKit Mem Prof Book ProfW
set_option linter.unusedVariables false
set_option linter.unusedSimpArgs false
attribute [local go_sem ↓] Go.wp_at_zero Go.wp_at_succ

theorem rbsame_t (A B : Option Addr) (n c d : Nat) (p : List Bk) (w : World) (h : Bks w A n p) (g : Bks w B n p) (hn : n ≤ maxLen) : Calls Try.prog 34 #[.slice A n c, .slice B n d] w (Ret (.bool true) w) := by
  have := rbsame_any A B n n c d p p w h g hn hn
  have e : decide (p = p) = true := by simp
  rw [e] at this
  exact this.mono fun e w h => Drew.below h
set_option maxHeartbeats 4000000 in
set_option maxRecDepth 100000 in
theorem turns_any (A : Option Addr) (m c : Nat) (l : List Bk) (b : Bk) (I : Option Addr) (n d : Nat) (ids : List Int) (W : World) (h : ArgB W A m c l) (g : Ints W I n ids) (hg : n ≤ maxLen) :
    Calls Try.prog 7 #[.slice A m c, .agg #[.int .i64 b.id, .int .i64 b.fr, .int .i64 b.to, .int .i64 b.nd], .slice I n d] W (TrueB W) := by
  have hl := h.st.len
  have hk := g.len
  subst hl hk
  have HAw := Lib.hid bawake_any
  obtain ⟨V, hV⟩ : ∃ V, V = W.alloc (.cells #[.int .i64 b.id, .int .i64 b.fr, .int .i64 b.to, .int .i64 b.nd] 42) := ⟨_, rfl⟩
  have bV : Below W.heap.size W V := by rw [hV]; exact (Below.refl _ _).alloc (Nat.le_refl _) _
  have kV : Blk V W.heap.size 42 #[.int .i64 b.id, .int .i64 b.fr, .int .i64 b.to, .int .i64 b.nd] := by rw [hV]; exact Blk.new _ _ _
  by_cases h1 : l.length ≤ 100
  case neg =>
    have HF := Lib.hid (bfew_is false A l.length c V (by simp; omega))
    go_enter Try.func7, Try.ntmps7
    go_wp2_with fail
    rw [← hV]
    clear hV
    refine HF.out.mono ?_
    rintro e w1 ⟨rfl, rfl⟩
    go_wp2_with fail
    refine (HAw.out V).mono ?_
    rintro e w1 ⟨rfl, b1⟩
    go_wp2_with fail
    go_ret
    exact ⟨rfl, below_step bV b1⟩
  have HF := Lib.hid (bfew_is true A l.length c V (by simp; omega))
  by_cases h2 : 100 < ids.length
  · have h2' : ((100 : Int) < (ids.length : Int)) := by omega
    go_enter Try.func7, Try.ntmps7
    go_wp2_with fail
    rw [← hV]
    clear hV
    refine HF.out.mono ?_
    rintro e w1 ⟨rfl, rfl⟩
    go_wp2_with fail
    refine (HAw.out V).mono ?_
    rintro e w1 ⟨rfl, b1⟩
    go_wp2_with fail
    go_ret
    exact ⟨rfl, below_step bV b1⟩
  have h2' : ids.length ≤ 100 := by omega
  have HH := Lib.hid h
  have HG := Lib.hid g
  have HAd := Lib.hid (badd_any A l.length c l b V (h.st.below bV) h.max h.bare)
  have HRAd : Hid (∀ w', Below W.heap.size W w' → Calls Try.prog 31 #[.slice A l.length c, .agg #[.int .i64 b.id, .int .i64 b.fr, .int .i64 b.to, .int .i64 b.nd]] w' (BPost (addT l b) w')) := fun w' hb' => rbadd_any A l.length c l b w' (HH.out.st.below hb') HH.out.max
  have HDr : Hid (∀ w', Below W.heap.size W w' → Calls Try.prog 32 #[.slice A l.length c, .slice I ids.length d] w' (BPost (dropT l ids) w')) := fun w' hb' => drop_any A l.length c l I ids.length d ids w' (HH.out.st.below hb') HH.out.max HH.out.bare (HG.out.below hb') hg
  have HRDr : Hid (∀ w', Below W.heap.size W w' → Calls Try.prog 33 #[.slice A l.length c, .slice I ids.length d] w' (BPost (dropT l ids) w')) := fun w' hb' => rdrop_any A l.length c l I ids.length d ids w' (HH.out.st.below hb') HH.out.max (HG.out.below hb') hg
  have HPs : Hid (∀ w', Below W.heap.size W w' → Calls Try.prog 35 #[.slice A l.length c, .int .i64 b.fr] w' (NewB (pastT l b.fr) w')) := fun w' hb' => past_any A l.length c l b.fr w' (HH.out.st.below hb') HH.out.max HH.out.bare
  have HRPs : Hid (∀ w', Below W.heap.size W w' → Calls Try.prog 36 #[.slice A l.length c, .int .i64 b.fr] w' (NewB (pastT l b.fr) w')) := fun w' hb' => rpast_any A l.length c l b.fr w' (HH.out.st.below hb') HH.out.max
  have HCh : Hid (∀ w', Below W.heap.size W w' → Calls Try.prog 37 #[.slice A l.length c] w' (Ret (.int .i64 (Book.chkE l)) w')) := fun w' hb' => bcheck_any A l.length c l w' (HH.out.st.below hb') HH.out.max
  have HRCh : Hid (∀ w', Below W.heap.size W w' → Calls Try.prog 38 #[.slice A l.length c] w' (Ret (.int .i64 (Book.chkE l)) w')) := fun w' hb' => rbcheck_any A l.length c l w' (HH.out.st.below hb') HH.out.max
  obtain ⟨r1, hr1⟩ : ∃ r, r = addT l b := ⟨_, rfl⟩
  obtain ⟨r2, hr2⟩ : ∃ r, r = dropT l ids := ⟨_, rfl⟩
  obtain ⟨r3, hr3⟩ : ∃ r, r = pastT l b.fr := ⟨_, rfl⟩
  obtain ⟨r4, hr4⟩ : ∃ r, r = Book.chkE l := ⟨_, rfl⟩
  rw [← hr1] at HAd HRAd
  rw [← hr2] at HDr HRDr
  rw [← hr3] at HPs HRPs
  rw [← hr4] at HCh HRCh
  clear hr1 hr2 hr3 hr4 h g h2
  obtain ⟨x0, x1, x2, x3⟩ := blk4 kV
  go_enter Try.func7, Try.ntmps7
  go_wp2_with fail
  rw [← hV]
  clear hV
  refine HF.out.mono ?_
  rintro e w1 ⟨rfl, rfl⟩
  go_wp2_with fail
  refine HAd.out.mono ?_
  rintro e w1 ⟨A1, c1, rfl, o1, b1⟩
  have b01 := below_step bV b1
  have k1 := kV.below b1 kV.lt
  clear x0 x1 x2 x3
  obtain ⟨x0, x1, x2, x3⟩ := blk4 k1
  have HO1 := Lib.hid o1
  clear o1
  go_wp2_with fail
  refine (HRAd.out w1 b01).mono ?_
  rintro e w2 ⟨A2, c2, rfl, o2, b2⟩
  have b02 := below_step b01 b2
  have k2 := k1.below b2 k1.lt
  clear x0 x1 x2 x3 k1
  have HO2 := Lib.hid o2
  clear o2
  go_wp2_with fail
  refine (HDr.out w2 b02).mono ?_
  rintro e w3 ⟨A3, c3, rfl, o3, b3⟩
  have b03 := below_step b02 b3
  have HO3 := Lib.hid o3
  clear o3
  go_wp2_with fail
  refine (HRDr.out w3 b03).mono ?_
  rintro e w4 ⟨A4, c4, rfl, o4, b4⟩
  have b04 := below_step b03 b4
  have b24 := below_step b3 b4
  have k4 := k2.below b24 k2.lt
  have HS1 : Hid (∀ w', Below w4.heap.size w4 w' → Calls Try.prog 34 #[.slice A1 r1.1.length c1, .slice A2 r1.1.length c2] w' (Ret (.bool true) w')) := fun w' hb' => rbsame_t A1 A2 _ c1 c2 r1.1 w' ((((HO1.out.below b2).below b24).below hb').lst layB) (((HO2.out.below b24).below hb').lst layB) (SOwn.max HO1.out)
  have HS2 : Hid (∀ w', Below w4.heap.size w4 w' → Calls Try.prog 34 #[.slice A3 r2.1.length c3, .slice A4 r2.1.length c4] w' (Ret (.bool true) w')) := fun w' hb' => rbsame_t A3 A4 _ c3 c4 r2.1 w' (((HO3.out.below b4).below hb').lst layB) ((o4.below hb').lst layB) (SOwn.max HO3.out)
  have HSw : Hid (∀ w', Below w4.heap.size w4 w' → (w'.cell? ⟨W.heap.size, 0, none⟩ = some (.int .i64 b.id) ∧ w'.cell? ⟨W.heap.size, 1, none⟩ = some (.int .i64 b.fr) ∧ w'.cell? ⟨W.heap.size, 2, none⟩ = some (.int .i64 b.to) ∧ w'.cell? ⟨W.heap.size, 3, none⟩ = some (.int .i64 b.nd))) := fun w' hb' => blk4 (k4.below hb' k4.lt)
  have b0 : Below w4.heap.size w4 w4.drew := (Below.refl _ _).drew
  have e1 : (r1.2 == r1.2) = true := by simp
  have e2 : (r2.2 == r2.2) = true := by simp
  have e4 : (r4 == r4) = true := by simp
  clear o4 k2 k4 kV
  go_wp2_with fail
  go_region_held3 (fun w' => w'.cell? ⟨W.heap.size, 0, none⟩ = some (.int .i64 b.id) ∧ w'.cell? ⟨W.heap.size, 1, none⟩ = some (.int .i64 b.fr) ∧ w'.cell? ⟨W.heap.size, 2, none⟩ = some (.int .i64 b.to) ∧ w'.cell? ⟨W.heap.size, 3, none⟩ = some (.int .i64 b.nd))
    (first | with_reducible exact HSw.out _ b0 | with_reducible exact HSw.out _ q12 | with_reducible exact HSw.out _ q11 | with_reducible exact HSw.out _ q10 | with_reducible exact HSw.out _ q9 | with_reducible exact HSw.out _ q8 | with_reducible exact HSw.out _ q7 | with_reducible exact HSw.out _ q6 | with_reducible exact HSw.out _ q5)
    (first
      | (go_at_call 34; (with_reducible refine (HS1.out _ b0).mono ?_); rintro e w5 ⟨rfl, d5⟩; have q5 := below_step b0 d5)
      | (go_at_call 34; (with_reducible refine (HS2.out _ q5).mono ?_); rintro e w6 ⟨rfl, d6⟩; have q6 := below_step q5 d6)
      | (go_at_call 35; (with_reducible refine (HPs.out _ (below_step b04 q6)).mono ?_); rintro e w7 ⟨A7, c7, rfl, o7, d7⟩; have q7 := below_step q6 d7)
      | (go_at_call 36; (with_reducible refine (HRPs.out _ (below_step b04 q7)).mono ?_); rintro e w8 ⟨A8, c8, rfl, o8, d8⟩; have q8 := below_step q7 d8)
      | (go_at_call 34; (with_reducible refine (rbsame_t A7 A8 _ c7 c8 r3 _ ((o7.below d8).lst layB) (o8.lst layB) (SOwn.max o7)).mono ?_); rintro e w9 ⟨rfl, d9⟩; have q9 := below_step q8 d9)
      | (go_at_call 37; (with_reducible refine (HCh.out _ (below_step b04 q9)).mono ?_); rintro e w10 ⟨rfl, d10⟩; have q10 := below_step q9 d10)
      | (go_at_call 38; (with_reducible refine (HRCh.out _ (below_step b04 q10)).mono ?_); rintro e w11 ⟨rfl, d11⟩; have q11 := below_step q10 d11)
      | (go_at_call 29; (with_reducible refine (HAw.out _).mono ?_); rintro e w12 ⟨rfl, d12⟩; have q12 := below_step q11 d12))
  all_goals go_wp2_with fail
  all_goals go_ret
  all_goals exact ⟨rfl, below_step b04 q12⟩
end Go.Proofs.Ythfnmighhoighaa.BookW
