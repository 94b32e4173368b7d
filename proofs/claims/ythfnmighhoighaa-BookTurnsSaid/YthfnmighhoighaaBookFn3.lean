/-
  Contracts of muster/book: Add, Take, Same.
-/
import Derived.Test.YthfnmighhoighaaBookFn2
namespace Go.Proofs.Ythfnmighhoighaa.BookW
open Go.RowKit Mem Prof Book ProfW
set_option linter.unusedVariables false
set_option linter.unusedSimpArgs false
attribute [local go_sem ↓] Go.wp_at_zero Go.wp_at_succ

set_option maxHeartbeats 1000000 in
set_option maxRecDepth 100000 in
theorem badd_any (A : Option Addr) (n c : Nat) (l : List Bk) (b : Bk) (w : World) (h : Bks w A n l) (hn : n ≤ maxLen) (hA : A = none → c = 0) :
    Calls Try.prog 30 #[.slice A n c, .agg #[.int .i64 b.id, .int .i64 b.fr, .int .i64 b.to, .int .i64 b.nd]] w (BPost (addT l b) w) := by
  have hlen := h.len
  subst hlen
  have hn' := hn
  unfold maxLen at hn'
  obtain ⟨V, hV⟩ : ∃ V, V = w.alloc (.cells #[.int .i64 b.id, .int .i64 b.fr, .int .i64 b.to, .int .i64 b.nd] 42) := ⟨_, rfl⟩
  have bV : Below w.heap.size w V := by rw [hV]; exact (Below.refl _ _).alloc (Nat.le_refl _) _
  have kV : Blk V w.heap.size 42 #[.int .i64 b.id, .int .i64 b.fr, .int .i64 b.to, .int .i64 b.nd] := by rw [hV]; exact Blk.new _ _ _
  have HCk := Lib.hid (bcheck_any A l.length c l V (h.below bV) hn)
  cases hck : Book.chk l
  · rw [Book.chkE_no hck] at HCk
    have HP : Hid (addT l b = ([], 190)) := by show _ = _; rw [addT, if_pos hck]
    clear hck h hA
    go_enter Try.func30, Try.ntmps30
    go_wp2_with fail
    rw [← hV]
    clear hV
    refine HCk.out.mono ?_
    rintro e w1 ⟨rfl, b1⟩
    go_wp2_with fail
    go_ret2
    rw [HP.out]
    exact ⟨none, 0, rfl, SOwn.nil _ _ _ _, below_step bV b1⟩
  · rw [Book.chkE_yes hck] at HCk
    have hfew := (chk_of hck).few
    by_cases h8 : l.length = 8
    · have HP : Hid (addT l b = ([], 150)) := by show _ = _; rw [addT, if_neg (by simp [hck]), if_pos h8]
      have e8 : ((l.length : Int) == 8) = true := by simp [h8]
      have e8' : (l.length == 8) = true := by simp [h8]
      clear hck h hA h8
      go_enter Try.func30, Try.ntmps30
      go_wp2_with fail
      rw [← hV]
      clear hV
      refine HCk.out.mono ?_
      rintro e w1 ⟨rfl, b1⟩
      go_wp2_with fail
      go_ret2
      rw [HP.out]
      exact ⟨none, 0, rfl, SOwn.nil _ _ _ _, below_step bV b1⟩
    · have HP : Hid (addT l b = if Book.chk (l ++ [b]) = false then ([], 190) else (l ++ [b], 0)) := by show _ = _; rw [addT, if_neg (by simp [hck]), if_neg h8]
      have e8 : ((l.length : Int) == 8) = false := by simp; omega
      have e8' : (l.length == 8) = false := by simpa using h8
      have HH := Lib.hid h
      have HA := Lib.hid hA
      clear hck h hA h8
      go_enter Try.func30, Try.ntmps30
      go_wp2_with fail
      rw [← hV]
      clear hV
      refine HCk.out.mono ?_
      rintro e w1 ⟨rfl, b1⟩
      have b01 := below_step bV b1
      have k1 := kV.below b1 kV.lt
      have HCl : Hid (∀ w', Below w1.heap.size w1 w' → Calls Try.prog 54 #[.slice A l.length c] w' (NewB l w')) := fun w' hb' => bclone_any A l.length c l w' ((HH.out.below b01).below hb') (by omega) HA.out
      have HSw : Hid (∀ w', Below w1.heap.size w1 w' → (w'.cell? ⟨w.heap.size, 0, none⟩ = some (.int .i64 b.id) ∧ w'.cell? ⟨w.heap.size, 1, none⟩ = some (.int .i64 b.fr) ∧ w'.cell? ⟨w.heap.size, 2, none⟩ = some (.int .i64 b.to) ∧ w'.cell? ⟨w.heap.size, 3, none⟩ = some (.int .i64 b.nd))) := fun w' hb' => blk4 (k1.below hb' k1.lt)
      have b0 : Below w1.heap.size w1 w1.drew := (Below.refl _ _).drew
      clear kV k1
      obtain ⟨X, hX⟩ : ∃ X : Obj, X = .cells #[.int .i64 b.id, .int .i64 b.fr, .int .i64 b.to, .int .i64 b.nd] 42 := ⟨_, rfl⟩
      have bX : Below w1.heap.size w1 (w1.alloc X).drew := ((Below.refl _ _).alloc (Nat.le_refl _) _).drew
      have HX : Hid (Bks (w1.alloc X).drew (some ⟨w1.heap.size, 0, none⟩) 1 [b]) := by
        show Bks _ _ _ _
        rw [hX]
        exact (Lst.new layB w1 b #[.int .i64 b.id, .int .i64 b.fr, .int .i64 b.to, .int .i64 b.nd] 42 rfl).below (Below.refl _ _).drew
      have HY : Hid (∀ w2 : World, Bks (w2.alloc X) (some ⟨w2.heap.size, 0, none⟩) 1 [b]) := by
        show ∀ _, _
        rw [hX]
        exact fun w2 => Lst.new layB w2 b #[.int .i64 b.id, .int .i64 b.fr, .int .i64 b.to, .int .i64 b.nd] 42 rfl
      subst hX
      go_wp2_with fail
      go_cut [7] (fun Z wx => ∃ A' c', Z = .slice A' (l.length + 1) c' ∧ BksO wx w1.heap.size A' (l.length + 1) c' (l ++ [b]) ∧ Below w1.heap.size w1 wx)
      case first =>
        go_region_held3 (fun w' => w'.cell? ⟨w.heap.size, 0, none⟩ = some (.int .i64 b.id) ∧ w'.cell? ⟨w.heap.size, 1, none⟩ = some (.int .i64 b.fr) ∧ w'.cell? ⟨w.heap.size, 2, none⟩ = some (.int .i64 b.to) ∧ w'.cell? ⟨w.heap.size, 3, none⟩ = some (.int .i64 b.nd))
          (first | with_reducible exact HSw.out _ b0 | with_reducible exact HSw.out _ bX | with_reducible exact HSw.out _ p4 | with_reducible exact HSw.out _ b2 | with_reducible exact HSw.out _ (b2.alloc b2.size _))
          (first
            | (go_at_call 54; refine (HCl.out _ (by first | exact b0 | exact bX)).mono ?_; rintro e w2 ⟨A2, c2, rfl, o2, d2⟩; have b2 : Below w1.heap.size w1 w2 := (by first | exact below_step b0 d2 | exact below_step bX d2))
            | (refine step_app_s layB (base := w1.heap.size) rfl _ _ (by rfl) (by rfl) (by rfl) Try.underlying40 bookInfo rfl (by first | exact (SOwn.mono o2 (Nat.le_refl _)).below ((Below.refl _ _).alloc (Nat.le_refl _) _) | exact SOwn.mono o2 bX.size) (by first | exact HY.out _ | exact HX.out.below d2) (by simp only [maxLen]; omega) (by omega) (by first | exact b2.size | exact (b2.alloc b2.size _).size) (fun A' c' W' p1 p2 p3 => ?_); have p4 : Below w1.heap.size w1 W' := (by first | exact b2.trans p2 | exact (b2.alloc b2.size _).trans p2)))
        all_goals go_wp2_with fail
        all_goals go_meet
        all_goals exact ⟨_, _, rfl, p1, p4⟩
      case rest =>
        obtain ⟨A', c', rfl, o3, b3⟩ := hcut
        have b03 := below_step b01 b3
        have HCk2 := Lib.hid (bcheck_any A' (l.length + 1) c' (l ++ [b]) _ (o3.lst layB) (by simp only [maxLen]; omega))
        have HO := Lib.hid (o3.mono b01.size)
        clear o3
        cases hc2 : Book.chk (l ++ [b])
        · rw [Book.chkE_no hc2] at HCk2
          have HR : Hid (addT l b = ([], 190)) := by show _ = _; rw [HP.out, if_pos hc2]
          clear hc2
          go_wp2_with fail
          refine HCk2.out.mono ?_
          rintro e w4 ⟨rfl, b4⟩
          go_wp2_with fail
          go_ret2
          rw [HR.out]
          exact ⟨none, 0, rfl, SOwn.nil _ _ _ _, below_step b03 b4⟩
        · rw [Book.chkE_yes hc2] at HCk2
          have HR : Hid (addT l b = (l ++ [b], 0)) := by show _ = _; rw [HP.out, if_neg (by simp [hc2])]
          have HL : Hid ((l ++ [b]).length = l.length + 1) := by show _ = _; simp
          clear hc2
          go_wp2_with fail
          refine HCk2.out.mono ?_
          rintro e w4 ⟨rfl, b4⟩
          go_wp2_with fail
          go_ret2
          rw [HR.out]
          unfold BPost
          rw [HL.out]
          exact ⟨A', c', rfl, HO.out.below b4, below_step b03 b4⟩
end Go.Proofs.Ythfnmighhoighaa.BookW
