/-
  Contracts of musterref19: Add, Take.
-/
import Derived.Test.YthfnmighhoighaaBookRef
import Derived.Test.YthfnmighhoighaaSlices4
namespace Go.Proofs.Ythfnmighhoighaa.BookW
open Go.RowKit Mem Prof Book ProfW
set_option linter.unusedVariables false
set_option linter.unusedSimpArgs false
attribute [local go_sem ↓] Go.wp_at_zero Go.wp_at_succ

abbrev BX (b : Bk) : Array Value := #[.int .i64 b.id, .int .i64 b.fr, .int .i64 b.to, .int .i64 b.nd]
set_option maxHeartbeats 2000000 in
set_option maxRecDepth 100000 in
theorem rbadd_any (A : Option Addr) (n c : Nat) (l : List Bk) (b : Bk) (w : World) (h : Bks w A n l) (hn : n ≤ maxLen) :
    Calls Try.prog 31 #[.slice A n c, .agg #[.int .i64 b.id, .int .i64 b.fr, .int .i64 b.to, .int .i64 b.nd]] w (BPost (addT l b) w) := by
  have hlen := h.len
  subst hlen
  have hn' := hn
  unfold maxLen at hn'
  obtain ⟨V, hV⟩ : ∃ V, V = w.alloc (.cells #[.int .i64 b.id, .int .i64 b.fr, .int .i64 b.to, .int .i64 b.nd] 42) := ⟨_, rfl⟩
  have bV : Below w.heap.size w V := by rw [hV]; exact (Below.refl _ _).alloc (Nat.le_refl _) _
  have kV : Blk V w.heap.size 42 #[.int .i64 b.id, .int .i64 b.fr, .int .i64 b.to, .int .i64 b.nd] := by rw [hV]; exact Blk.new _ _ _
  have HCk := Lib.hid (rbcheck_any A l.length c l V (h.below bV) hn)
  cases hck : Book.chk l
  · rw [Book.chkE_no hck] at HCk
    have HP : Hid (addT l b = ([], 190)) := by show _ = _; rw [addT, if_pos hck]
    clear hck h
    go_enter Try.func31, Try.ntmps31
    go_wp2_with fail
    rw [← hV]
    clear hV
    refine HCk.out.mono ?_
    rintro e w1 ⟨rfl, b1⟩
    go_wp2_with fail
    go_ret2
    rw [HP.out]
    exact ⟨none, 0, rfl, SOwn.nil _ _ _ _, below_step bV b1⟩
  · rw [Book.chkE_yes hck] at HCk
    have hfew := (chk_of hck).few
    by_cases h8 : l.length = 8
    · have HP : Hid (addT l b = ([], 150)) := by show _ = _; rw [addT, if_neg (by simp [hck]), if_pos h8]
      have e8 : ((l.length : Int) == 8) = true := by simp [h8]
      have e8' : (l.length == 8) = true := by simp [h8]
      clear hck h h8
      go_enter Try.func31, Try.ntmps31
      go_wp2_with fail
      rw [← hV]
      clear hV
      refine HCk.out.mono ?_
      rintro e w1 ⟨rfl, b1⟩
      go_wp2_with fail
      go_ret2
      rw [HP.out]
      exact ⟨none, 0, rfl, SOwn.nil _ _ _ _, below_step bV b1⟩
    · have HP : Hid (addT l b = if Book.chk (l ++ [b]) = false then ([], 190) else (l ++ [b], 0)) := by show _ = _; rw [addT, if_neg (by simp [hck]), if_neg h8]
      have e8 : ((l.length : Int) == 8) = false := by simp; omega
      have e8' : (l.length == 8) = false := by simpa using h8
      have HH := Lib.hid h
      clear hck h h8
      go_enter Try.func31, Try.ntmps31
      go_wp2_with fail
      rw [← hV]
      clear hV
      refine HCk.out.mono ?_
      rintro e w1 ⟨rfl, b1⟩
      have b01 := below_step bV b1
      have k1 := kV.below b1 kV.lt
      have HT : Hid (∀ w', Below w1.heap.size w1 w' → Bks w' A l.length l) := fun w' hb' => (HH.out.below b01).below hb'
      have HSw : Hid (∀ w', Below w1.heap.size w1 w' → (w'.cell? ⟨w.heap.size, 0, none⟩ = some (.int .i64 b.id) ∧ w'.cell? ⟨w.heap.size, 1, none⟩ = some (.int .i64 b.fr) ∧ w'.cell? ⟨w.heap.size, 2, none⟩ = some (.int .i64 b.to) ∧ w'.cell? ⟨w.heap.size, 3, none⟩ = some (.int .i64 b.nd))) := fun w' hb' => blk4 (k1.below hb' k1.lt)
      clear kV k1
      go_wp2_with fail
      go_cut [6] (fun Z wx => ∃ A' c', Z = .slice A' (l.length + 1) c' ∧ BksO wx w1.heap.size A' (l.length + 1) c' (l ++ [b]) ∧ Below w1.heap.size w1 wx)
      case first =>
        go_region_held3 (fun w' => w'.cell? ⟨w.heap.size, 0, none⟩ = some (.int .i64 b.id) ∧ w'.cell? ⟨w.heap.size, 1, none⟩ = some (.int .i64 b.fr) ∧ w'.cell? ⟨w.heap.size, 2, none⟩ = some (.int .i64 b.to) ∧ w'.cell? ⟨w.heap.size, 3, none⟩ = some (.int .i64 b.nd))
          (first | with_reducible exact HSw.out _ (Below.refl _ _).drew | with_reducible exact HSw.out _ ((Below.refl _ _).alloc (Nat.le_refl _) _).drew | exact HSw.out _ (((Below.refl _ _).alloc (Nat.le_refl _) _).alloc (by simp) _).drew | with_reducible exact HSw.out _ bz | with_reducible exact HSw.out _ b1z | with_reducible exact HSw.out _ (b1z.alloc b1z.size _))
          (first
            | (refine step_app_0 layB w1.heap.size rfl _ _ (by rfl) (by rfl) (by rfl) Try.underlying40 bookInfo rfl (HT.out _ ?_) ?_ ?_ ?_ ?_; (first | exact ((Below.refl _ _).alloc (Nat.le_refl _) _).drew | exact (((Below.refl _ _).alloc (Nat.le_refl _) _).alloc (by simp) _).drew); (simp [maxLen]; omega); omega; (simp <;> omega); (intro A1 c1 W1 ho1 hb1 hf1; have b1z : Below w1.heap.size w1 W1 := (by first | exact (((Below.refl _ _).alloc (Nat.le_refl _) _).drew).trans hb1 | exact ((((Below.refl _ _).alloc (Nat.le_refl _) _).alloc (by simp) _).drew).trans hb1)))
            | (refine step_app_s layB (base := w1.heap.size) rfl _ _ (by rfl) (by rfl) (by rfl) Try.underlying40 bookInfo rfl ho1 (lit_b layB w1 b (BX b) 42 _ rfl hb1.size hf1) ?_ ?_ ?_ ?_; (simp [maxLen]; omega); omega; exact b1z.size; (intro A2 c2 W2 ho2 hb2 hf2; have bz : Below w1.heap.size w1 W2 := b1z.trans hb2))
            | (refine step_app_s layB (base := w1.heap.size) rfl _ _ (by rfl) (by rfl) (by rfl) Try.underlying40 bookInfo rfl ho1 (lit_c layB w1 b (BX b) 42 _ rfl hb1.size hf1) ?_ ?_ ?_ ?_; (simp [maxLen]; omega); omega; exact b1z.size; (intro A2 c2 W2 ho2 hb2 hf2; have bz : Below w1.heap.size w1 W2 := b1z.trans hb2))
            | (refine step_app_s layB (base := w1.heap.size) rfl _ _ (by rfl) (by rfl) (by rfl) Try.underlying40 bookInfo rfl (ho1.below ((Below.refl _ _).alloc (Nat.le_refl _) _)) (Lst.new layB W1 b (BX b) 42 rfl) ?_ ?_ ?_ ?_; (simp [maxLen]; omega); omega; (exact (b1z.alloc b1z.size _).size); (intro A2 c2 W2 ho2 hb2 hf2; have bz : Below w1.heap.size w1 W2 := (b1z.alloc b1z.size _).trans hb2)))
        all_goals go_wp2_with fail
        all_goals go_meet
        all_goals exact ⟨_, _, rfl, ho2, bz⟩
      case rest =>
        obtain ⟨A', c', rfl, o3, b3⟩ := hcut
        have b03 := below_step b01 b3
        have HCk2 := Lib.hid (rbcheck_any A' (l.length + 1) c' (l ++ [b]) _ (o3.lst layB) (by simp only [maxLen]; omega))
        have HO := Lib.hid (o3.mono b01.size)
        clear o3
        cases hc2 : Book.chk (l ++ [b])
        · rw [Book.chkE_no hc2] at HCk2
          have HR : Hid (addT l b = ([], 190)) := by show _ = _; rw [HP.out, if_pos hc2]
          clear hc2
          go_wp2_with fail
          refine HCk2.out.mono ?_
          rintro e w4 ⟨rfl, b4⟩
          go_wp2_with fail
          go_ret2
          rw [HR.out]
          exact ⟨none, 0, rfl, SOwn.nil _ _ _ _, below_step b03 b4⟩
        · rw [Book.chkE_yes hc2] at HCk2
          have HR : Hid (addT l b = (l ++ [b], 0)) := by show _ = _; rw [HP.out, if_neg (by simp [hc2])]
          have HL : Hid ((l ++ [b]).length = l.length + 1) := by show _ = _; simp
          clear hc2
          go_wp2_with fail
          refine HCk2.out.mono ?_
          rintro e w4 ⟨rfl, b4⟩
          go_wp2_with fail
          go_ret2
          rw [HR.out]
          unfold BPost
          rw [HL.out]
          exact ⟨A', c', rfl, HO.out.below b4, below_step b03 b4⟩
end Go.Proofs.Ythfnmighhoighaa.BookW
