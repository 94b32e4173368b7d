/-
  Contracts of muster/book: Past, Drop.
-/
import Derived.Test.YthfnmighhoighaaBookDel
import Derived.Test.YthfnmighhoighaaBook
import Derived.Shelf.Abstract
namespace Go.Proofs.Ythfnmighhoighaa.BookW
open Go.RowKit Mem Prof Book ProfW
set_option linter.unusedVariables false
set_option linter.unusedSimpArgs false

theorem past1_any (x : Bk) (now : Int) (B : Nat) (W : World) (hB : B < W.heap.size) (hc : W.cell? ⟨B, 0, none⟩ = some (.int .i64 now)) :
    Calls Try.prog 57 #[.agg #[.int .i64 x.id, .int .i64 x.fr, .int .i64 x.to, .int .i64 x.nd], .pointer (some ⟨B, 0, none⟩)] W (Ret (.bool (decide (x.to ≤ now))) W) := by
  have hne : B ≠ W.heap.size := by omega
  go_enter Try.func57, Try.ntmps57
  go_wp2_with fail
  go_ret
  exact ⟨rfl, (Below.refl _ _).alloc (Nat.le_refl _) _⟩
theorem drop1_any (x : Bk) (id : Int) (B : Nat) (W : World) (hB : B < W.heap.size) (hc : W.cell? ⟨B, 0, none⟩ = some (.int .i64 id)) :
    Calls Try.prog 56 #[.agg #[.int .i64 x.id, .int .i64 x.fr, .int .i64 x.to, .int .i64 x.nd], .pointer (some ⟨B, 0, none⟩)] W (Ret (.bool (x.id == id)) W) := by
  have hne : B ≠ W.heap.size := by omega
  go_enter Try.func56, Try.ntmps56
  go_wp2_with fail
  go_ret
  exact ⟨rfl, (Below.refl _ _).alloc (Nat.le_refl _) _⟩
theorem past_tells (now : Int) (B base : Nat) (W0 : World) (hB : B < base) (hb : base ≤ W0.heap.size) (hc : W0.cell? ⟨B, 0, none⟩ = some (.int .i64 now)) : Tells 57 ⟨B, 0, none⟩ (fun x => decide (x.to ≤ now)) base W0 :=
  fun x W h => past1_any x now B W (by have := h.size; omega) ((h.cell (p := ⟨B, 0, none⟩) hB).trans hc)
theorem drop_tells (id : Int) (B base : Nat) (W0 : World) (hB : B < base) (hb : base ≤ W0.heap.size) (hc : W0.cell? ⟨B, 0, none⟩ = some (.int .i64 id)) : Tells 56 ⟨B, 0, none⟩ (fun x => x.id == id) base W0 :=
  fun x W h => drop1_any x id B W (by have := h.size; omega) ((h.cell (p := ⟨B, 0, none⟩) hB).trans hc)
theorem past_eg : ∀ args w, (callFunc 57 args).run Try.prog w = .ok (.enter 57 args) w := enters_of Try.func57 (by kernel_rfl) rfl
theorem drop_eg : ∀ args w, (callFunc 56 args).run Try.prog w = .ok (.enter 56 args) w := enters_of Try.func56 (by kernel_rfl) rfl

set_option maxHeartbeats 1000000 in
theorem past_any (A : Option Addr) (n c : Nat) (l : List Bk) (now : Int) (w : World) (h : Bks w A n l) (hn : n ≤ maxLen) (hA : A = none → c = 0) :
    Calls Try.prog 35 #[.slice A n c, .int .i64 now] w (NewB (pastT l now) w) := by
  have hlen := h.len
  subst hlen
  obtain ⟨V, hV⟩ : ∃ V, V = w.alloc (.cells #[.int .i64 now] 3) := ⟨_, rfl⟩
  have bV : Below w.heap.size w V := by rw [hV]; exact (Below.refl _ _).alloc (Nat.le_refl _) _
  have kV : Blk V w.heap.size 3 #[.int .i64 now] := by rw [hV]; exact Blk.new _ _ _
  have hVs : w.heap.size < V.heap.size := kV.lt
  have HCk := Lib.hid (bcheck_any A l.length c l V (h.below bV) hn)
  cases hck : Book.chk l
  · rw [Book.chkE_no hck] at HCk
    have HP : Hid (pastT l now = []) := by show _ = _; rw [pastT, if_pos hck]
    clear hck h hA
    go_enter Try.func35, Try.ntmps35
    go_wp2_with fail
    rw [← hV]
    clear hV
    refine HCk.out.mono ?_
    rintro e w1 ⟨rfl, b1⟩
    go_wp2_with fail
    go_ret
    rw [HP.out]
    exact ⟨none, 0, rfl, SOwn.nil _ _ _ _, below_step bV b1⟩
  · rw [Book.chkE_yes hck] at HCk
    have hfew := (chk_of hck).few
    have HP : Hid (pastT l now = l.filter (fun x => !decide (x.to ≤ now))) := by
      show _ = _
      rw [pastT, if_neg (by simp [hck])]
      congr 1
      funext x
      rw [← decide_not, decide_eq_decide]
      omega
    have HH := Lib.hid h
    have HA := Lib.hid hA
    clear hck h hA
    go_enter Try.func35, Try.ntmps35
    go_wp2_with fail
    rw [← hV]
    clear hV
    refine HCk.out.mono ?_
    rintro e w1 ⟨rfl, b1⟩
    have k1 := kV.below b1 kV.lt
    have b01 := below_step bV b1
    have hs1 := b1.size
    have HW := Lib.hid (without_any 57 ⟨w.heap.size, 0, none⟩ (fun x => decide (x.to ≤ now)) past_eg A l.length c l w1 (past_tells now w.heap.size w1.heap.size w1 (by omega) (Nat.le_refl _) (k1.cell 0)) (HH.out.below b01) (by omega) HA.out)
    clear k1
    go_wp2_with fail
    refine HW.out.mono ?_
    rintro e w2 ⟨A2, c2, rfl, o2, b2⟩
    go_wp2_with fail
    go_ret
    rw [HP.out]
    exact ⟨A2, c2, rfl, o2.mono b01.size, below_step b01 b2⟩
end Go.Proofs.Ythfnmighhoighaa.BookW
