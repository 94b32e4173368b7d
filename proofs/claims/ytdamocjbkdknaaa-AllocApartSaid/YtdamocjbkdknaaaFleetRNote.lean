/-
  Contract of musterref12: Note.
-/
import Derived.Test.YtdamocjbkdknaaaFleetNew
import Derived.Test.YtdamocjbkdknaaaFleetRef2
namespace Go.Proofs.Ytdamocjbkdknaaa.FleetW
open Go.RowKit Mem Fleet
set_option linter.unusedVariables false
set_option linter.unusedSimpArgs false
set_option linter.unnecessarySimpa false

set_option maxHeartbeats 2000000 in
set_option maxRecDepth 100000 in
theorem rnote_any (A : Option Addr) (n c : Nat) (l : List Nd) (m : Int) (w : World) (h : Nds w A n l) (hn : n ≤ maxLen) :
    Calls Try.prog 17 #[.slice A n c, .int .i64 m] w (Ret (NoteV (noteT l m)) w) := by
  have hlen := h.len
  subst hlen
  obtain ⟨V, hV⟩ : ∃ V, V = w.alloc (.cells #[.int .i64 0, .int .i64 0, .int .i64 0, .int .i64 0] 31) := ⟨_, rfl⟩
  have bV : Below w.heap.size w V := by rw [hV]; exact (Below.refl _ _).alloc (Nat.le_refl _) _
  have kV : Blk V w.heap.size 31 #[.int .i64 0, .int .i64 0, .int .i64 0, .int .i64 0] := by rw [hV]; exact Blk.new _ _ _
  have HCk := Lib.hid (rcheck_any A l.length c l V (h.below bV) hn)
  cases hck : chk l
  · rw [chkE_no hck] at HCk
    have HP := Lib.hid (noteT_chk (n := m) hck)
    rw [HP.out]
    clear hck h
    go_enter Try.func17, Try.ntmps17
    go_wp2_with fail
    rw [← hV]
    clear hV
    refine HCk.out.mono ?_
    rintro e w1 ⟨rfl, b1⟩
    have k1 := kV.below b1 kV.lt
    obtain ⟨x0, x1, x2, x3⟩ := blk4 k1
    have g0 := k1.frozen 0
    have g1 := k1.frozen 1
    have g2 := k1.frozen 2
    have g3 := k1.frozen 3
    go_wp2_with fail
    obtain ⟨y0, y1, y2, y3⟩ := blk4 ((((k1.set 0 (.int .i64 0)).set 1 (.int .i64 0)).set 2 (.int .i64 0)).set 3 (.int .i64 0))
    refine bodyPost_ret (v := .tuple #[.agg #[.int .i64 0, .int .i64 0, .int .i64 0, .int .i64 0], .bool false]) (by simp [results, Try.results17, go_sem, y0, y1, y2, y3]) rfl ⟨rfl, ?_⟩
    exact below_setCells (g := w.heap.size) (below_step bV b1) (Nat.le_refl _) [.int .i64 0, .int .i64 0, .int .i64 0, .int .i64 0] 0
  rw [chkE_yes hck] at HCk
  have hfew := (chk_iff.1 hck).few
  by_cases h1 : m < 0
  · have HP := Lib.hid (noteT_out (l := l) (.inl h1))
    rw [HP.out]
    clear hck h
    go_enter Try.func17, Try.ntmps17
    go_wp2_with fail
    rw [← hV]
    clear hV
    refine HCk.out.mono ?_
    rintro e w1 ⟨rfl, b1⟩
    have k1 := kV.below b1 kV.lt
    obtain ⟨x0, x1, x2, x3⟩ := blk4 k1
    have g0 := k1.frozen 0
    have g1 := k1.frozen 1
    have g2 := k1.frozen 2
    have g3 := k1.frozen 3
    go_wp2_with fail
    obtain ⟨y0, y1, y2, y3⟩ := blk4 ((((k1.set 0 (.int .i64 0)).set 1 (.int .i64 0)).set 2 (.int .i64 0)).set 3 (.int .i64 0))
    refine bodyPost_ret (v := .tuple #[.agg #[.int .i64 0, .int .i64 0, .int .i64 0, .int .i64 0], .bool false]) (by simp [results, Try.results17, go_sem, y0, y1, y2, y3]) rfl ⟨rfl, ?_⟩
    exact below_setCells (g := w.heap.size) (below_step bV b1) (Nat.le_refl _) [.int .i64 0, .int .i64 0, .int .i64 0, .int .i64 0] 0
  have h1' : 0 ≤ m := by omega
  by_cases h2 : (l.length : Int) ≤ m
  · have HP := Lib.hid (noteT_out (l := l) (.inr h2))
    rw [HP.out]
    clear hck h h1
    go_enter Try.func17, Try.ntmps17
    go_wp2_with fail
    rw [← hV]
    clear hV
    refine HCk.out.mono ?_
    rintro e w1 ⟨rfl, b1⟩
    have k1 := kV.below b1 kV.lt
    obtain ⟨x0, x1, x2, x3⟩ := blk4 k1
    have g0 := k1.frozen 0
    have g1 := k1.frozen 1
    have g2 := k1.frozen 2
    have g3 := k1.frozen 3
    go_wp2_with fail
    obtain ⟨y0, y1, y2, y3⟩ := blk4 ((((k1.set 0 (.int .i64 0)).set 1 (.int .i64 0)).set 2 (.int .i64 0)).set 3 (.int .i64 0))
    refine bodyPost_ret (v := .tuple #[.agg #[.int .i64 0, .int .i64 0, .int .i64 0, .int .i64 0], .bool false]) (by simp [results, Try.results17, go_sem, y0, y1, y2, y3]) rfl ⟨rfl, ?_⟩
    exact below_setCells (g := w.heap.size) (below_step bV b1) (Nat.le_refl _) [.int .i64 0, .int .i64 0, .int .i64 0, .int .i64 0] 0
  obtain ⟨k, rfl⟩ : ∃ k : Nat, m = (k : Int) := ⟨m.toNat, by omega⟩
  have hk : k < l.length := by omega
  have hki : (k : Int) < (l.length : Int) := by omega
  have hk2 : decide (l.length ≤ k) = false := by simp; omega
  have hk3 : ¬ l.length ≤ k := by omega
  clear h1 h1' h2
  obtain ⟨b, off, x, rfl, hb, hx, _⟩ := Lst.seven h hk
  have HP := Lib.hid (noteT_at hck hx)
  have HX := Lib.hid hx
  have HH := Lib.hid h
  clear hck hx h
  by_cases hw : x.wt = 0
  · rw [if_pos hw] at HP
    rw [HP.out]
    have hw1 : (x.wt == 0) = true := by simp [hw]
    clear hw
    go_enter Try.func17, Try.ntmps17
    go_wp2_with fail
    rw [← hV]
    clear hV
    refine HCk.out.mono ?_
    rintro e w1 ⟨rfl, b1⟩
    obtain ⟨b', off', x', e', hb', hx', d0, d1, d2, d3, d4, d5, d6⟩ := Lst.seven (HH.out.below (below_step bV b1)) hk
    injection e' with e'
    injection e' with e1 e2
    subst e1 e2
    rw [HX.out] at hx'
    injection hx' with hx'
    subst hx'
    have k1 := kV.below b1 kV.lt
    obtain ⟨x0, x1, x2, x3⟩ := blk4 k1
    have g0 := k1.frozen 0
    have g1 := k1.frozen 1
    have g2 := k1.frozen 2
    have g3 := k1.frozen 3
    go_wp2_with fail
    clear d0 d1 d2 d3 d4 d5 d6
    obtain ⟨y0, y1, y2, y3⟩ := blk4 ((((k1.set 0 (.int .i64 0)).set 1 (.int .i64 0)).set 2 (.int .i64 0)).set 3 (.int .i64 0))
    refine bodyPost_ret (v := .tuple #[.agg #[.int .i64 0, .int .i64 0, .int .i64 0, .int .i64 0], .bool false]) (by simp [results, Try.results17, go_sem, y0, y1, y2, y3]) rfl ⟨rfl, ?_⟩
    exact below_setCells (g := w.heap.size) (below_step bV b1) (Nat.le_refl _) [.int .i64 0, .int .i64 0, .int .i64 0, .int .i64 0] 0
  · rw [if_neg hw] at HP
    rw [HP.out]
    have hw1 : (x.wt == 0) = false := by simpa using hw
    clear hw
    go_enter Try.func17, Try.ntmps17
    go_wp2_with fail
    rw [← hV]
    clear hV
    refine HCk.out.mono ?_
    rintro e w1 ⟨rfl, b1⟩
    obtain ⟨b', off', x', e', hb', hx', d0, d1, d2, d3, d4, d5, d6⟩ := Lst.seven (HH.out.below (below_step bV b1)) hk
    injection e' with e'
    injection e' with e1 e2
    subst e1 e2
    rw [HX.out] at hx'
    injection hx' with hx'
    subst hx'
    have k1 := kV.below b1 kV.lt
    have hne : w.heap.size ≠ b := by omega
    have hne' : b ≠ w.heap.size := by omega
    obtain ⟨x0, x1, x2, x3⟩ := blk4 k1
    have g0 := k1.frozen 0
    have g1 := k1.frozen 1
    have g2 := k1.frozen 2
    have g3 := k1.frozen 3
    go_wp2_with fail
    go_region
    all_goals go_wp2_with fail
    all_goals clear d0 d1 d2 d3 d4 d5 d6
    obtain ⟨y0, y1, y2, y3⟩ := blk4 ((((k1.set 0 (.int .i64 x.wt)).set 1 (.int .i64 (k : Int))).set 2 (.int .i64 x.jb)).set 3 (.int .i64 x.ep))
    refine bodyPost_ret (v := .tuple #[.agg #[.int .i64 x.wt, .int .i64 (k : Int), .int .i64 x.jb, .int .i64 x.ep], .bool true]) (by simp [results, Try.results17, go_sem, y0, y1, y2, y3]) rfl ⟨rfl, ?_⟩
    exact (below_setCells (g := w.heap.size) (below_step bV b1) (Nat.le_refl _) [.int .i64 x.wt, .int .i64 (k : Int), .int .i64 x.jb, .int .i64 x.ep] 0).drew
end Go.Proofs.Ytdamocjbkdknaaa.FleetW
