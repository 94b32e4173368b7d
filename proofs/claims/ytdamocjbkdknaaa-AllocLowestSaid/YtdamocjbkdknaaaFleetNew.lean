/-
  Contracts of muster/fleet: New, Note.
-/
import Derived.Test.YtdamocjbkdknaaaFleetDo
import Derived.OwnWalk
namespace Go.Proofs.Ytdamocjbkdknaaa.FleetW
open Go.RowKit Mem Fleet
set_option linter.unusedVariables false
set_option linter.unusedSimpArgs false
set_option linter.unnecessarySimpa false

abbrev Nd0 : Nd := ⟨0, 0, 0, false, 0, 0, 0⟩
def newT (n : Int) : List Nd × Int := if n < 1 ∨ 48 < n then ([], 2) else (List.replicate n.toNat Nd0, 0)
theorem made_zero (n : Nat) : (madeCells (Value.agg ZN).cells (n * 7)).toList = (List.replicate n Nd0).flatMap ndRow := by
  apply List.ext_getElem?
  intro j
  by_cases hj : j < n * 7
  · have h1 : j / 7 < n := (Nat.div_lt_iff_lt_mul (by omega)).2 hj
    have hl : (List.replicate n Nd0)[j / 7]? = some Nd0 := by rw [List.getElem?_replicate, if_pos h1]
    have hm : j % 7 < 7 := Nat.mod_lt _ (by omega)
    have hv : (ndRow Nd0)[j % 7]? = some ((ndRow Nd0)[j % 7]'(by simp [ndRow]; omega)) := List.getElem?_eq_getElem _
    have h2 := flat_at layN _ _ _ _ _ hl hv
    have e : j / 7 * 7 + j % 7 = j := by omega
    rw [e] at h2
    rw [h2, List.getElem?_eq_getElem (by rw [Array.length_toList, size_madeCells]; exact hj)]
    congr 1
    simp only [madeCells, Array.toList_map, Array.toList_range, List.getElem_map, List.getElem_range]
    show (ZN)[j % 7]! = _
    have : ∀ r, r < 7 → ∀ h', ZN[r]! = (ndRow Nd0)[r]'h' := by
      intro r hr h'
      match r, hr with
      | 0, _ => rfl
      | 1, _ => rfl
      | 2, _ => rfl
      | 3, _ => rfl
      | 4, _ => rfl
      | 5, _ => rfl
      | 6, _ => rfl
    exact this _ hm _
  · rw [List.getElem?_eq_none (by rw [Array.length_toList, size_madeCells]; omega), List.getElem?_eq_none (by rw [flat_len layN, List.length_replicate]; omega)]
set_option maxHeartbeats 1000000 in
theorem new_any (n : Int) (w : World) : Calls Try.prog 14 #[.int .i64 n] w (NPost (newT n) w) := by
  by_cases h1 : n < 1
  · have HP : Hid (newT n = ([], 2)) := by show _ = _; rw [newT, if_pos (.inl h1)]
    go_enter Try.func14, Try.ntmps14
    go_wp2_with fail
    go_ret2
    rw [HP.out]
    exact ⟨none, 0, rfl, SOwn.nil _ _ _ _, Below.refl _ _⟩
  by_cases h2 : 48 < n
  · have HP : Hid (newT n = ([], 2)) := by show _ = _; rw [newT, if_pos (.inr h2)]
    have h1' : 1 ≤ n := by omega
    clear h1
    go_enter Try.func14, Try.ntmps14
    go_wp2_with fail
    go_ret2
    rw [HP.out]
    exact ⟨none, 0, rfl, SOwn.nil _ _ _ _, Below.refl _ _⟩
  · obtain ⟨k, rfl⟩ : ∃ k : Nat, n = (k : Int) := ⟨n.toNat, by omega⟩
    have HP : Hid (newT (k : Int) = (List.replicate k Nd0, 0)) := by show _ = _; rw [newT, if_neg (by omega), Int.toNat_natCast]
    have hk1 : 1 ≤ k := by omega
    have hk2 : k ≤ 48 := by omega
    clear h1 h2
    obtain ⟨i0, hi, hz0, hz1, hz2⟩ := info_parts nodeInfo
    go_enter Try.func14, Try.ntmps14
    go_wp2_with (refine wpList_make_full _ rfl _ _ 22 rfl w.heap.size 48 i0 _ 7 Try.underlying22 hi hz0 hz1 .i64 .i64 k k k rfl rfl rfl rfl (by rw [hz2]; omega) (by simp [maxLen]; omega) (Nat.le_refl _) ?_; intro w1 ho hg)
    have HL : Hid ((List.replicate k Nd0).length = k) := by show _ = _; simp
    have hoc := OwnC.of_own ho
    rw [made_zero] at hoc
    have b1 : Below w.heap.size w w1 := (Below.refl _ _).grown hg (Nat.le_refl _) (fun j e => by cases e)
    go_ret2
    rw [HP.out]
    unfold NPost
    rw [HL.out]
    exact ⟨_, k, rfl, ⟨HL.out, hoc⟩, b1⟩
structure Nt where
  kd : Int
  nd : Int
  jb : Int
  ep : Int
deriving DecidableEq
def noteT (l : List Nd) (n : Int) : Nt × Bool :=
  if chk l = false then (⟨0, 0, 0, 0⟩, false) else
  match if 0 ≤ n then l[n.toNat]? else none with
  | none => (⟨0, 0, 0, 0⟩, false)
  | some x => if x.wt = 0 then (⟨0, 0, 0, 0⟩, false) else (⟨x.wt, n, x.jb, x.ep⟩, true)
theorem noteT_chk {l : List Nd} {n : Int} (h : chk l = false) : noteT l n = (⟨0, 0, 0, 0⟩, false) := by rw [noteT, if_pos h]
theorem noteT_out {l : List Nd} {n : Int} (h : n < 0 ∨ (l.length : Int) ≤ n) : noteT l n = (⟨0, 0, 0, 0⟩, false) := by
  unfold noteT
  split
  · rfl
  · rcases h with h | h
    · rw [if_neg (by omega)]
    · by_cases h0 : 0 ≤ n
      · rw [if_pos h0, List.getElem?_eq_none (by omega)]
      · rw [if_neg h0]
theorem noteT_at {l : List Nd} {k : Nat} {x : Nd} (hc : chk l = true) (h : l[k]? = some x) : noteT l (k : Int) = if x.wt = 0 then (⟨0, 0, 0, 0⟩, false) else (⟨x.wt, (k : Int), x.jb, x.ep⟩, true) := by
  unfold noteT
  rw [if_neg (by simp [hc]), if_pos (by omega), Int.toNat_natCast, h]
abbrev NoteV (r : Nt × Bool) : Value := .tuple #[.agg #[.int .i64 r.1.kd, .int .i64 r.1.nd, .int .i64 r.1.jb, .int .i64 r.1.ep], .bool r.2]
set_option maxHeartbeats 2000000 in
set_option maxRecDepth 100000 in
theorem note_any (A : Option Addr) (n c : Nat) (l : List Nd) (m : Int) (w : World) (h : Nds w A n l) (hn : n ≤ maxLen) :
    Calls Try.prog 16 #[.slice A n c, .int .i64 m] w (Ret (NoteV (noteT l m)) w) := by
  have hlen := h.len
  subst hlen
  obtain ⟨V, hV⟩ : ∃ V, V = w.alloc (.cells #[.int .i64 0, .int .i64 0, .int .i64 0, .int .i64 0] 31) := ⟨_, rfl⟩
  have bV : Below w.heap.size w V := by rw [hV]; exact (Below.refl _ _).alloc (Nat.le_refl _) _
  have kV : Blk V w.heap.size 31 #[.int .i64 0, .int .i64 0, .int .i64 0, .int .i64 0] := by rw [hV]; exact Blk.new _ _ _
  have HCk := Lib.hid (check_any A l.length c l V (h.below bV) hn)
  cases hck : chk l
  · rw [chkE_no hck] at HCk
    have HP := Lib.hid (noteT_chk (n := m) hck)
    rw [HP.out]
    clear hck h
    go_enter Try.func16, Try.ntmps16
    go_wp2_with fail
    rw [← hV]
    clear hV
    refine HCk.out.mono ?_
    rintro e w1 ⟨rfl, b1⟩
    have k1 := kV.below b1 kV.lt
    obtain ⟨x0, x1, x2, x3⟩ := blk4 k1
    have g0 := k1.frozen 0
    have g1 := k1.frozen 1
    have g2 := k1.frozen 2
    have g3 := k1.frozen 3
    go_wp2_with fail
    obtain ⟨y0, y1, y2, y3⟩ := blk4 ((((k1.set 0 (.int .i64 0)).set 1 (.int .i64 0)).set 2 (.int .i64 0)).set 3 (.int .i64 0))
    refine bodyPost_ret (v := .tuple #[.agg #[.int .i64 0, .int .i64 0, .int .i64 0, .int .i64 0], .bool false]) (by simp [results, Try.results16, go_sem, y0, y1, y2, y3]) rfl ⟨rfl, ?_⟩
    exact below_setCells (g := w.heap.size) (below_step bV b1) (Nat.le_refl _) [.int .i64 0, .int .i64 0, .int .i64 0, .int .i64 0] 0
  rw [chkE_yes hck] at HCk
  have hfew := (chk_iff.1 hck).few
  by_cases h1 : m < 0
  · have HP := Lib.hid (noteT_out (l := l) (.inl h1))
    rw [HP.out]
    clear hck h
    go_enter Try.func16, Try.ntmps16
    go_wp2_with fail
    rw [← hV]
    clear hV
    refine HCk.out.mono ?_
    rintro e w1 ⟨rfl, b1⟩
    have k1 := kV.below b1 kV.lt
    obtain ⟨x0, x1, x2, x3⟩ := blk4 k1
    have g0 := k1.frozen 0
    have g1 := k1.frozen 1
    have g2 := k1.frozen 2
    have g3 := k1.frozen 3
    go_wp2_with fail
    obtain ⟨y0, y1, y2, y3⟩ := blk4 ((((k1.set 0 (.int .i64 0)).set 1 (.int .i64 0)).set 2 (.int .i64 0)).set 3 (.int .i64 0))
    refine bodyPost_ret (v := .tuple #[.agg #[.int .i64 0, .int .i64 0, .int .i64 0, .int .i64 0], .bool false]) (by simp [results, Try.results16, go_sem, y0, y1, y2, y3]) rfl ⟨rfl, ?_⟩
    exact below_setCells (g := w.heap.size) (below_step bV b1) (Nat.le_refl _) [.int .i64 0, .int .i64 0, .int .i64 0, .int .i64 0] 0
  have h1' : 0 ≤ m := by omega
  by_cases h2 : (l.length : Int) ≤ m
  · have HP := Lib.hid (noteT_out (l := l) (.inr h2))
    rw [HP.out]
    clear hck h h1
    go_enter Try.func16, Try.ntmps16
    go_wp2_with fail
    rw [← hV]
    clear hV
    refine HCk.out.mono ?_
    rintro e w1 ⟨rfl, b1⟩
    have k1 := kV.below b1 kV.lt
    obtain ⟨x0, x1, x2, x3⟩ := blk4 k1
    have g0 := k1.frozen 0
    have g1 := k1.frozen 1
    have g2 := k1.frozen 2
    have g3 := k1.frozen 3
    go_wp2_with fail
    obtain ⟨y0, y1, y2, y3⟩ := blk4 ((((k1.set 0 (.int .i64 0)).set 1 (.int .i64 0)).set 2 (.int .i64 0)).set 3 (.int .i64 0))
    refine bodyPost_ret (v := .tuple #[.agg #[.int .i64 0, .int .i64 0, .int .i64 0, .int .i64 0], .bool false]) (by simp [results, Try.results16, go_sem, y0, y1, y2, y3]) rfl ⟨rfl, ?_⟩
    exact below_setCells (g := w.heap.size) (below_step bV b1) (Nat.le_refl _) [.int .i64 0, .int .i64 0, .int .i64 0, .int .i64 0] 0
  obtain ⟨k, rfl⟩ : ∃ k : Nat, m = (k : Int) := ⟨m.toNat, by omega⟩
  have hk : k < l.length := by omega
  have hki : (k : Int) < (l.length : Int) := by omega
  have hk2 : decide (l.length ≤ k) = false := by simp; omega
  have hk3 : ¬ l.length ≤ k := by omega
  clear h1 h1' h2
  obtain ⟨b, off, x, rfl, hb, hx, _⟩ := Lst.seven h hk
  have HP := Lib.hid (noteT_at hck hx)
  have HX := Lib.hid hx
  have HH := Lib.hid h
  clear hck hx h
  by_cases hw : x.wt = 0
  · rw [if_pos hw] at HP
    rw [HP.out]
    have hw1 : (x.wt == 0) = true := by simp [hw]
    clear hw
    go_enter Try.func16, Try.ntmps16
    go_wp2_with fail
    rw [← hV]
    clear hV
    refine HCk.out.mono ?_
    rintro e w1 ⟨rfl, b1⟩
    obtain ⟨b', off', x', e', hb', hx', d0, d1, d2, d3, d4, d5, d6⟩ := Lst.seven (HH.out.below (below_step bV b1)) hk
    injection e' with e'
    injection e' with e1 e2
    subst e1 e2
    rw [HX.out] at hx'
    injection hx' with hx'
    subst hx'
    have k1 := kV.below b1 kV.lt
    obtain ⟨x0, x1, x2, x3⟩ := blk4 k1
    have g0 := k1.frozen 0
    have g1 := k1.frozen 1
    have g2 := k1.frozen 2
    have g3 := k1.frozen 3
    go_wp2_with fail
    clear d0 d1 d2 d3 d4 d5 d6
    obtain ⟨y0, y1, y2, y3⟩ := blk4 ((((k1.set 0 (.int .i64 0)).set 1 (.int .i64 0)).set 2 (.int .i64 0)).set 3 (.int .i64 0))
    refine bodyPost_ret (v := .tuple #[.agg #[.int .i64 0, .int .i64 0, .int .i64 0, .int .i64 0], .bool false]) (by simp [results, Try.results16, go_sem, y0, y1, y2, y3]) rfl ⟨rfl, ?_⟩
    exact below_setCells (g := w.heap.size) (below_step bV b1) (Nat.le_refl _) [.int .i64 0, .int .i64 0, .int .i64 0, .int .i64 0] 0
  · rw [if_neg hw] at HP
    rw [HP.out]
    have hw1 : (x.wt == 0) = false := by simpa using hw
    clear hw
    go_enter Try.func16, Try.ntmps16
    go_wp2_with fail
    rw [← hV]
    clear hV
    refine HCk.out.mono ?_
    rintro e w1 ⟨rfl, b1⟩
    obtain ⟨b', off', x', e', hb', hx', d0, d1, d2, d3, d4, d5, d6⟩ := Lst.seven (HH.out.below (below_step bV b1)) hk
    injection e' with e'
    injection e' with e1 e2
    subst e1 e2
    rw [HX.out] at hx'
    injection hx' with hx'
    subst hx'
    have k1 := kV.below b1 kV.lt
    have hne : w.heap.size ≠ b := by omega
    have hne' : b ≠ w.heap.size := by omega
    obtain ⟨x0, x1, x2, x3⟩ := blk4 k1
    have g0 := k1.frozen 0
    have g1 := k1.frozen 1
    have g2 := k1.frozen 2
    have g3 := k1.frozen 3
    go_wp2_with fail
    go_region
    all_goals go_wp2_with fail
    all_goals clear d0 d1 d2 d3 d4 d5 d6
    obtain ⟨y0, y1, y2, y3⟩ := blk4 ((((k1.set 0 (.int .i64 x.wt)).set 1 (.int .i64 (k : Int))).set 2 (.int .i64 x.jb)).set 3 (.int .i64 x.ep))
    refine bodyPost_ret (v := .tuple #[.agg #[.int .i64 x.wt, .int .i64 (k : Int), .int .i64 x.jb, .int .i64 x.ep], .bool true]) (by simp [results, Try.results16, go_sem, y0, y1, y2, y3]) rfl ⟨rfl, ?_⟩
    exact (below_setCells (g := w.heap.size) (below_step bV b1) (Nat.le_refl _) [.int .i64 x.wt, .int .i64 (k : Int), .int .i64 x.jb, .int .i64 x.ep] 0).drew
end Go.Proofs.Ytdamocjbkdknaaa.FleetW
