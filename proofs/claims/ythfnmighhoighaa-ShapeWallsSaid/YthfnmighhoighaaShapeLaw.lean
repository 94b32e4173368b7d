/-
  ShapeChecks, ShapeTurns: the laws' walks.
-/
import Derived.Test.YthfnmighhoighaaShapeAwake
import Derived.Test.YthfnmighhoighaaShapeOpen
namespace Go.Proofs.Ythfnmighhoighaa.ShapeW
open Go.RowKit Mem Shape
set_option linter.unusedVariables false
set_option linter.unusedSimpArgs false
set_option linter.unnecessarySimpa false

theorem chkE_bd (s : Sh) : 0 ≤ chkE s ∧ chkE s ≤ 70 := by unfold chkE; split <;> omega
/-- a call in the class of worlds that keep what V has -/
abbrev InC (V : World) (v : Value) (e : Ending) (w' : World) : Prop := e = .returned v ∧ Below V.heap.size V w'
theorem InC.of {V w w' : World} {v : Value} {e : Ending} (b : Below V.heap.size V w) (h : Ret v w e w') : InC V v e w' := ⟨h.1, below_step b h.2⟩
abbrev NewAl (l : List Al) (w : World) (e : Ending) (w' : World) : Prop := ∃ A c, e = .returned (.slice A l.length c) ∧ Als w' A l.length l ∧ Below w.heap.size w w'
theorem options_c (A : Option Addr) (n c : Nat) (s : Sh) (w : World) (h : ArgS w A n c s) : Calls Try.prog 16 #[shV A n c s] w (NewAl (optL s) w) := (options_any A n c s w h).mono fun e w' h => by
  obtain ⟨A1, c1, e1, o1, b1⟩ := h
  exact ⟨A1, c1, e1, o1.lst layA, b1⟩
theorem roptions_c (A : Option Addr) (n c : Nat) (s : Sh) (w : World) (h : ArgS w A n c s) : Calls Try.prog 17 #[shV A n c s] w (NewAl (optL s) w) := (roptions_any A n c s w h).mono fun e w' h => by
  obtain ⟨A1, c1, e1, o1, b1⟩ := h
  exact ⟨A1, c1, e1, o1, b1⟩
abbrev NewSh (s : Sh) (w : World) (e : Ending) (w' : World) : Prop := ∃ A c, e = .returned (shV A s.al.length c s) ∧ ArgS w' A s.al.length c s ∧ Below w.heap.size w w'
theorem ArgS.of_own {w : World} {base : Nat} {A : Option Addr} {n c : Nat} {s : Sh} (h : AlsO w base A n c s.al) (hn : n ≤ 1000) : ArgS w A n c s := ⟨h.lst layA, hn, h.2.le, h.2.bare⟩
theorem walls_c (A : Option Addr) (n c : Nat) (s : Sh) (u : Int) (w : World) (h : ArgS w A n c s) : Calls Try.prog 22 #[shV A n c s, .int .i64 u] w (NewSh (wallsT s u) w) := (walls_any A n c s u w h).mono fun e w' k => by
  obtain ⟨A1, c1, e1, o1, b1⟩ := k
  have hl : (wallsT s u).al.length = n := by simp [wallsT, h.st.len]
  exact ⟨A1, c1, e1, ArgS.of_own o1 (by rw [hl]; exact h.few), b1⟩
theorem rwalls_c (A : Option Addr) (n c : Nat) (s : Sh) (u : Int) (w : World) (h : ArgS w A n c s) : Calls Try.prog 24 #[shV A n c s, .int .i64 u] w (NewSh (wallsT s u) w) := (rwalls_any A n c s u w h).mono fun e w' k => by
  obtain ⟨A1, c1, e1, o1, b1⟩ := k
  have hl : (wallsT s u).al.length = n := by simp [wallsT, h.st.len]
  exact ⟨A1, c1, e1, ArgS.of_own o1 (by rw [hl]; exact h.few), b1⟩

set_option maxHeartbeats 4000000 in
set_option maxRecDepth 100000 in
theorem checks_any (A : Option Addr) (n c : Nat) (s : Sh) (W : World) (g : ArgX W A n c s) : Calls Try.prog 3 #[shV A n c s] W (TrueB W) := by
  have hlen := g.st.len
  subst hlen
  obtain ⟨V, hV⟩ : ∃ V, V = W.alloc (shO A s.al.length c s) := ⟨_, rfl⟩
  have bV : Below W.heap.size W V := by rw [hV]; exact (Below.refl _ _).alloc (Nat.le_refl _) _
  have k0 : Blk V W.heap.size 24 #[.int .i64 s.kd, .slice A s.al.length c, .int .i64 s.mn, .int .i64 s.mx, .int .i64 s.wl] := by rw [hV]; exact Blk.new _ _ _
  obtain ⟨x0, x1, x2, x3, x4⟩ := blk5 k0
  have HAw := Lib.hid sawake_any
  by_cases hn : s.al.length ≤ 100
  case neg =>
    have HF := Lib.hid (sfew_is false A s.al.length c s V (by simp; omega))
    clear g
    go_enter Try.func3, Try.ntmps3
    go_wp2_with fail
    rw [← hV]
    clear hV
    refine HF.out.mono ?_
    rintro e w1 ⟨rfl, b1⟩
    go_wp2_with fail
    refine (HAw.out _).mono ?_
    rintro e w2 ⟨rfl, b2⟩
    go_wp2_with fail
    go_ret
    exact ⟨rfl, below_step (below_step bV b1) b2⟩
  have HF := Lib.hid (sfew_is true A s.al.length c s V (by simp; omega))
  have HG := Lib.hid ((g.arg hn).below bV)
  clear g
  go_enter Try.func3, Try.ntmps3
  go_wp2_with fail
  rw [← hV]
  clear hV
  refine HF.out.mono ?_
  rintro e w1 ⟨rfl, b1⟩
  have b01 := below_step bV b1
  have k1 := k0.below b1 k0.lt
  clear x0 x1 x2 x3 x4
  obtain ⟨x0, x1, x2, x3, x4⟩ := blk5 k1
  have HG1 := Lib.hid (HG.out.below b1)
  have HC : Hid (∀ w', Below w1.heap.size w1 w' → Calls Try.prog 13 #[shV A s.al.length c s] w' (InC w1 (.int .i64 (chkE s)))) := fun w' b => (check_any A _ c s w' (HG1.out.below b)).mono fun e w h => InC.of b h
  have HRC : Hid (∀ w', Below w1.heap.size w1 w' → Calls Try.prog 14 #[shV A s.al.length c s] w' (InC w1 (.int .i64 (chkE s)))) := fun w' b => (rcheck_any A _ c s w' (HG1.out.below b)).mono fun e w h => InC.of b h
  have HO : Hid (∀ w', Below w1.heap.size w1 w' → Calls Try.prog 16 #[shV A s.al.length c s] w' (NewAl (optL s) w')) := fun w' b => options_c A _ c s w' (HG1.out.below b)
  have HRO : Hid (∀ w', Below w1.heap.size w1 w' → Calls Try.prog 17 #[shV A s.al.length c s] w' (NewAl (optL s) w')) := fun w' b => roptions_c A _ c s w' (HG1.out.below b)
  have HL : Hid (∀ w', Below w1.heap.size w1 w' → Calls Try.prog 18 #[shV A s.al.length c s] w' (InC w1 (.int .i64 (leastN (optL s))))) := fun w' b => (least_any A _ c s w' (HG1.out.below b)).mono fun e w h => InC.of b h
  have HRL : Hid (∀ w', Below w1.heap.size w1 w' → Calls Try.prog 19 #[shV A s.al.length c s] w' (InC w1 (.int .i64 (leastN (optL s))))) := fun w' b => (rleast_any A _ c s w' (HG1.out.below b)).mono fun e w h => InC.of b h
  have HM : Hid (∀ w', Below w1.heap.size w1 w' → Calls Try.prog 20 #[shV A s.al.length c s] w' (InC w1 (.int .i64 (mostN (optL s))))) := fun w' b => (most_any A _ c s w' (HG1.out.below b)).mono fun e w h => InC.of b h
  have HRM : Hid (∀ w', Below w1.heap.size w1 w' → Calls Try.prog 21 #[shV A s.al.length c s] w' (InC w1 (.int .i64 (mostN (optL s))))) := fun w' b => (rmost_any A _ c s w' (HG1.out.below b)).mono fun e w h => InC.of b h
  obtain ⟨r, hr⟩ : ∃ r, r = chkE s := ⟨_, rfl⟩
  have hbd := chkE_bd s
  rw [← hr] at hbd HC HRC
  obtain ⟨l, hl⟩ : ∃ l, l = optL s := ⟨_, rfl⟩
  have hlf : l.length ≤ 48 := by rw [hl]; exact opt_few
  rw [← hl] at HO HRO HL HRL HM HRM
  obtain ⟨le, hle⟩ : ∃ le, le = leastN l := ⟨_, rfl⟩
  obtain ⟨mo, hmo⟩ : ∃ mo, mo = mostN l := ⟨_, rfl⟩
  rw [← hle] at HL HRL
  rw [← hmo] at HM HRM
  have HSa : Hid (∀ w' A9 c9 A10 c10, Below w1.heap.size w1 w' → Als w' A9 l.length l → Als w' A10 l.length l → Calls Try.prog 15 #[.slice A9 l.length c9, .slice A10 l.length c10] w' (InC w1 (.bool true))) := fun w' A9 c9 A10 c10 b g1 g2 => (rsalts_any A9 A10 _ _ c9 c10 l l w' g1 g2 (by unfold maxLen; omega) (by unfold maxLen; omega)).mono fun e w h => InC.of b (by
    have e1 : decide (l = l) = true := by simp
    rw [e1] at h
    exact h)
  have b0 : Below w1.heap.size w1 w1.drew := below_drewN (Below.refl _ _) 1
  have HSw : Hid (∀ w', Below w1.heap.size w1 w' → w'.cell? ⟨W.heap.size, 0, none⟩ = some (.int .i64 s.kd) ∧ w'.cell? ⟨W.heap.size, 1, none⟩ = some (.slice A s.al.length c) ∧ w'.cell? ⟨W.heap.size, 2, none⟩ = some (.int .i64 s.mn) ∧ w'.cell? ⟨W.heap.size, 3, none⟩ = some (.int .i64 s.mx) ∧ w'.cell? ⟨W.heap.size, 4, none⟩ = some (.int .i64 s.wl)) := fun w' b => blk5 (k1.below b k1.lt)
  clear hr hl hle hmo HG HF k0 k1
  go_wp2_with fail
  go_region_held3 (fun w' => w'.cell? ⟨W.heap.size, 0, none⟩ = some (.int .i64 s.kd) ∧ w'.cell? ⟨W.heap.size, 1, none⟩ = some (.slice A s.al.length c) ∧ w'.cell? ⟨W.heap.size, 2, none⟩ = some (.int .i64 s.mn) ∧ w'.cell? ⟨W.heap.size, 3, none⟩ = some (.int .i64 s.mx) ∧ w'.cell? ⟨W.heap.size, 4, none⟩ = some (.int .i64 s.wl))
    (first | with_reducible exact HSw.out _ b0 | with_reducible exact HSw.out _ b2 | with_reducible exact HSw.out _ b3 | with_reducible exact HSw.out _ b4 | with_reducible exact HSw.out _ b5 | with_reducible exact HSw.out _ b6 | with_reducible exact HSw.out _ b7 | with_reducible exact HSw.out _ b8 | with_reducible exact HSw.out _ b9 | with_reducible exact HSw.out _ b10 | with_reducible exact HSw.out _ b11)
    (first
      | (go_at_call 13; with_reducible refine (HC.out _ ?_).mono ?_; (with_reducible assumption); rintro e w2 ⟨rfl, b2⟩)
      | (go_at_call 14; with_reducible refine (HRC.out _ ?_).mono ?_; (with_reducible assumption); rintro e w3 ⟨rfl, b3⟩)
      | (go_at_call 16; with_reducible refine (HO.out _ ?_).mono ?_; (with_reducible assumption); rintro e w4 ⟨A4, c4, rfl, o4, d4⟩; have b4 : Below w1.heap.size w1 w4 := below_step b3 d4)
      | (go_at_call 17; with_reducible refine (HRO.out _ ?_).mono ?_; (with_reducible assumption); rintro e w5 ⟨A5, c5, rfl, o5, d5⟩; have b5 : Below w1.heap.size w1 w5 := below_step b4 d5)
      | (go_at_call 15; with_reducible refine (HSa.out _ A4 c4 A5 c5 b5 (o4.below d5) o5).mono ?_; rintro e w6 ⟨rfl, b6⟩)
      | (go_at_call 18; with_reducible refine (HL.out _ ?_).mono ?_; (with_reducible assumption); rintro e w7 ⟨rfl, b7⟩)
      | (go_at_call 19; with_reducible refine (HRL.out _ ?_).mono ?_; (with_reducible assumption); rintro e w8 ⟨rfl, b8⟩)
      | (go_at_call 20; with_reducible refine (HM.out _ ?_).mono ?_; (with_reducible assumption); rintro e w9 ⟨rfl, b9⟩)
      | (go_at_call 21; with_reducible refine (HRM.out _ ?_).mono ?_; (with_reducible assumption); rintro e w10 ⟨rfl, b10⟩)
      | (go_at_call 12; with_reducible refine (HAw.out _).mono ?_; rintro e w11 ⟨rfl, d11⟩; have b11 : Below w1.heap.size w1 w11 := below_step b10 d11))
  all_goals go_wp2_with fail
  all_goals go_ret
  all_goals exact ⟨rfl, below_step b01 b11⟩
set_option maxHeartbeats 8000000 in
set_option maxRecDepth 100000 in
theorem turns_any (A B : Option Addr) (n m c d : Nat) (s t : Sh) (u ch z : Int) (W : World) (g : ArgX W A n c s) (f : ArgX W B m d t) : Calls Try.prog 4 #[shV A n c s, shV B m d t, .agg #[.int .i64 u, .int .i64 ch, .int .i64 z]] W (TrueB W) := by
  have hlen := g.st.len
  subst hlen
  have hlen := f.st.len
  subst hlen
  obtain ⟨V, hV⟩ : ∃ V, V = ((W.alloc (shO A s.al.length c s)).alloc (shO B t.al.length d t)).alloc (.cells #[.int .i64 u, .int .i64 ch, .int .i64 z] 32) := ⟨_, rfl⟩
  have bV : Below W.heap.size W V := by rw [hV]; exact (((Below.refl _ _).alloc (Nat.le_refl _) _).alloc (by simp) _).alloc (by simp; omega) _
  have ks0 : Blk V W.heap.size 24 #[.int .i64 s.kd, .slice A s.al.length c, .int .i64 s.mn, .int .i64 s.mx, .int .i64 s.wl] := by rw [hV]; exact ((Blk.new _ _ _).alloc _).alloc _
  have kt0 : Blk V (W.heap.size + 1) 24 #[.int .i64 t.kd, .slice B t.al.length d, .int .i64 t.mn, .int .i64 t.mx, .int .i64 t.wl] := by
    rw [hV]
    have := (Blk.new (W.alloc (shO A s.al.length c s)) 24 #[.int .i64 t.kd, .slice B t.al.length d, .int .i64 t.mn, .int .i64 t.mx, .int .i64 t.wl]).alloc (.cells #[.int .i64 u, .int .i64 ch, .int .i64 z] 32)
    simpa using this
  have kn0 : Blk V (W.heap.size + 1 + 1) 32 #[.int .i64 u, .int .i64 ch, .int .i64 z] := by
    rw [hV]
    have := Blk.new ((W.alloc (shO A s.al.length c s)).alloc (shO B t.al.length d t)) 32 #[.int .i64 u, .int .i64 ch, .int .i64 z]
    simpa using this
  obtain ⟨x0, x1, x2, x3, x4⟩ := blk5 ks0
  have HAw := Lib.hid sawake_any
  by_cases hn : s.al.length ≤ 100
  case neg =>
    have HF := Lib.hid (sfew_is false A s.al.length c s V (by simp; omega))
    clear g f
    go_enter Try.func4, Try.ntmps4
    go_wp2_with fail
    rw [← hV]
    clear hV
    refine HF.out.mono ?_
    rintro e w1 ⟨rfl, b1⟩
    go_wp2_with fail
    refine (HAw.out _).mono ?_
    rintro e w2 ⟨rfl, b2⟩
    go_wp2_with fail
    go_ret
    exact ⟨rfl, below_step (below_step bV b1) b2⟩
  have HF := Lib.hid (sfew_is true A s.al.length c s V (by simp; omega))
  by_cases hn2 : t.al.length ≤ 100
  case neg =>
    have HF2 : Hid (∀ w', Calls Try.prog 11 #[shV B t.al.length d t] w' (Ret (.bool false) w')) := fun w' => sfew_is false B t.al.length d t w' (by simp; omega)
    clear g f
    go_enter Try.func4, Try.ntmps4
    go_wp2_with fail
    rw [← hV]
    clear hV
    refine HF.out.mono ?_
    rintro e w1 ⟨rfl, b1⟩
    obtain ⟨y0, y1, y2, y3, y4⟩ := blk5 (kt0.below b1 kt0.lt)
    go_wp2_with fail
    refine (HF2.out _).mono ?_
    rintro e w2 ⟨rfl, b2⟩
    go_wp2_with fail
    refine (HAw.out _).mono ?_
    rintro e w3 ⟨rfl, b3⟩
    go_wp2_with fail
    go_ret
    exact ⟨rfl, below_step (below_step (below_step bV b1) b2) b3⟩
  have HF2 : Hid (∀ w', Calls Try.prog 11 #[shV B t.al.length d t] w' (Ret (.bool true) w')) := fun w' => sfew_is true B t.al.length d t w' (by simp; omega)
  have HG := Lib.hid ((g.arg hn).below bV)
  have HT := Lib.hid ((f.arg hn2).below bV)
  clear g f
  go_enter Try.func4, Try.ntmps4
  go_wp2_with fail
  rw [← hV]
  clear hV
  refine HF.out.mono ?_
  rintro e w1 ⟨rfl, b1⟩
  have b01 := below_step bV b1
  obtain ⟨y0, y1, y2, y3, y4⟩ := blk5 (kt0.below b1 kt0.lt)
  clear x0 x1 x2 x3 x4
  go_wp2_with fail
  refine (HF2.out _).mono ?_
  rintro e w2 ⟨rfl, b2⟩
  have b12 := below_step b1 b2
  have b02 := below_step bV b12
  clear y0 y1 y2 y3 y4
  have ks2 := ks0.below b12 ks0.lt
  have kt2 := kt0.below b12 kt0.lt
  have kn2 := kn0.below b12 kn0.lt
  obtain ⟨x0, x1, x2, x3, x4⟩ := blk5 ks2
  have n0 := kn2.cell 0
  simp only [List.getElem?_toArray, List.getElem?_cons_zero] at n0
  have HWl := Lib.hid (walls_c A _ c s u w2 (HG.out.below b12))
  have hxl : (wallsT s u).al.length ≤ 100 := by simp [wallsT]; exact hn
  obtain ⟨x, hx⟩ : ∃ x, x = wallsT s u := ⟨_, rfl⟩
  rw [← hx] at HWl hxl
  have Hx := Lib.hid hx
  clear hx ks0 kt0 kn0
  go_wp2_with fail
  refine HWl.out.mono ?_
  rintro e w3 ⟨A3, c3, rfl, o3, b3⟩
  have b03 := below_step b02 b3
  have ks3 := ks2.below b3 ks2.lt
  have kt3 := kt2.below b3 kt2.lt
  have kn3 := kn2.below b3 kn2.lt
  clear x0 x1 x2 x3 x4 n0
  obtain ⟨U, hU⟩ : ∃ U, U = w3.alloc (shO A3 x.al.length c3 x) := ⟨_, rfl⟩
  have bU : Below w3.heap.size w3 U := by rw [hU]; exact (Below.refl _ _).alloc (Nat.le_refl _) _
  have ksU := ks3.below bU ks3.lt
  have ktU := kt3.below bU kt3.lt
  have knU := kn3.below bU kn3.lt
  have kxU : Blk U w3.heap.size 24 #[.int .i64 x.kd, .slice A3 x.al.length c3, .int .i64 x.mn, .int .i64 x.mx, .int .i64 x.wl] := by rw [hU]; exact Blk.new _ _ _
  have b0U := below_step b03 bU
  have HGs := Lib.hid (((HG.out.below b12).below b3).below bU)
  have HGt := Lib.hid (((HT.out.below b12).below b3).below bU)
  have HGx := Lib.hid (o3.below bU)
  have HRW : Hid (∀ w', Below U.heap.size U w' → Calls Try.prog 24 #[shV A s.al.length c s, .int .i64 u] w' (NewSh x w')) := fun w' b => by rw [Hx.out]; exact rwalls_c A _ c s u w' (HGs.out.below b)
  obtain ⟨al, hal⟩ : ∃ al, al = allowsB s ch z := ⟨_, rfl⟩
  have HAl : Hid (∀ w', Below U.heap.size U w' → Calls Try.prog 25 #[shV A s.al.length c s, .int .i64 ch, .int .i64 z] w' (InC U (.bool al))) := fun w' b => by rw [hal]; exact (allows_any A _ c s ch z w' (HGs.out.below b)).mono fun e w h => InC.of b h
  have HRAl : Hid (∀ w', Below U.heap.size U w' → Calls Try.prog 26 #[shV A s.al.length c s, .int .i64 ch, .int .i64 z] w' (InC U (.bool al))) := fun w' b => by rw [hal]; exact (rallows_any A _ c s ch z w' (HGs.out.below b)).mono fun e w h => InC.of b h
  obtain ⟨q1, hq1⟩ : ∃ q1, q1 = decide (s = t) := ⟨_, rfl⟩
  obtain ⟨q2, hq2⟩ : ∃ q2, q2 = decide (s = x) := ⟨_, rfl⟩
  have HS1 : Hid (∀ w', Below U.heap.size U w' → Calls Try.prog 27 #[shV A s.al.length c s, shV B t.al.length d t] w' (InC U (.bool q1))) := fun w' b => by rw [hq1]; exact (same_any A B _ _ c d s t w' (HGs.out.below b) (HGt.out.below b)).mono fun e w h => InC.of b h
  have HS2 : Hid (∀ w', Below U.heap.size U w' → Calls Try.prog 27 #[shV A s.al.length c s, shV A3 x.al.length c3 x] w' (InC U (.bool q2))) := fun w' b => by rw [hq2]; exact (same_any A A3 _ _ c c3 s x w' (HGs.out.below b) (HGx.out.below b)).mono fun e w h => InC.of b h
  have HR1 : Hid (∀ w', Below U.heap.size U w' → Calls Try.prog 23 #[shV A s.al.length c s, shV B t.al.length d t] w' (InC U (.bool q1))) := fun w' b => by rw [hq1]; exact (rsame_any A B _ _ c d s t w' (HGs.out.below b) (HGt.out.below b)).mono fun e w h => InC.of b h
  have HR2 : Hid (∀ w', Below U.heap.size U w' → Calls Try.prog 23 #[shV A s.al.length c s, shV A3 x.al.length c3 x] w' (InC U (.bool q2))) := fun w' b => by rw [hq2]; exact (rsame_any A A3 _ _ c c3 s x w' (HGs.out.below b) (HGx.out.below b)).mono fun e w h => InC.of b h
  have HR3 : Hid (∀ w' A9 c9, Below U.heap.size U w' → ArgS w' A9 x.al.length c9 x → Calls Try.prog 23 #[shV A3 x.al.length c3 x, shV A9 x.al.length c9 x] w' (InC U (.bool true))) := fun w' A9 c9 b g1 => (rsame_any A3 A9 _ _ c3 c9 x x w' (HGx.out.below b) g1).mono fun e w h => InC.of b (by
    have e1 : decide (x = x) = true := by simp
    rw [e1] at h
    exact h)
  have b0 : Below U.heap.size U U.drew := below_drewN (Below.refl _ _) 1
  have HSw : Hid (∀ w', Below U.heap.size U w' → w'.cell? ⟨W.heap.size, 0, none⟩ = some (.int .i64 s.kd) ∧ w'.cell? ⟨W.heap.size, 1, none⟩ = some (.slice A s.al.length c) ∧ w'.cell? ⟨W.heap.size, 2, none⟩ = some (.int .i64 s.mn) ∧ w'.cell? ⟨W.heap.size, 3, none⟩ = some (.int .i64 s.mx) ∧ w'.cell? ⟨W.heap.size, 4, none⟩ = some (.int .i64 s.wl) ∧ w'.cell? ⟨W.heap.size + 1, 0, none⟩ = some (.int .i64 t.kd) ∧ w'.cell? ⟨W.heap.size + 1, 1, none⟩ = some (.slice B t.al.length d) ∧ w'.cell? ⟨W.heap.size + 1, 2, none⟩ = some (.int .i64 t.mn) ∧ w'.cell? ⟨W.heap.size + 1, 3, none⟩ = some (.int .i64 t.mx) ∧ w'.cell? ⟨W.heap.size + 1, 4, none⟩ = some (.int .i64 t.wl) ∧ w'.cell? ⟨W.heap.size + 1 + 1, 0, none⟩ = some (.int .i64 u) ∧ w'.cell? ⟨W.heap.size + 1 + 1, 1, none⟩ = some (.int .i64 ch) ∧ w'.cell? ⟨W.heap.size + 1 + 1, 2, none⟩ = some (.int .i64 z) ∧ w'.cell? ⟨w3.heap.size, 0, none⟩ = some (.int .i64 x.kd) ∧ w'.cell? ⟨w3.heap.size, 1, none⟩ = some (.slice A3 x.al.length c3) ∧ w'.cell? ⟨w3.heap.size, 2, none⟩ = some (.int .i64 x.mn) ∧ w'.cell? ⟨w3.heap.size, 3, none⟩ = some (.int .i64 x.mx) ∧ w'.cell? ⟨w3.heap.size, 4, none⟩ = some (.int .i64 x.wl)) := fun w' b => by
    obtain ⟨s0, s1, s2, s3, s4⟩ := blk5 (ksU.below b ksU.lt)
    obtain ⟨t0, t1, t2, t3, t4⟩ := blk5 (ktU.below b ktU.lt)
    obtain ⟨y0, y1, y2, y3, y4⟩ := blk5 (kxU.below b kxU.lt)
    have kn := knU.below b knU.lt
    exact ⟨s0, s1, s2, s3, s4, t0, t1, t2, t3, t4, kn.cell 0, kn.cell 1, kn.cell 2, y0, y1, y2, y3, y4⟩
  obtain ⟨x0, x1, x2, x3, x4⟩ := blk5 ksU
  obtain ⟨y0, y1, y2, y3, y4⟩ := blk5 ktU
  obtain ⟨z0, z1, z2, z3, z4⟩ := blk5 kxU
  have n0 : U.cell? ⟨W.heap.size + 1 + 1, 0, none⟩ = some (.int .i64 u) := knU.cell 0
  have n1 : U.cell? ⟨W.heap.size + 1 + 1, 1, none⟩ = some (.int .i64 ch) := knU.cell 1
  have n2 : U.cell? ⟨W.heap.size + 1 + 1, 2, none⟩ = some (.int .i64 z) := knU.cell 2
  clear hq1 hq2 hal ks2 kt2 kn2 ks3 kt3 kn3 ksU ktU knU kxU o3 HG HT HF HF2 HWl HGs HGt HGx
  go_upto_region 4 with fail
  rw [← hU]
  clear hU
  go_region_held3 (fun w' => w'.cell? ⟨W.heap.size, 0, none⟩ = some (.int .i64 s.kd) ∧ w'.cell? ⟨W.heap.size, 1, none⟩ = some (.slice A s.al.length c) ∧ w'.cell? ⟨W.heap.size, 2, none⟩ = some (.int .i64 s.mn) ∧ w'.cell? ⟨W.heap.size, 3, none⟩ = some (.int .i64 s.mx) ∧ w'.cell? ⟨W.heap.size, 4, none⟩ = some (.int .i64 s.wl) ∧ w'.cell? ⟨W.heap.size + 1, 0, none⟩ = some (.int .i64 t.kd) ∧ w'.cell? ⟨W.heap.size + 1, 1, none⟩ = some (.slice B t.al.length d) ∧ w'.cell? ⟨W.heap.size + 1, 2, none⟩ = some (.int .i64 t.mn) ∧ w'.cell? ⟨W.heap.size + 1, 3, none⟩ = some (.int .i64 t.mx) ∧ w'.cell? ⟨W.heap.size + 1, 4, none⟩ = some (.int .i64 t.wl) ∧ w'.cell? ⟨W.heap.size + 1 + 1, 0, none⟩ = some (.int .i64 u) ∧ w'.cell? ⟨W.heap.size + 1 + 1, 1, none⟩ = some (.int .i64 ch) ∧ w'.cell? ⟨W.heap.size + 1 + 1, 2, none⟩ = some (.int .i64 z) ∧ w'.cell? ⟨w3.heap.size, 0, none⟩ = some (.int .i64 x.kd) ∧ w'.cell? ⟨w3.heap.size, 1, none⟩ = some (.slice A3 x.al.length c3) ∧ w'.cell? ⟨w3.heap.size, 2, none⟩ = some (.int .i64 x.mn) ∧ w'.cell? ⟨w3.heap.size, 3, none⟩ = some (.int .i64 x.mx) ∧ w'.cell? ⟨w3.heap.size, 4, none⟩ = some (.int .i64 x.wl))
    (first | with_reducible exact HSw.out _ b0 | with_reducible exact HSw.out _ b4 | with_reducible exact HSw.out _ b5 | with_reducible exact HSw.out _ b6 | with_reducible exact HSw.out _ b7 | with_reducible exact HSw.out _ b8 | with_reducible exact HSw.out _ b9 | with_reducible exact HSw.out _ b10 | with_reducible exact HSw.out _ b11 | with_reducible exact HSw.out _ b12)
    (first
      | (go_at_call 24; with_reducible refine (HRW.out _ ?_).mono ?_; (with_reducible assumption); rintro e w4 ⟨A4, c4, rfl, o4, d4⟩; have b4 : Below U.heap.size U w4 := below_step b0 d4)
      | (go_at_call 23; with_reducible refine (HR3.out _ A4 c4 ?_ ?_).mono ?_; (with_reducible exact b4); (with_reducible exact o4); rintro e w5 ⟨rfl, b5⟩)
      | (go_at_call 25; with_reducible refine (HAl.out _ ?_).mono ?_; (with_reducible assumption); rintro e w6 ⟨rfl, b6⟩)
      | (go_at_call 26; with_reducible refine (HRAl.out _ ?_).mono ?_; (with_reducible assumption); rintro e w7 ⟨rfl, b7⟩)
      | (go_at_call 27; with_reducible refine (HS1.out _ ?_).mono ?_; (with_reducible assumption); rintro e w8 ⟨rfl, b8⟩)
      | (go_at_call 23; with_reducible refine (HR1.out _ ?_).mono ?_; (with_reducible assumption); rintro e w9 ⟨rfl, b9⟩)
      | (go_at_call 27; with_reducible refine (HS2.out _ ?_).mono ?_; (with_reducible assumption); rintro e w10 ⟨rfl, b10⟩)
      | (go_at_call 23; with_reducible refine (HR2.out _ ?_).mono ?_; (with_reducible assumption); rintro e w11 ⟨rfl, b11⟩)
      | (go_at_call 12; with_reducible refine (HAw.out _).mono ?_; rintro e w12 ⟨rfl, d12⟩; have b12 : Below U.heap.size U w12 := below_step b11 d12))
  all_goals go_wp2_with fail
  all_goals go_ret
  all_goals exact ⟨rfl, below_step b0U b12⟩
end Go.Proofs.Ythfnmighhoighaa.ShapeW
