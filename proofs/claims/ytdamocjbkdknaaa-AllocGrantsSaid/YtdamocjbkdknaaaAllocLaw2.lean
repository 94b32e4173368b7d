/-
  AllocGrants: the law's walk.
-/
import Derived.Test.YtdamocjbkdknaaaAllocAwake
import Derived.Test.YtdamocjbkdknaaaAllocRGrant
import Derived.Test.YtdamocjbkdknaaaAllocRQuiet
import Derived.Test.YtdamocjbkdknaaaFleetOpen
import Derived.Test.YtdamocjbkdknaaaFleetSame
namespace Go.Proofs.Ytdamocjbkdknaaa.FleetW
open Go.RowKit Mem Fleet
set_option linter.unusedVariables false
set_option linter.unusedSimpArgs false
set_option linter.unnecessarySimpa false

/-- a call in the class of worlds that keep what V has -/
abbrev InC (V : World) (v : Value) (e : Ending) (w' : World) : Prop := e = .returned v ∧ Below V.heap.size V w'
theorem InC.of {V w w' : World} {v : Value} {e : Ending} (b : Below V.heap.size V w) (h : Ret v w e w') : InC V v e w' := ⟨h.1, below_step b h.2⟩
theorem lit3 (w : World) (x y z : Int) : Ints (w.alloc (.cells #[.int .i64 x, .int .i64 y, .int .i64 z] 3)) (some ⟨w.heap.size, 0, none⟩) 3 [x, y, z] := by
  have h : Blk (w.alloc (.cells #[.int .i64 x, .int .i64 y, .int .i64 z] 3)) w.heap.size 3 #[.int .i64 x, .int .i64 y, .int .i64 z] := Blk.new _ _ _
  exact ints_blk (l := [x, y, z]) h rfl
abbrev NewNts (l : List Nt) (w : World) (e : Ending) (w' : World) : Prop := ∃ A c, e = .returned (.slice A l.length c) ∧ NtsO w' w.heap.size A l.length c l ∧ Below w.heap.size w w'
abbrev X3 (x y z : Int) : Obj := .cells #[.int .i64 x, .int .i64 y, .int .i64 z] 3
theorem lit3a (w : World) (x y z : Int) : Ints ((w.alloc (X3 x y z)).alloc (X3 x y z)) (some ⟨w.heap.size, 0, none⟩) 3 [x, y, z] := (lit3 w x y z).below ((Below.refl _ _).alloc (Nat.le_refl _) _)
theorem lit3b (w : World) (x y z : Int) : Ints ((w.alloc (X3 x y z)).alloc (X3 x y z)) (some ⟨w.heap.size + 1, 0, none⟩) 3 [x, y, z] := by
  have := lit3 (w.alloc (X3 x y z)) x y z
  simpa using this
theorem two_alloc {V w : World} {o p : Obj} (b : Below V.heap.size V w) : Below V.heap.size V ((w.alloc o).alloc p) := (b.alloc b.size _).alloc (b.alloc b.size _).size _
theorem one_alloc {V w : World} {o : Obj} (b : Below V.heap.size V w) : Below V.heap.size V (w.alloc o) := b.alloc b.size _
set_option maxHeartbeats 8000000 in
set_option maxRecDepth 100000 in
theorem agrants_any (A : Option Addr) (n c : Nat) (l : List Nd) (s : Nat) (a : Ac) (W : World) (h : ArgN W A n c l) (hs : s < 2 ^ 64) :
    Calls Try.prog 9 #[.slice A n c, .int .u64 (s : Int), .agg #[.int .i64 a.nd, .int .i64 a.ac, .int .i64 a.jb, .int .i64 a.nw]] W (TrueB W) := by
  have hl := h.st.len
  subst hl
  have HAw := Lib.hid aawake_any
  obtain ⟨V, hV⟩ : ∃ V, V = W.alloc (.cells #[.int .i64 a.nd, .int .i64 a.ac, .int .i64 a.jb, .int .i64 a.nw] 42) := ⟨_, rfl⟩
  have bV : Below W.heap.size W V := by rw [hV]; exact (Below.refl _ _).alloc (Nat.le_refl _) _
  have kV : Blk V W.heap.size 42 #[.int .i64 a.nd, .int .i64 a.ac, .int .i64 a.jb, .int .i64 a.nw] := by rw [hV]; exact Blk.new _ _ _
  by_cases h1 : l.length ≤ 100
  case neg =>
    have HF := Lib.hid (nfew_is false A l.length c V (by simp; omega))
    clear h
    go_enter Try.func9, Try.ntmps9
    go_wp2_with fail
    rw [← hV]
    clear hV
    refine HF.out.mono ?_
    rintro e w1 ⟨rfl, rfl⟩
    go_wp2_with fail
    refine (HAw.out V).mono ?_
    rintro e w1 ⟨rfl, b1⟩
    go_wp2_with fail
    go_ret
    exact ⟨rfl, below_step bV b1⟩
  have HF := Lib.hid (nfew_is true A l.length c V (by simp; omega))
  have HH := Lib.hid h
  have HDo := Lib.hid (grant_any A l.length c l a.nd a.ac a.jb a.nw V (h.st.below bV) h.max h.bare)
  have HRDo : Hid (∀ w', Below W.heap.size W w' → Calls Try.prog 36 #[.slice A l.length c, .int .i64 a.nd, .int .i64 a.ac, .int .i64 a.jb, .int .i64 a.nw] w' (RGrantPost (grantT l a.nd a.ac a.jb a.nw) w')) := fun w' hb' => rgrant_any A l.length c l a.nd a.ac a.jb a.nw w' (HH.out.st.below hb') HH.out.max
  obtain ⟨r, hr⟩ : ∃ r, r = grantT l a.nd a.ac a.jb a.nw := ⟨_, rfl⟩
  rw [← hr] at HDo HRDo
  clear hr h
  obtain ⟨r1, r2, r3, r4⟩ := r
  obtain ⟨x0, x1, x2, x3⟩ := blk4 kV
  go_enter Try.func9, Try.ntmps9
  go_wp2_with fail
  rw [← hV]
  clear hV
  refine HF.out.mono ?_
  rintro e w1 ⟨rfl, rfl⟩
  go_wp2_with fail
  refine HDo.out.mono ?_
  rintro e w1 ⟨A1, c1, B1, d1, rfl, o1, p1, b1⟩
  have b01 := below_step bV b1
  have k1 := kV.below b1 kV.lt
  clear x0 x1 x2 x3
  obtain ⟨x0, x1, x2, x3⟩ := blk4 k1
  have HO1 := Lib.hid o1
  have HP1 := Lib.hid p1
  clear o1 p1
  go_wp2_with fail
  refine (HRDo.out w1 b01).mono ?_
  rintro e w2 ⟨A2, c2, B2, d2, rfl, o2, m2, p2, b2⟩
  have b02 := below_step b01 b2
  have k2 := k1.below b2 k1.lt
  have HSm : Hid (∀ w', Below w2.heap.size w2 w' → Calls Try.prog 18 #[.slice A1 r1.length c1, .slice A2 r1.length c2] w' (InC w2 (.bool true))) := fun w' b => (rnsame_t A1 A2 _ c1 c2 r1 w' (((HO1.out.below b2).below b).lst layN) (o2.below b) m2).mono fun e w h => InC.of b h
  have HSt : Hid (∀ w', Below w2.heap.size w2 w' → Calls Try.prog 34 #[.slice B1 r3.length d1, .slice B2 r3.length d2] w' (InC w2 (.bool true))) := fun w' b => (rtsame_t B1 B2 _ d1 d2 r3 w' (((HP1.out.below b2).below b).lst layT) ((p2.below b).lst layT) (SOwn.max p2)).mono fun e w h => InC.of b h
  have HL2 := Lib.hid (HH.out.st.below b02)
  have HHe : Hid (∀ w', Below w2.heap.size w2 w' → Calls Try.prog 37 #[.slice A l.length c, .int .i64 a.jb] w' (InC w2 (.int .u64 (heldN l a.jb : Int)))) := fun w' b => (held_any A l.length c l a.jb w' (HL2.out.below b) HH.out.max).mono fun e w h => InC.of b h
  have HRHe : Hid (∀ w', Below w2.heap.size w2 w' → Calls Try.prog 38 #[.slice A l.length c, .int .i64 a.jb] w' (InC w2 (.int .u64 (heldN l a.jb : Int)))) := fun w' b => (rheld_any A l.length c l a.jb w' (HL2.out.below b) HH.out.max).mono fun e w h => InC.of b h
  have HQ : Hid (∀ w', Below w2.heap.size w2 w' → Calls Try.prog 39 #[.slice A l.length c, .int .u64 (s : Int)] w' (InC w2 (.bool (quietB l s)))) := fun w' b => (quiet_any A l.length c l s w' (HL2.out.below b) HH.out.max hs).mono fun e w h => InC.of b h
  have HRQ : Hid (∀ w', Below w2.heap.size w2 w' → Calls Try.prog 40 #[.slice A l.length c, .int .u64 (s : Int)] w' (InC w2 (.bool (quietB l s)))) := fun w' b => (rquiet_any A l.length c l s w' (HL2.out.below b) HH.out.max hs).mono fun e w h => InC.of b h
  have HNo : Hid (∀ w' I, Below w2.heap.size w2 w' → Ints w' I 3 [a.nd, a.ac, a.jb] → Calls Try.prog 41 #[.slice A l.length c, .slice I 3 3] w' (NewNts (notesT l [a.nd, a.ac, a.jb]) w')) := fun w' I b g => notes_any A l.length c l I 3 3 _ w' (HL2.out.below b) HH.out.max g (by omega)
  have HRNo : Hid (∀ w' I, Below w2.heap.size w2 w' → Ints w' I 3 [a.nd, a.ac, a.jb] → Calls Try.prog 42 #[.slice A l.length c, .slice I 3 3] w' (NewNts (notesT l [a.nd, a.ac, a.jb]) w')) := fun w' I b g => rnotes_any A l.length c l I 3 3 _ w' (HL2.out.below b) HH.out.max g (by omega)
  obtain ⟨ns, hns⟩ : ∃ ns, ns = notesT l [a.nd, a.ac, a.jb] := ⟨_, rfl⟩
  obtain ⟨q, hq⟩ : ∃ q, q = quietB l s := ⟨_, rfl⟩
  obtain ⟨hd, hhd⟩ : ∃ hd, hd = heldN l a.jb := ⟨_, rfl⟩
  rw [← hns] at HNo HRNo
  rw [← hq] at HQ HRQ
  rw [← hhd] at HHe HRHe
  have HSn : Hid (∀ w' A9 c9 A10 c10, Below w2.heap.size w2 w' → Nts w' A9 ns.length ns → Nts w' A10 ns.length ns → ns.length ≤ maxLen → Calls Try.prog 34 #[.slice A9 ns.length c9, .slice A10 ns.length c10] w' (InC w2 (.bool true))) := fun w' A9 c9 A10 c10 b g1 g2 m => (rtsame_t A9 A10 _ c9 c10 ns w' g1 g2 m).mono fun e w h => InC.of b h
  have b0 : Below w2.heap.size w2 w2.drew := below_drewN (Below.refl _ _) 1
  have HSw : Hid (∀ w', Below w2.heap.size w2 w' → w'.cell? ⟨W.heap.size, 0, none⟩ = some (.int .i64 a.nd) ∧ w'.cell? ⟨W.heap.size, 1, none⟩ = some (.int .i64 a.ac) ∧ w'.cell? ⟨W.heap.size, 2, none⟩ = some (.int .i64 a.jb)) := fun w' b => by
    obtain ⟨y0, y1, y2, y3⟩ := blk4 (k2.below b k2.lt)
    exact ⟨y0, y1, y2⟩
  obtain ⟨x0, x1, x2, x3⟩ := blk4 k2
  clear o2 p2 hns hq hhd kV k1 k2 hs
  go_wp2_with fail
  go_region_held3 (fun w' => w'.cell? ⟨W.heap.size, 0, none⟩ = some (.int .i64 a.nd) ∧ w'.cell? ⟨W.heap.size, 1, none⟩ = some (.int .i64 a.ac) ∧ w'.cell? ⟨W.heap.size, 2, none⟩ = some (.int .i64 a.jb))
    (first | with_reducible exact HSw.out _ b0 | with_reducible exact HSw.out _ b3 | with_reducible exact HSw.out _ b4 | with_reducible exact HSw.out _ b5 | with_reducible exact HSw.out _ b6 | with_reducible exact HSw.out _ b7 | with_reducible exact HSw.out _ b8 | with_reducible exact HSw.out _ (one_alloc b8) | with_reducible exact HSw.out _ (two_alloc b8) | with_reducible exact HSw.out _ b9 | with_reducible exact HSw.out _ (one_alloc b9) | with_reducible exact HSw.out _ b10 | with_reducible exact HSw.out _ b11 | with_reducible exact HSw.out _ b12)
    (first
      | (go_at_call 18; with_reducible refine (HSm.out _ ?_).mono ?_; (with_reducible assumption); rintro e w3 ⟨rfl, b3⟩)
      | (go_at_call 34; with_reducible refine (HSt.out _ ?_).mono ?_; (with_reducible assumption); rintro e w4 ⟨rfl, b4⟩)
      | (go_at_call 37; with_reducible refine (HHe.out _ ?_).mono ?_; (with_reducible assumption); rintro e w5 ⟨rfl, b5⟩)
      | (go_at_call 38; with_reducible refine (HRHe.out _ ?_).mono ?_; (with_reducible assumption); rintro e w6 ⟨rfl, b6⟩)
      | (go_at_call 39; with_reducible refine (HQ.out _ ?_).mono ?_; (with_reducible assumption); rintro e w7 ⟨rfl, b7⟩)
      | (go_at_call 40; with_reducible refine (HRQ.out _ ?_).mono ?_; (with_reducible assumption); rintro e w8 ⟨rfl, b8⟩)
      | (go_at_call 41; with_reducible refine (HNo.out _ _ ?_ ?_).mono ?_; (first | with_reducible exact one_alloc b8 | with_reducible exact two_alloc b8); (first | with_reducible exact lit3 w8 _ _ _ | with_reducible exact lit3a w8 _ _ _ | with_reducible exact lit3b w8 _ _ _); rintro e w9 ⟨A9, c9, rfl, o9, d9⟩; have b9 : Below w2.heap.size w2 w9 := (by first | with_reducible exact below_step (one_alloc b8) d9 | with_reducible exact below_step (two_alloc b8) d9))
      | (go_at_call 42; with_reducible refine (HRNo.out _ _ ?_ ?_).mono ?_; (first | with_reducible exact b9 | with_reducible exact one_alloc b9); (first | with_reducible exact lit3 w9 _ _ _ | with_reducible exact (lit3a w8 _ _ _).below d9 | with_reducible exact (lit3b w8 _ _ _).below d9); rintro e w10 ⟨A10, c10, rfl, o10, d10⟩; have b10 : Below w2.heap.size w2 w10 := (by first | with_reducible exact below_step b9 d10 | with_reducible exact below_step (one_alloc b9) d10))
      | (go_at_call 34; with_reducible refine (HSn.out _ A9 c9 A10 c10 b10 ?_ ?_ ?_).mono ?_; (first | with_reducible exact (o9.below d10).lst layT | with_reducible exact ((o9.below ((Below.refl _ _).alloc (Nat.le_refl _) _)).below d10).lst layT); (with_reducible exact o10.lst layT); (with_reducible exact SOwn.max o10); rintro e w11 ⟨rfl, b11⟩)
      | (go_at_call 31; with_reducible refine (HAw.out _).mono ?_; rintro e w12 ⟨rfl, d12⟩; have b12 : Below w2.heap.size w2 w12 := below_step b11 d12))
  all_goals go_wp2_with fail
  all_goals go_ret
  all_goals exact ⟨rfl, below_step b02 b12⟩
theorem agrants_int (A : Option Addr) (n c : Nat) (l : List Nd) (s : Int) (a : Ac) (W : World) (h : ArgN W A n c l) (hs : 0 ≤ s ∧ s ≤ 18446744073709551615) :
    Calls Try.prog 9 #[.slice A n c, .int .u64 s, .agg #[.int .i64 a.nd, .int .i64 a.ac, .int .i64 a.jb, .int .i64 a.nw]] W (TrueB W) := by
  obtain ⟨k, rfl⟩ : ∃ k : Nat, s = (k : Int) := ⟨s.toNat, by omega⟩
  exact agrants_any A n c l k a W h (by omega)
end Go.Proofs.Ytdamocjbkdknaaa.FleetW
