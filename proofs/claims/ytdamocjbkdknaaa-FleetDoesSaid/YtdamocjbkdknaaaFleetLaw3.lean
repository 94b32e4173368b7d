/-
  FleetDoes: the law's walk.
-/
import Derived.Test.YtdamocjbkdknaaaFleetAwake
import Derived.Test.YtdamocjbkdknaaaFleetOpen
import Derived.Test.YtdamocjbkdknaaaFleetRDo
namespace Go.Proofs.Ytdamocjbkdknaaa.FleetW
open Go.RowKit Mem Fleet
set_option linter.unusedVariables false
set_option linter.unusedSimpArgs false
set_option linter.unnecessarySimpa false

set_option maxHeartbeats 2000000 in
set_option maxRecDepth 100000 in
theorem does_any (A : Option Addr) (n c : Nat) (l : List Nd) (a : Ac) (B : Option Addr) (m d : Nat) (p : List Nd) (W : World) (h : ArgN W A n c l) (g : ArgN W B m d p) :
    Calls Try.prog 4 #[.slice A n c, .agg #[.int .i64 a.nd, .int .i64 a.ac, .int .i64 a.jb, .int .i64 a.nw], .slice B m d] W (TrueB W) := by
  have hl := h.st.len
  have hk := g.st.len
  subst hl hk
  have HAw := Lib.hid fawake_any
  obtain ⟨V, hV⟩ : ∃ V, V = W.alloc (.cells #[.int .i64 a.nd, .int .i64 a.ac, .int .i64 a.jb, .int .i64 a.nw] 42) := ⟨_, rfl⟩
  have bV : Below W.heap.size W V := by rw [hV]; exact (Below.refl _ _).alloc (Nat.le_refl _) _
  have kV : Blk V W.heap.size 42 #[.int .i64 a.nd, .int .i64 a.ac, .int .i64 a.jb, .int .i64 a.nw] := by rw [hV]; exact Blk.new _ _ _
  by_cases h1 : l.length ≤ 100
  case neg =>
    have HF := Lib.hid (nfew_is false A l.length c V (by simp; omega))
    clear h g
    go_enter Try.func4, Try.ntmps4
    go_wp2_with fail
    rw [← hV]
    clear hV
    refine HF.out.mono ?_
    rintro e w1 ⟨rfl, rfl⟩
    go_wp2_with fail
    refine (HAw.out V).mono ?_
    rintro e w1 ⟨rfl, b1⟩
    go_wp2_with fail
    go_ret
    exact ⟨rfl, below_step bV b1⟩
  have HF := Lib.hid (nfew_is true A l.length c V (by simp; omega))
  by_cases h2 : p.length ≤ 100
  case neg =>
    have HF2 := Lib.hid (nfew_is false B p.length d V (by simp; omega))
    clear h g
    go_enter Try.func4, Try.ntmps4
    go_wp2_with fail
    rw [← hV]
    clear hV
    refine HF.out.mono ?_
    rintro e w1 ⟨rfl, rfl⟩
    go_wp2_with fail
    refine HF2.out.mono ?_
    rintro e w1 ⟨rfl, rfl⟩
    go_wp2_with fail
    refine (HAw.out V).mono ?_
    rintro e w1 ⟨rfl, b1⟩
    go_wp2_with fail
    go_ret
    exact ⟨rfl, below_step bV b1⟩
  have HF2 := Lib.hid (nfew_is true B p.length d V (by simp; omega))
  have HH := Lib.hid h
  have HG := Lib.hid g
  have HDo := Lib.hid (do_any A l.length c l a.nd a.ac a.jb a.nw V (h.st.below bV) h.max h.bare)
  have HRDo : Hid (∀ w', Below W.heap.size W w' → Calls Try.prog 28 #[.slice A l.length c, .int .i64 a.nd, .int .i64 a.ac, .int .i64 a.jb, .int .i64 a.nw] w' (NPost (doT l a.nd a.ac a.jb a.nw) w')) := fun w' hb' => rdo_any A l.length c l a.nd a.ac a.jb a.nw w' (HH.out.st.below hb') HH.out.max
  obtain ⟨r, hr⟩ : ∃ r, r = doT l a.nd a.ac a.jb a.nw := ⟨_, rfl⟩
  rw [← hr] at HDo HRDo
  clear hr h g
  obtain ⟨x0, x1, x2, x3⟩ := blk4 kV
  go_enter Try.func4, Try.ntmps4
  go_wp2_with fail
  rw [← hV]
  clear hV
  refine HF.out.mono ?_
  rintro e w1 ⟨rfl, rfl⟩
  go_wp2_with fail
  refine HF2.out.mono ?_
  rintro e w1 ⟨rfl, rfl⟩
  go_wp2_with fail
  refine HDo.out.mono ?_
  rintro e w1 ⟨A1, c1, rfl, o1, b1⟩
  have b01 := below_step bV b1
  have k1 := kV.below b1 kV.lt
  clear x0 x1 x2 x3
  obtain ⟨x0, x1, x2, x3⟩ := blk4 k1
  have HO1 := Lib.hid o1
  clear o1
  go_wp2_with fail
  refine (HRDo.out w1 b01).mono ?_
  rintro e w2 ⟨A2, c2, rfl, o2, b2⟩
  have b02 := below_step b01 b2
  have HSm := Lib.hid (rnsame_t A1 A2 _ c1 c2 r.1 w2 ((HO1.out.below b2).lst layN) (o2.lst layN) (SOwn.max HO1.out))
  have hee : (r.2 == r.2) = true := by simp
  clear x0 x1 x2 x3 o2
  go_wp2_with fail
  refine HSm.out.mono ?_
  rintro e w3 ⟨rfl, b3⟩
  have b03 := below_step b02 b3
  have HS1 := Lib.hid (nsame_any A B l.length p.length c d l p _ (HH.out.st.below b03) (HG.out.st.below b03) HH.out.max HG.out.max)
  go_wp2_with fail
  refine (HS1.out.mono fun e w h => Drew.below h).mono ?_
  rintro e w4 ⟨rfl, b4⟩
  have b04 := below_step b03 b4
  have HS2 := Lib.hid (rnsame_any A B l.length p.length c d l p _ (HH.out.st.below b04) (HG.out.st.below b04) HH.out.max HG.out.max)
  generalize decide (l = p) = z at HS2 ⊢
  have hzz : (z == z) = true := by simp
  go_wp2_with fail
  refine (HS2.out.mono fun e w h => Drew.below h).mono ?_
  rintro e w5 ⟨rfl, b5⟩
  have b05 := below_step b04 b5
  go_wp2_with fail
  refine (HAw.out _).mono ?_
  rintro e w6 ⟨rfl, b6⟩
  go_wp2_with fail
  go_ret
  exact ⟨rfl, below_step b05 b6⟩
end Go.Proofs.Ytdamocjbkdknaaa.FleetW
