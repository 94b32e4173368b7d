/-
  AllocEach: the law's walk.
-/
import Derived.Test.YtdamocjbkdknaaaAllocAwake
import Derived.Test.YtdamocjbkdknaaaAllocREach
import Derived.Test.YtdamocjbkdknaaaFleetOpen
import Derived.Test.YtdamocjbkdknaaaFleetSame
namespace Go.Proofs.Ytdamocjbkdknaaa.FleetW
open Go.RowKit Mem Fleet
set_option linter.unusedVariables false
set_option linter.unusedSimpArgs false
set_option linter.unnecessarySimpa false

set_option maxHeartbeats 2000000 in
set_option maxRecDepth 100000 in
theorem aeach_any (A : Option Addr) (n c : Nat) (l : List Nd) (s : Nat) (a : Ac) (W : World) (h : ArgN W A n c l) (hs : s < 2 ^ 64) :
    Calls Try.prog 8 #[.slice A n c, .int .u64 (s : Int), .agg #[.int .i64 a.nd, .int .i64 a.ac, .int .i64 a.jb, .int .i64 a.nw]] W (TrueB W) := by
  have hl := h.st.len
  subst hl
  have HAw := Lib.hid aawake_any
  obtain ⟨V, hV⟩ : ∃ V, V = W.alloc (.cells #[.int .i64 a.nd, .int .i64 a.ac, .int .i64 a.jb, .int .i64 a.nw] 42) := ⟨_, rfl⟩
  have bV : Below W.heap.size W V := by rw [hV]; exact (Below.refl _ _).alloc (Nat.le_refl _) _
  have kV : Blk V W.heap.size 42 #[.int .i64 a.nd, .int .i64 a.ac, .int .i64 a.jb, .int .i64 a.nw] := by rw [hV]; exact Blk.new _ _ _
  by_cases h1 : l.length ≤ 100
  case neg =>
    have HF := Lib.hid (nfew_is false A l.length c V (by simp; omega))
    clear h
    go_enter Try.func8, Try.ntmps8
    go_wp2_with fail
    rw [← hV]
    clear hV
    refine HF.out.mono ?_
    rintro e w1 ⟨rfl, rfl⟩
    go_wp2_with fail
    refine (HAw.out V).mono ?_
    rintro e w1 ⟨rfl, b1⟩
    go_wp2_with fail
    go_ret
    exact ⟨rfl, below_step bV b1⟩
  have HF := Lib.hid (nfew_is true A l.length c V (by simp; omega))
  have HH := Lib.hid h
  have HDo := Lib.hid (each_any A l.length c l s a.ac a.jb a.nw V (h.st.below bV) h.max h.bare hs)
  have HRDo : Hid (∀ w', Below W.heap.size W w' → Calls Try.prog 33 #[.slice A l.length c, .int .u64 (s : Int), .int .i64 a.ac, .int .i64 a.jb, .int .i64 a.nw] w' (REachPost (eachT l s a.ac a.jb a.nw) w')) := fun w' hb' => reach_any A l.length c l s a.ac a.jb a.nw w' (HH.out.st.below hb') HH.out.max hs
  obtain ⟨r, hr⟩ : ∃ r, r = eachT l s a.ac a.jb a.nw := ⟨_, rfl⟩
  rw [← hr] at HDo HRDo
  clear hr h hs
  obtain ⟨r1, r2, r3⟩ := r
  obtain ⟨x0, x1, x2, x3⟩ := blk4 kV
  go_enter Try.func8, Try.ntmps8
  go_wp2_with fail
  rw [← hV]
  clear hV
  refine HF.out.mono ?_
  rintro e w1 ⟨rfl, rfl⟩
  go_wp2_with fail
  refine HDo.out.mono ?_
  rintro e w1 ⟨A1, c1, B1, d1, rfl, o1, p1, b1⟩
  have b01 := below_step bV b1
  have k1 := kV.below b1 kV.lt
  clear x0 x1 x2 x3
  obtain ⟨x0, x1, x2, x3⟩ := blk4 k1
  have HO1 := Lib.hid o1
  have HP1 := Lib.hid p1
  clear o1 p1
  go_wp2_with fail
  refine (HRDo.out w1 b01).mono ?_
  rintro e w2 ⟨A2, c2, B2, d2, rfl, o2, m2, p2, b2⟩
  have b02 := below_step b01 b2
  have HSm := Lib.hid (rnsame_t A1 A2 _ c1 c2 r1 w2 ((HO1.out.below b2).lst layN) o2 m2)
  have HSt := Lib.hid fun (w3 : World) (b3 : Below w2.heap.size w2 w3) => rtsame_t B1 B2 _ d1 d2 r2 w3 (((HP1.out.below b2).below b3).lst layT) ((p2.below b3).lst layT) (SOwn.max p2)
  have hee : (r3 == r3) = true := by simp
  clear x0 x1 x2 x3 o2 p2
  go_wp2_with fail
  refine HSm.out.mono ?_
  rintro e w3 ⟨rfl, b3⟩
  have b03 := below_step b02 b3
  go_wp2_with fail
  refine (HSt.out w3 b3).mono ?_
  rintro e w4 ⟨rfl, b4⟩
  have b04 := below_step b03 b4
  go_wp2_with fail
  refine (HAw.out _).mono ?_
  rintro e w6 ⟨rfl, b6⟩
  go_wp2_with fail
  go_ret
  exact ⟨rfl, below_step b04 b6⟩
theorem aeach_int (A : Option Addr) (n c : Nat) (l : List Nd) (s : Int) (a : Ac) (W : World) (h : ArgN W A n c l) (hs : 0 ≤ s ∧ s ≤ 18446744073709551615) :
    Calls Try.prog 8 #[.slice A n c, .int .u64 s, .agg #[.int .i64 a.nd, .int .i64 a.ac, .int .i64 a.jb, .int .i64 a.nw]] W (TrueB W) := by
  obtain ⟨k, rfl⟩ : ∃ k : Nat, s = (k : Int) := ⟨s.toNat, by omega⟩
  exact aeach_any A n c l k a W h (by omega)
end Go.Proofs.Ytdamocjbkdknaaa.FleetW
