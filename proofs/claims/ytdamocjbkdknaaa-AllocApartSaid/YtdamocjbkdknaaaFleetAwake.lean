/-
  Contract of musterlaw12: awake.
-/
import Derived.Test.YtdamocjbkdknaaaFleetNew
import Derived.Test.YtdamocjbkdknaaaFleetSame
import Derived.Test.YtdamocjbkdknaaaFleetWhere
namespace Go.Proofs.Ytdamocjbkdknaaa.FleetW
open Go.RowKit Mem Fleet
set_option linter.unusedVariables false
set_option linter.unusedSimpArgs false
set_option linter.unnecessarySimpa false

theorem new_is (r : List Nd) (e : Int) (n : Int) (w : World) (hr : newT n = (r, e)) : Calls Try.prog 14 #[.int .i64 n] w (NPost (r, e) w) := by rw [← hr]; exact new_any n w
theorem do_is (r : List Nd) (e : Int) (A : Option Addr) (n c : Nat) (l : List Nd) (m act job now : Int) (w : World) (h : Nds w A n l) (hn : n ≤ maxLen) (hA : A = none → c = 0) (hr : doT l m act job now = (r, e)) :
    Calls Try.prog 27 #[.slice A n c, .int .i64 m, .int .i64 act, .int .i64 job, .int .i64 now] w (NPost (r, e) w) := by rw [← hr]; exact do_any A n c l m act job now w h hn hA
theorem note_is (r : Nt × Bool) (A : Option Addr) (n c : Nat) (l : List Nd) (m : Int) (w : World) (h : Nds w A n l) (hn : n ≤ maxLen) (hr : noteT l m = r) :
    Calls Try.prog 16 #[.slice A n c, .int .i64 m] w (Ret (NoteV r) w) := by rw [← hr]; exact note_any A n c l m w h hn
theorem free_is (r : Nat) (A : Option Addr) (n c : Nat) (l : List Nd) (w : World) (h : Nds w A n l) (hn : n ≤ maxLen) (hr : whereN freeQ l = r) : Calls Try.prog 21 #[.slice A n c] w (Ret (.int .u64 (r : Int)) w) := by rw [← hr]; exact free_any A n c l w h hn
theorem up_is (r : Nat) (A : Option Addr) (n c : Nat) (l : List Nd) (w : World) (h : Nds w A n l) (hn : n ≤ maxLen) (hr : whereN upQ l = r) : Calls Try.prog 23 #[.slice A n c] w (Ret (.int .u64 (r : Int)) w) := by rw [← hr]; exact up_any A n c l w h hn
theorem fof_is (r : Nat) (A : Option Addr) (n c : Nat) (l : List Nd) (job state : Int) (w : World) (h : Nds w A n l) (hn : n ≤ maxLen) (hr : whereN (ofQ job state) l = r) : Calls Try.prog 25 #[.slice A n c, .int .i64 job, .int .i64 state] w (Ret (.int .u64 (r : Int)) w) := by rw [← hr]; exact fof_any A n c l job state w h hn
theorem nsame_t (A B : Option Addr) (n c d : Nat) (p : List Nd) (w : World) (h : Nds w A n p) (g : Nds w B n p) (hn : n ≤ maxLen) : Calls Try.prog 29 #[.slice A n c, .slice B n d] w (Ret (.bool true) w) := by
  have := nsame_any A B n n c d p p w h g hn hn
  have e : decide (p = p) = true := by simp
  rw [e] at this
  exact this.mono fun e w h => Drew.below h
abbrev NL : List Nd := [⟨0, 0, 0, false, 0, 0, 0⟩, ⟨0, 0, 0, false, 0, 0, 0⟩]
abbrev NM : List Nd := [⟨1, 5, 1, false, 1, 7, 7⟩, ⟨0, 0, 0, false, 0, 0, 0⟩]
set_option maxHeartbeats 2000000 in
set_option maxRecDepth 100000 in
theorem fawake_any (w : World) : Calls Try.prog 13 #[] w fun e w' => e = .returned (.bool true) ∧ Below w.heap.size w w' := by
  go_enter Try.func13, Try.ntmps13
  go_wp2_with fail
  refine (new_is NL 0 2 w (by decide +kernel)).mono ?_
  rintro e w1 ⟨A1, c1, rfl, o1, b1⟩
  go_wp2_with fail
  refine (do_is NM 0 A1 _ c1 NL 0 1 5 7 w1 (o1.lst layN) (SOwn.max o1) o1.2.bare (by decide +kernel)).mono ?_
  rintro e w2 ⟨A2, c2, rfl, o2, b2⟩
  have b02 := below_step b1 b2
  clear o1 b1 b2
  go_wp2_with fail
  refine (do_is [] 120 A2 _ c2 NM 0 1 6 7 w2 (o2.lst layN) (SOwn.max o2) o2.2.bare (by decide +kernel)).mono ?_
  rintro e w3 ⟨A3, c3, rfl, o3, b3⟩
  have HM := Lib.hid (SOwn.max o2)
  have H2 := Lib.hid (o2.lst layN)
  clear o3 o2
  simp only [List.length_cons, List.length_nil, Nat.zero_add] at *
  go_wp2_with fail
  refine (note_is (⟨1, 0, 5, 1⟩, true) A2 2 c2 NM 0 w3 (H2.out.below b3) HM.out (by decide +kernel)).mono ?_
  rintro e w4 ⟨rfl, b4⟩
  have b24 := below_step b3 b4
  obtain ⟨b, off, s, rfl, hbl, hs, d0, d1, d2, d3, d4, d5, d6⟩ := Lst.seven (H2.out.below b24) (show 0 < 2 by omega)
  obtain rfl : s = ⟨1, 5, 1, false, 1, 7, 7⟩ := by simpa using hs.symm
  clear hs b3 b4
  simp only [Nat.zero_mul, Nat.add_zero] at d0 d1 d2 d3 d4 d5 d6
  go_wp2_with fail
  have b4U : Below w4.heap.size w4 (w4.alloc (.cells #[.int .i64 1, .int .i64 0, .int .i64 5, .int .i64 1] 31)) := (Below.refl _ _).alloc (Nat.le_refl _) _
  have b2U := below_step b24 b4U
  refine (free_is 2 _ 2 c2 NM _ (H2.out.below b2U) HM.out (by decide +kernel)).mono ?_
  rintro e w5 ⟨rfl, b5⟩
  have b25 := below_step b2U b5
  clear d0 d1 d2 d3 d4 d5 d6 b4U b5 b2U b24
  go_wp2_with fail
  refine (up_is 3 _ 2 c2 NM w5 (H2.out.below b25) HM.out (by decide +kernel)).mono ?_
  rintro e w6 ⟨rfl, b6⟩
  have b26 := below_step b25 b6
  clear b6 b25
  go_wp2_with fail
  refine (fof_is 1 _ 2 c2 NM 5 1 w6 (H2.out.below b26) HM.out (by decide +kernel)).mono ?_
  rintro e w7 ⟨rfl, b7⟩
  have b27 := below_step b26 b7
  clear b7 b26
  go_wp2_with fail
  refine (check_is 120 none 0 0 [] w7 (Lst.nil _ _ _ _) (by simp [maxLen]) (by decide +kernel)).mono ?_
  rintro e w8 ⟨rfl, b8⟩
  have b28 := below_step b27 b8
  clear b8 b27
  go_wp2_with fail
  refine (nsame_t _ _ 2 c2 c2 NM w8 (H2.out.below b28) (H2.out.below b28) HM.out).mono ?_
  rintro e w9 ⟨rfl, b9⟩
  go_wp2_with fail
  go_ret
  exact ⟨rfl, below_step b02 (below_step b28 b9)⟩
end Go.Proofs.Ytdamocjbkdknaaa.FleetW
