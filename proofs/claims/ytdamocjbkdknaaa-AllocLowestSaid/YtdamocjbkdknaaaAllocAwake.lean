/-
  Contract of musterlaw13: awake.
-/
import Derived.Test.YtdamocjbkdknaaaAllocHeld
import Derived.Test.YtdamocjbkdknaaaAllocSame
import Derived.Test.YtdamocjbkdknaaaFleetNew
namespace Go.Proofs.Ytdamocjbkdknaaa.FleetW
open Go.RowKit Mem Fleet
set_option linter.unusedVariables false
set_option linter.unusedSimpArgs false
set_option linter.unnecessarySimpa false

theorem grant_is (r : List Nd × Nat × List Nt × Int) (A : Option Addr) (n c : Nat) (l : List Nd) (nodes act job now : Int) (w : World) (h : Nds w A n l) (hn : n ≤ maxLen) (hA : A = none → c = 0) (hr : grantT l nodes act job now = r) :
    Calls Try.prog 35 #[.slice A n c, .int .i64 nodes, .int .i64 act, .int .i64 job, .int .i64 now] w (GrantPost r w) := by rw [← hr]; exact grant_any A n c l nodes act job now w h hn hA
theorem each_is (r : List Nd × List Nt × Int) (A : Option Addr) (n c : Nat) (l : List Nd) (s : Nat) (act job now : Int) (w : World) (h : Nds w A n l) (hn : n ≤ maxLen) (hA : A = none → c = 0) (hs : s < 2 ^ 64) (hr : eachT l s act job now = r) :
    Calls Try.prog 32 #[.slice A n c, .int .u64 (s : Int), .int .i64 act, .int .i64 job, .int .i64 now] w (EachPost r w) := by rw [← hr]; exact each_any A n c l s act job now w h hn hA hs
theorem quiet_is (r : Bool) (A : Option Addr) (n c : Nat) (l : List Nd) (s : Nat) (w : World) (h : Nds w A n l) (hn : n ≤ maxLen) (hs : s < 2 ^ 64) (hr : quietB l s = r) :
    Calls Try.prog 39 #[.slice A n c, .int .u64 (s : Int)] w (Ret (.bool r) w) := by rw [← hr]; exact quiet_any A n c l s w h hn hs
theorem held_is (r : Nat) (A : Option Addr) (n c : Nat) (l : List Nd) (job : Int) (w : World) (h : Nds w A n l) (hn : n ≤ maxLen) (hr : heldN l job = r) :
    Calls Try.prog 37 #[.slice A n c, .int .i64 job] w (Ret (.int .u64 (r : Int)) w) := by rw [← hr]; exact held_any A n c l job w h hn
theorem notes_is (r : List Nt) (A : Option Addr) (n c : Nat) (l : List Nd) (I : Option Addr) (m d : Nat) (nodes : List Int) (w : World) (h : Nds w A n l) (hn : n ≤ maxLen) (g : Ints w I m nodes) (hm : m ≤ 1000) (hr : notesT l nodes = r) :
    Calls Try.prog 41 #[.slice A n c, .slice I m d] w (NewT r w) := by rw [← hr]; exact notes_any A n c l I m d nodes w h hn g hm
abbrev Z4 : List Nd := [⟨0, 0, 0, false, 0, 0, 0⟩, ⟨0, 0, 0, false, 0, 0, 0⟩, ⟨0, 0, 0, false, 0, 0, 0⟩, ⟨0, 0, 0, false, 0, 0, 0⟩]
abbrev M4 : List Nd := [⟨1, 5, 1, false, 1, 7, 7⟩, ⟨1, 5, 1, false, 1, 7, 7⟩, ⟨0, 0, 0, false, 0, 0, 0⟩, ⟨0, 0, 0, false, 0, 0, 0⟩]
abbrev K4 : List Nd := [⟨1, 5, 1, false, 0, 7, 7⟩, ⟨1, 5, 1, false, 0, 7, 7⟩, ⟨0, 0, 0, false, 0, 0, 0⟩, ⟨0, 0, 0, false, 0, 0, 0⟩]
abbrev T2 : List Nt := [⟨1, 0, 5, 1⟩, ⟨1, 1, 5, 1⟩]
theorem aw1 : grantT Z4 2 1 5 7 = (M4, 3, T2, 0) := by decide +kernel
theorem aw2 : grantT M4 3 1 6 7 = ([], 0, [], 130) := by decide +kernel
theorem aw3 : eachT M4 3 4 0 8 = (K4, [], 0) := by decide +kernel
theorem aw4 : quietB K4 3 = true := by decide +kernel
theorem aw5 : quietB M4 3 = false := by decide +kernel
theorem aw6 : heldN M4 5 = 3 := by decide +kernel
theorem aw7 : notesT M4 [0, 3] = [⟨1, 0, 5, 1⟩] := by decide +kernel
set_option maxHeartbeats 4000000 in
set_option maxRecDepth 100000 in
theorem aawake_any (w : World) : Calls Try.prog 31 #[] w fun e w' => e = .returned (.bool true) ∧ Below w.heap.size w w' := by
  obtain ⟨i0, hi, hz0, hz1, hz2⟩ := info_parts nodeInfo
  go_enter Try.func31, Try.ntmps31
  go_wp2_with (refine wpList_make_full _ rfl _ _ 22 rfl w.heap.size 48 i0 _ 7 Try.underlying22 hi hz0 hz1 .i64 .i64 4 4 4 rfl rfl rfl rfl (by rw [hz2]; omega) (by simp [maxLen]) (Nat.le_refl _) ?_; intro w1 ho hg)
  have hoc := OwnC.of_own ho
  rw [made_zero] at hoc
  have b1 : Below w.heap.size w w1 := (Below.refl _ _).grown hg (Nat.le_refl _) (fun j e => by cases e)
  have o1 : NdsO w1 w.heap.size _ 4 4 Z4 := ⟨rfl, hoc⟩
  clear ho hoc hg
  refine (grant_is (M4, 3, T2, 0) _ 4 4 Z4 2 1 5 7 w1 (o1.lst layN) (SOwn.max o1) o1.2.bare aw1).mono ?_
  rintro e w2 ⟨A2, c2, B2, d2, rfl, o2, p2, b2⟩
  have b02 := below_step b1 b2
  clear o1 b1 b2
  simp only [List.length_cons, List.length_nil, Nat.zero_add] at *
  have HM := Lib.hid (SOwn.max o2)
  have H2 := Lib.hid (o2.lst layN)
  have HB := Lib.hid o2.2.bare
  have HP2 := Lib.hid (p2.lst layT)
  clear o2 p2
  go_wp2_with fail
  refine (grant_is ([], 0, [], 130) A2 4 c2 M4 3 1 6 7 w2 H2.out HM.out HB.out aw2).mono ?_
  rintro e w3 ⟨A3, c3, B3, d3, rfl, o3, p3, b3⟩
  clear o3 p3
  simp only [List.length_nil]
  go_wp2_with fail
  refine (each_is (K4, [], 0) A2 4 c2 M4 3 4 0 8 w3 (H2.out.below b3) HM.out HB.out (by omega) aw3).mono ?_
  rintro e w4 ⟨A4, c4, B4, d4, rfl, o4, p4, b4⟩
  have b24 := below_step b3 b4
  simp only [List.length_cons, List.length_nil, Nat.zero_add] at *
  have HM4 := Lib.hid (SOwn.max o4)
  have H4 := Lib.hid (o4.lst layN)
  clear o4 p4 b3 b4
  obtain ⟨b, off, s, rfl, hbl, hs, q0, q1, q2, q3⟩ := Lst.note (HP2.out.below b24) (show 1 < 2 by omega)
  obtain rfl : s = ⟨1, 1, 5, 1⟩ := by simpa using hs.symm
  clear hs q0 q2 q3
  simp only [Nat.one_mul] at q1
  go_wp2_with fail
  refine (quiet_is true A4 4 c4 K4 3 w4 H4.out HM4.out (by omega) aw4).mono ?_
  rintro e w5 ⟨rfl, b5⟩
  have b25 := below_step b24 b5
  clear q1 b5 b24
  go_wp2_with fail
  refine (quiet_is false A2 4 c2 M4 3 w5 (H2.out.below b25) HM.out (by omega) aw5).mono ?_
  rintro e w6 ⟨rfl, b6⟩
  have b26 := below_step b25 b6
  clear b6 b25
  go_wp2_with fail
  refine (held_is 3 A2 4 c2 M4 5 w6 (H2.out.below b26) HM.out aw6).mono ?_
  rintro e w7 ⟨rfl, b7⟩
  have b27 := below_step b26 b7
  clear b7 b26
  obtain ⟨U, hU⟩ : ∃ U, U = w7.alloc (.cells #[.int .i64 0, .int .i64 3] 3) := ⟨_, rfl⟩
  have bU : Below w7.heap.size w7 U := by rw [hU]; exact (Below.refl _ _).alloc (Nat.le_refl _) _
  have sU : Ints U (some ⟨w7.heap.size, 0, none⟩) 2 [0, 3] := by
    rw [hU]
    have h : Blk (w7.alloc (.cells #[.int .i64 0, .int .i64 3] 3)) w7.heap.size 3 #[.int .i64 0, .int .i64 3] := Blk.new _ _ _
    exact ints_blk (l := [0, 3]) h rfl
  have HS := Lib.hid sU
  have b2U := below_step b27 bU
  clear sU
  go_wp2_with fail
  rw [← hU]
  clear hU
  refine (notes_is [⟨1, 0, 5, 1⟩] A2 4 c2 M4 _ 2 2 [0, 3] U (H2.out.below b2U) HM.out HS.out (by omega) aw7).mono ?_
  rintro e w8 ⟨A8, c8, rfl, o8, b8⟩
  clear o8
  simp only [List.length_cons, List.length_nil, Nat.zero_add]
  go_wp2_with fail
  go_ret
  exact ⟨rfl, below_step b02 (below_step b2U b8)⟩
end Go.Proofs.Ytdamocjbkdknaaa.FleetW
