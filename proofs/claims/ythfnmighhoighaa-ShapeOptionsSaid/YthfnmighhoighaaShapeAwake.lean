/-
  Contract of musterlaw07: awake.
-/
import Derived.Test.YthfnmighhoighaaShapeRef3
namespace Go.Proofs.Ythfnmighhoighaa.ShapeW
open Go.RowKit Mem Shape
set_option linter.unusedVariables false
set_option linter.unusedSimpArgs false
set_option linter.unnecessarySimpa false

theorem options_is (r : List Al) (A : Option Addr) (n c : Nat) (s : Sh) (w : World) (h : ArgS w A n c s) (hr : optL s = r) : Calls Try.prog 16 #[shV A n c s] w (NewA r w) := by rw [← hr]; exact options_any A n c s w h
theorem least_is (r : Int) (A : Option Addr) (n c : Nat) (s : Sh) (w : World) (h : ArgS w A n c s) (hr : leastN (optL s) = r) : Calls Try.prog 18 #[shV A n c s] w (Ret (.int .i64 r) w) := by rw [← hr]; exact least_any A n c s w h
theorem most_is (r : Int) (A : Option Addr) (n c : Nat) (s : Sh) (w : World) (h : ArgS w A n c s) (hr : mostN (optL s) = r) : Calls Try.prog 20 #[shV A n c s] w (Ret (.int .i64 r) w) := by rw [← hr]; exact most_any A n c s w h
theorem allows_is (r : Bool) (A : Option Addr) (n c : Nat) (s : Sh) (ch m : Int) (w : World) (h : ArgS w A n c s) (hr : allowsB s ch m = r) : Calls Try.prog 25 #[shV A n c s, .int .i64 ch, .int .i64 m] w (Ret (.bool r) w) := by rw [← hr]; exact allows_any A n c s ch m w h
theorem walls_is (r : Sh) (A : Option Addr) (n c : Nat) (s : Sh) (u : Int) (w : World) (h : ArgS w A n c s) (hr : wallsT s u = r) : Calls Try.prog 22 #[shV A n c s, .int .i64 u] w (WallsPost r w) := by rw [← hr]; exact walls_any A n c s u w h
theorem same_t (A : Option Addr) (n c : Nat) (s : Sh) (w : World) (h : ArgS w A n c s) : Calls Try.prog 27 #[shV A n c s, shV A n c s] w (Ret (.bool true) w) := by
  have := same_any A A n n c c s s w h h
  have e : decide (s = s) = true := by simp
  rw [e] at this
  exact this
theorem run_wall (A : Option Addr) (n c : Nat) (v0 v2 v3 v4 : Int) (w : World) : (Instr.field 24 (.agg #[.int .i64 v0, .slice A n c, .int .i64 v2, .int .i64 v3, .int .i64 v4]) 4).run Try.prog w = .ok (.int .i64 v4) w := by
  have hC : Try.prog.cellsOf 3 = 1 := by kernel_rfl
  simp [Instr.field, asAgg, go_sem, Try.underlying24, Try.underlying3]
abbrev S0 : Sh := ⟨3, [], 2, 4, 60⟩
abbrev SN : Sh := ⟨0, [], 0, 0, 0⟩
theorem argS_nil (s : Sh) (h : s.al = []) (w : World) : ArgS w none 0 0 s := ⟨by rw [h]; exact Lst.nil _ _ _ _, by omega, by omega, fun _ => rfl⟩
set_option maxHeartbeats 4000000 in
set_option maxRecDepth 100000 in
theorem sawake_any (w : World) : Calls Try.prog 12 #[] w fun e w' => e = .returned (.bool true) ∧ Below w.heap.size w w' := by
  obtain ⟨V, hV⟩ : ∃ V, V = w.alloc (shO none 0 0 S0) := ⟨_, rfl⟩
  have bV : Below w.heap.size w V := by rw [hV]; exact (Below.refl _ _).alloc (Nat.le_refl _) _
  have kV : Blk V w.heap.size 24 #[.int .i64 3, .slice none 0 0, .int .i64 2, .int .i64 4, .int .i64 60] := by rw [hV]; exact Blk.new _ _ _
  go_enter Try.func12, Try.ntmps12
  go_wp2_with fail
  rw [← hV]
  clear hV
  refine (options_is [⟨4, 60⟩, ⟨3, 60⟩, ⟨2, 60⟩] none 0 0 S0 V (argS_nil _ rfl _) (by decide +kernel)).mono ?_
  rintro e w1 ⟨A1, c1, rfl, o1, b1⟩
  have k1 := kV.below b1 kV.lt
  obtain ⟨x0, x1, x2, x3, x4⟩ := blk5 k1
  simp only [List.length_cons, List.length_nil, Nat.zero_add, Nat.reduceAdd] at *
  have H1 := Lib.hid (o1.lst layA)
  clear o1
  go_wp2_with fail
  refine (check_is 0 none 0 0 S0 w1 (argS_nil _ rfl _) (by decide +kernel)).mono ?_
  rintro e w2 ⟨rfl, b2⟩
  clear x0 x1 x2 x3 x4
  go_wp2_with fail
  refine (check_is 70 none 0 0 SN w2 (argS_nil _ rfl _) (by decide +kernel)).mono ?_
  rintro e w3 ⟨rfl, b3⟩
  have b13 := below_step b2 b3
  have k3 := k1.below b13 k1.lt
  obtain ⟨x0, x1, x2, x3, x4⟩ := blk5 k3
  obtain ⟨b, off, s, rfl, hbl, hs, d0, d1⟩ := Lst.alt (H1.out.below b13) (show 0 < 3 by omega)
  obtain rfl : s = ⟨4, 60⟩ := by simpa using hs.symm
  clear hs
  simp only [Nat.zero_mul, Nat.add_zero] at d0 d1
  go_wp2_with fail
  refine (least_is 2 none 0 0 S0 w3 (argS_nil _ rfl _) (by decide +kernel)).mono ?_
  rintro e w4 ⟨rfl, b4⟩
  have k4 := k3.below b4 k3.lt
  clear x0 x1 x2 x3 x4 d0 d1
  obtain ⟨x0, x1, x2, x3, x4⟩ := blk5 k4
  go_wp2_with fail
  refine (most_is 4 none 0 0 S0 w4 (argS_nil _ rfl _) (by decide +kernel)).mono ?_
  rintro e w5 ⟨rfl, b5⟩
  have k5 := k4.below b5 k4.lt
  clear x0 x1 x2 x3 x4
  obtain ⟨x0, x1, x2, x3, x4⟩ := blk5 k5
  go_wp2_with fail
  refine (walls_is ⟨3, [], 2, 4, 9⟩ none 0 0 S0 9 w5 (argS_nil _ rfl _) (by decide +kernel)).mono ?_
  rintro e w6 ⟨A6, c6, rfl, o6, b6⟩
  have k6 := k5.below b6 k5.lt
  clear x0 x1 x2 x3 x4 o6
  simp only [shV, List.length_nil]
  have hfld := run_wall A6 0 c6 3 2 4 9 w6
  obtain ⟨x0, x1, x2, x3, x4⟩ := blk5 k6
  go_wp2_with fail
  refine (allows_is true none 0 0 S0 0 3 w6 (argS_nil _ rfl _) (by decide +kernel)).mono ?_
  rintro e w7 ⟨rfl, b7⟩
  have k7 := k6.below b7 k6.lt
  clear x0 x1 x2 x3 x4
  obtain ⟨x0, x1, x2, x3, x4⟩ := blk5 k7
  go_wp2_with fail
  refine (allows_is false none 0 0 S0 3 3 w7 (argS_nil _ rfl _) (by decide +kernel)).mono ?_
  rintro e w8 ⟨rfl, b8⟩
  have k8 := k7.below b8 k7.lt
  clear x0 x1 x2 x3 x4
  obtain ⟨x0, x1, x2, x3, x4⟩ := blk5 k8
  go_wp2_with fail
  refine (same_t none 0 0 S0 w8 (argS_nil _ rfl _)).mono ?_
  rintro e w9 ⟨rfl, b9⟩
  go_wp2_with fail
  go_ret
  exact ⟨rfl, below_step (below_step (below_step (below_step (below_step (below_step (below_step (below_step bV b1) b13) b4) b5) b6) b7) b8) b9⟩
end Go.Proofs.Ythfnmighhoighaa.ShapeW
