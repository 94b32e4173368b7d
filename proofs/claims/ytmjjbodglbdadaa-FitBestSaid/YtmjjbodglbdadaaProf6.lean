/-
  awake of layer 10.
-/
import Derived.Test.YtmjjbodglbdadaaProf5
namespace Go.Proofs.Ytmjjbodglbdadaa.ProfW
open Go.RowKit Mem Prof
set_option linter.unusedVariables false

theorem flat_is (n f : Int) (w : World) (h : clampT n = f) : Calls Try.prog 21 #[.int .i64 n] w (NewS [(0, f)] w) := by rw [← h]; exact flat_any n w
theorem add_is (r : List Stp) (e : Int) (A : Option Addr) (m c : Nat) (p : List Stp) (a b n : Int) (w : World) (h : Steps w A m p) (hm : m ≤ maxLen) (hc : m ≤ c) (hA : A = none → c = 0) (hr : add p a b n = (r, e)) :
    Calls Try.prog 23 #[.slice A m c, .int .i64 a, .int .i64 b, .int .i64 n] w (AddPost (r, e) w) := by rw [← hr]; exact add_any A m c p a b n w h hm hc hA
theorem at_is (r : Int) (A : Option Addr) (n c : Nat) (p : List Stp) (t : Int) (w : World) (h : Steps w A n p) (hn : n ≤ maxLen) (hr : atT p t = r) :
    Calls Try.prog 16 #[.slice A n c, .int .i64 t] w (Ret (.int .i64 r) w) := by rw [← hr]; exact at_any A n c p t w h hn
theorem least_is (r : Int) (A : Option Addr) (n c : Nat) (p : List Stp) (a b : Int) (w : World) (h : Steps w A n p) (hn : n ≤ maxLen) (hr : leastT p a b = r) :
    Calls Try.prog 18 #[.slice A n c, .int .i64 a, .int .i64 b] w (Ret (.int .i64 r) w) := by rw [← hr]; exact least_any A n c p a b w h hn
theorem check_is (r : Int) (A : Option Addr) (n c : Nat) (p : List Stp) (w : World) (h : Steps w A n p) (hn : n ≤ maxLen) (hr : chkE p = r) :
    Calls Try.prog 14 #[.slice A n c] w (Ret (.int .i64 r) w) := by rw [← hr]; exact check_any A n c p w h hn
theorem psame_is (r : Bool) (A B : Option Addr) (n m c d : Nat) (p q : List Stp) (w : World) (h : Steps w A n p) (g : Steps w B m q) (hn : n ≤ maxLen) (hm : m ≤ maxLen) (hr : decide (p = q) = r) :
    Calls Try.prog 25 #[.slice A n c, .slice B m d] w (Drew (.bool r) w) := by rw [← hr]; exact psame_any A B n m c d p q w h g hn hm
theorem rsame_is (r : Bool) (A B : Option Addr) (n m c d : Nat) (p q : List Stp) (w : World) (h : Steps w A n p) (g : Steps w B m q) (hn : n ≤ maxLen) (hm : m ≤ maxLen) (hr : decide (p = q) = r) :
    Calls Try.prog 20 #[.slice A n c, .slice B m d] w (Drew (.bool r) w) := by rw [← hr]; exact rsame_any A B n m c d p q w h g hn hm
theorem SOwn.max {α : Type} {f : α → List Value} {k : Nat} {w : World} {base : Nat} {A : Option Addr} {n c : Nat} {l : List α} (h : SOwn f k w base A n c l) : n ≤ maxLen := Nat.le_trans h.2.le h.2.max

set_option maxHeartbeats 2000000 in
set_option maxRecDepth 100000 in
theorem awake_any (w : World) : Calls Try.prog 13 #[] w fun e w' => e = .returned (.bool true) ∧ Below w.heap.size w w' := by
  go_enter Try.func13, Try.ntmps13
  go_wp2_with fail
  refine (flat_is 4 4 w (by decide)).mono ?_
  rintro e w1 ⟨A1, c1, rfl, ho1, b1⟩
  go_wp2_with fail
  refine (add_is [(0, 4), (5, 1), (9, 4)] 0 A1 _ c1 _ _ _ _ w1 (ho1.lst layS) (SOwn.max ho1) ho1.2.le ho1.2.bare (by decide +kernel)).mono ?_
  rintro e w2 ⟨A2, c2, rfl, ho2, b2⟩
  have b3 := below_step b1 b2
  clear ho1 b1 b2
  go_wp2_with fail
  refine (add_is [] 100 none 0 0 [] _ _ _ w2 (Lst.nil _ _ _ _) (by simp [maxLen]) (Nat.le_refl _) (fun _ => rfl) (by decide +kernel)).mono ?_
  rintro e w3 ⟨A3, c3, rfl, ho3, b4⟩
  have b5 := below_step b3 b4
  have h3 := (ho2.below b4).lst layS
  have hm := SOwn.max ho2
  obtain ⟨b, off, s, rfl, hbl, hs, d0, d1⟩ := Lst.two h3 (show 1 < [((0 : Int), (4 : Int)), (5, 1), (9, 4)].length by simp)
  obtain rfl : s = (5, 1) := by simpa using hs.symm
  simp only [List.length_cons, List.length_nil] at *
  clear ho2 ho3 b3 b4 hs
  have HM := Lib.hid hm
  have H3 := Lib.hid h3
  clear hm h3
  go_wp2_with fail
  refine (least_is 1 _ _ _ _ _ _ w3 H3.out HM.out (by decide +kernel)).mono ?_
  rintro e w4 ⟨rfl, b6⟩
  go_wp2_with fail
  refine (at_is 4 _ _ _ _ _ w4 (H3.out.below b6) HM.out (by decide +kernel)).mono ?_
  rintro e w5 ⟨rfl, b7⟩
  have b8 := below_step b6 b7
  go_wp2_with fail
  refine (check_is 0 _ _ _ _ w5 (H3.out.below b8) HM.out (by decide +kernel)).mono ?_
  rintro e w6 ⟨rfl, b9⟩
  have b10 := below_step b8 b9
  go_wp2_with fail
  refine (psame_is true _ _ _ _ _ _ _ _ w6 (H3.out.below b10) (H3.out.below b10) HM.out HM.out (by decide +kernel)).mono ?_
  rintro e w7 ⟨rfl, dr, rfl⟩
  go_wp2_with fail
  go_ret
  exact ⟨rfl, below_drewN (below_step b5 b10) dr⟩
end Go.Proofs.Ytmjjbodglbdadaa.ProfW
