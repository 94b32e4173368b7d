/-
  awake of layer 10.
-/
import Derived.Test.YthfnmighhoighaaProf5
namespace Go.Proofs.Ythfnmighhoighaa.ProfW
open Go.RowKit Mem Prof
set_option linter.unusedVariables false

theorem add_is (r : List Stp) (e : Int) (A : Option Addr) (m c : Nat) (p : List Stp) (a b n : Int) (w : World) (h : Steps w A m p) (hm : m ≤ maxLen) (hc : m ≤ c) (hA : A = none → c = 0) (hr : add p a b n = (r, e)) :
    Calls Try.prog 61 #[.slice A m c, .int .i64 a, .int .i64 b, .int .i64 n] w (AddPost (r, e) w) := by rw [← hr]; exact add_any A m c p a b n w h hm hc hA
theorem at_is (r : Int) (A : Option Addr) (n c : Nat) (p : List Stp) (t : Int) (w : World) (h : Steps w A n p) (hn : n ≤ maxLen) (hr : atT p t = r) :
    Calls Try.prog 44 #[.slice A n c, .int .i64 t] w (Ret (.int .i64 r) w) := by rw [← hr]; exact at_any A n c p t w h hn
theorem check_is (r : Int) (A : Option Addr) (n c : Nat) (p : List Stp) (w : World) (h : Steps w A n p) (hn : n ≤ maxLen) (hr : chkE p = r) :
    Calls Try.prog 59 #[.slice A n c] w (Ret (.int .i64 r) w) := by rw [← hr]; exact check_any A n c p w h hn
theorem rsame_is (r : Bool) (A B : Option Addr) (n m c d : Nat) (p q : List Stp) (w : World) (h : Steps w A n p) (g : Steps w B m q) (hn : n ≤ maxLen) (hm : m ≤ maxLen) (hr : decide (p = q) = r) :
    Calls Try.prog 42 #[.slice A n c, .slice B m d] w (Drew (.bool r) w) := by rw [← hr]; exact rsame_any A B n m c d p q w h g hn hm
theorem SOwn.max {α : Type} {f : α → List Value} {k : Nat} {w : World} {base : Nat} {A : Option Addr} {n c : Nat} {l : List α} (h : SOwn f k w base A n c l) : n ≤ maxLen := Nat.le_trans h.2.le h.2.max

end Go.Proofs.Ythfnmighhoighaa.ProfW
