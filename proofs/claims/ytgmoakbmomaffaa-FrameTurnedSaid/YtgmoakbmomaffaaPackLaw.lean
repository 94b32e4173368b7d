/-
  awake of layer 3, and the walk of PackNumbers: true for every argument.
-/
import Derived.Test.YtgmoakbmomaffaaPackTexts
namespace Go.Proofs.Ytgmoakbmomaffaa.PackW
open Go.RowKit Mem
set_option linter.unusedVariables false

theorem number_is (r : List UInt8) (x : Int) (n k : Int) (w : World) (h : Pack.number n k = (r, x)) (n0 : -9223372036854775808 ≤ n) (n1 : n ≤ 9223372036854775807) :
    Calls Try.prog 24 #[.int .i64 n, .int .i64 k] w fun e w' => e = .returned (.tuple #[.string ⟨r.toArray⟩, .int .i64 x]) ∧ Below w.heap.size w w' := by
  have := number_any n k w n0 n1
  rw [h] at this
  exact this
theorem text_is (r : List UInt8) (x : Int) (s : ByteArray) (w : World) (h : Pack.text s.data.toList = (r, x)) (hs : s.size ≤ maxLen) :
    Calls Try.prog 34 #[.string s] w fun e w' => e = .returned (.tuple #[.string ⟨r.toArray⟩, .int .i64 x]) ∧ Below w.heap.size w w' := by
  have := text_any s w hs
  rw [h] at this
  exact this
theorem takeNum_is (r x y : Int) (s : ByteArray) (a k : Int) (w : World) (h : Pack.takeNum s.data.toList a k = (r, x, y)) (hs : s.size ≤ maxLen) :
    Calls Try.prog 26 #[.string s, .int .i64 a, .int .i64 k] w fun e w' => e = .returned (.tuple #[.int .i64 r, .int .i64 x, .int .i64 y]) ∧ w = w' := by
  have := takeNum_any s a k w hs
  rw [h] at this
  exact this
theorem takeText_is (r : List UInt8) (x y : Int) (s : ByteArray) (a : Int) (w : World) (h : Pack.takeText s.data.toList a = (r, x, y)) (hs : s.size ≤ maxLen) :
    Calls Try.prog 32 #[.string s, .int .i64 a] w fun e w' => e = .returned (.tuple #[.string ⟨r.toArray⟩, .int .i64 x, .int .i64 y]) ∧ w = w' := by
  have := takeText_any s a w hs
  rw [h] at this
  exact this
theorem texts_is (r : List UInt8) (x : Int) (A : Option Addr) (n c : Nat) (l : List ByteArray) (w : World) (h : Strs w A n l) (hr : Pack.texts (l.map (·.data.toList)) = (r, x)) (hn : n ≤ maxLen) (hs : ∀ s ∈ l, s.size ≤ maxLen) :
    Calls Try.prog 28 #[.slice A n c] w fun e w' => e = .returned (.tuple #[.string ⟨r.toArray⟩, .int .i64 x]) ∧ Below w.heap.size w w' := by
  have := texts_any A n c l w h hn hs
  rw [hr] at this
  exact this

set_option maxHeartbeats 1000000 in
set_option maxRecDepth 100000 in
theorem awake_any (w : World) : Calls Try.prog 23 #[] w fun e w' => e = .returned (.bool true) ∧ Below w.heap.size w w' := by
  go_enter Try.func23, Try.ntmps23
  go_wp2_with fail
  refine (number_is [1, 2] 0 _ _ _ (by decide +kernel) (by omega) (by omega)).mono ?_
  rintro e w1 ⟨rfl, hb1⟩
  go_wp2_with fail
  refine (text_is [0, 2, 97, 98] 0 _ _ (by decide +kernel) (by simp [maxLen]; decide)).mono ?_
  rintro e w2 ⟨rfl, hb2⟩
  have b2 := below_step hb1 hb2
  clear hb1 hb2
  go_wp2_with fail
  refine (takeNum_is 258 3 0 _ _ _ _ (by decide +kernel) (by simp [maxLen]; decide)).mono ?_
  rintro e w3 ⟨rfl, rfl⟩
  go_wp2_with fail
  refine (takeText_is [97, 98] 4 0 _ _ _ (by decide +kernel) (by simp [maxLen]; decide)).mono ?_
  rintro e w3 ⟨rfl, rfl⟩
  go_wp2_with fail
  refine (texts_is [0, 0] 0 none 0 0 [] _ (Row.nil _ _) (by decide +kernel) (by simp [maxLen]) (by simp)).mono ?_
  rintro e w3 ⟨rfl, hb3⟩
  have b3 := below_step b2 hb3
  clear b2 hb3
  go_wp2_with fail
  refine (number_is [] 2 _ _ _ (by decide +kernel) (by omega) (by omega)).mono ?_
  rintro e w4 ⟨rfl, hb4⟩
  have b4 := below_step b3 hb4
  clear b3 hb4
  go_wp2_with fail
  go_ret
  exact ⟨rfl, b4⟩

set_option maxHeartbeats 1000000 in
set_option maxRecDepth 100000 in
theorem packNumbers_walk (n k : Int) (s : ByteArray) (w : World) (n0 : -9223372036854775808 ≤ n) (n1 : n ≤ 9223372036854775807) (hs : s.size ≤ maxLen) :
    Calls Try.prog 7 #[.int .i64 n, .int .i64 k, .string s] w fun e w' => e = .returned (.bool true) ∧ Below w.heap.size w w' := by
  have hs' := hs
  unfold maxLen at hs'
  by_cases hb : 10000 < s.size
  · go_enter Try.func7, Try.ntmps7
    go_wp2_with fail
    refine (awake_any _).mono ?_
    rintro e w1 ⟨rfl, hb1⟩
    go_wp2_with fail
    go_ret
    exact ⟨rfl, hb1⟩
  · have HT := Lib.hid (fun w => takeNum_any s n k w hs)
    have HR := Lib.hid (fun w => rtakeNum_any s n k w hs)
    have HN := Lib.hid (fun w => number_any n k w n0 n1)
    have HM := Lib.hid (fun w => rnumber_any n k w n0 n1)
    generalize (Pack.takeNum s.data.toList n k).1 = t1 at *
    generalize (Pack.takeNum s.data.toList n k).2.1 = t2 at *
    generalize (Pack.takeNum s.data.toList n k).2.2 = t3 at *
    generalize (Pack.number n k).2 = m2 at *
    generalize str (Pack.number n k).1 = m1 at *
    go_enter Try.func7, Try.ntmps7
    go_wp2_with fail
    refine (HN.out _).mono ?_
    rintro e w1 ⟨rfl, hb1⟩
    go_wp2_with fail
    refine (HM.out _).mono ?_
    rintro e w2 ⟨rfl, hb2⟩
    have b2 := below_step hb1 hb2
    clear hb1 hb2
    go_wp2_with fail
    refine (HT.out _).mono ?_
    rintro e w3 ⟨rfl, rfl⟩
    go_wp2_with fail
    refine (HR.out _).mono ?_
    rintro e w3 ⟨rfl, rfl⟩
    go_wp2_with fail
    refine (awake_any _).mono ?_
    rintro e w3 ⟨rfl, hb3⟩
    go_wp2_with fail
    go_ret
    exact ⟨rfl, below_step b2 hb3⟩
end Go.Proofs.Ytgmoakbmomaffaa.PackW
