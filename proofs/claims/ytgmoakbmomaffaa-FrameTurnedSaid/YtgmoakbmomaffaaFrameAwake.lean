/-
  Contract: musterlaw24.awake.
-/
import Derived.Test.YtgmoakbmomaffaaFrameTake
namespace Go.Proofs.Ytgmoakbmomaffaa.FrameW
open Go.RowKit Mem Frm PackW
set_option linter.unusedVariables false
set_option linter.unusedSimpArgs false

theorem put_is (r : List UInt8) (x : Int) (life seq : Int) (s : ByteArray) (w : World) (hs : s.size ≤ maxLen) (l0 : -9223372036854775808 ≤ life ∧ life ≤ 9223372036854775807) (q0 : -9223372036854775808 ≤ seq ∧ seq ≤ 9223372036854775807) (h : put life seq s.data.toList = (r, x)) :
    Calls Try.prog 38 #[.int .i64 life, .int .i64 seq, .string s] w (Ret (.tuple #[.string (str r), .int .i64 x]) w) := by
  have := put_any life seq s w hs l0 q0
  rw [h] at this
  exact this
theorem get_is (g : Got) (s : ByteArray) (a : Int) (w : World) (hs : s.size ≤ maxLen) (h : get s.data.toList a = g) :
    Calls Try.prog 40 #[.string s, .int .i64 a] w (Ret (gotV g) w) := by
  rw [← h]
  exact get_any s a w hs
theorem take_is (e : Ev) (x : Int) (s : ByteArray) (w : World) (hs : s.size ≤ 1000000) (h : take s.data.toList = (e, x)) :
    Calls Try.prog 46 #[.string s] w (Ret (.tuple #[evV e, .int .i64 x]) w) := by
  have := take_any s w hs
  rw [h] at this
  exact this
theorem cut_is (n : Nat) (b : Int) (s : ByteArray) (w : World) (hs : s.size ≤ 1000000) (h1 : (bods s.data.toList).length = n) (h2 : lastTo (Frm.all s.data.toList) = b) :
    Calls Try.prog 42 #[.string s] w (fun e w' => ∃ A c, e = .returned (.tuple #[.slice A n c, .int .i64 b]) ∧ Below w.heap.size w w') := by
  subst h1 h2
  refine (cut_any s w hs).mono fun e w' h => ?_
  obtain ⟨A, c, he, _, hb⟩ := h
  exact ⟨A, c, he, hb⟩
def F1 : List UInt8 := (put 1 2 [97, 98]).1
theorem f1_put : put 1 2 [97, 98] = (F1, 0) := by decide +kernel
theorem f1_len : F1.length = 19 := by decide +kernel
theorem f1_get : get (120 :: F1) 1 = (1, 2, [97, 98], 20, 0) := by decide +kernel
theorem f1_all : Frm.all (F1 ++ F1 ++ [121]) = [([97, 98], 19), ([97, 98], 38)] := by decide +kernel
theorem f1_lay : lay ⟨2, [], 0, 0, 0, 0⟩ = ([2], 0) := by decide +kernel
theorem f1_take : take [2] = (⟨2, [], 0, 0, 0, 0⟩, 0) := by decide +kernel
set_option maxHeartbeats 4000000 in
set_option maxRecDepth 100000 in
theorem fawake_any (w : World) : Calls Try.prog 37 #[] w fun e w' => e = .returned (.bool true) ∧ Below w.heap.size w w' := by
  have H1 := Lib.hid (put_is F1 0 1 2 ⟨#[97, 98]⟩ w (by unfold maxLen; simp [ByteArray.size]) (by omega) (by omega) f1_put)
  have hF : (str F1).size = 19 := by rw [str_size, f1_len]
  have H2 := Lib.hid fun w => get_is (1, 2, [97, 98], 20, 0) (⟨#[120]⟩ ++ str F1) 1 w (by rw [ByteArray.size_append, hF]; unfold maxLen; simp [ByteArray.size]) (by rw [show (⟨#[120]⟩ ++ str F1 : ByteArray).data.toList = 120 :: F1 by simp [str]]; exact f1_get)
  have h33 : (str F1 ++ str F1 ++ ⟨#[121]⟩ : ByteArray).data.toList = F1 ++ F1 ++ [121] := by simp [str]
  have H3 := Lib.hid fun w => cut_is 2 38 (str F1 ++ str F1 ++ ⟨#[121]⟩) w (by rw [ByteArray.size_append, ByteArray.size_append, hF]; simp [ByteArray.size]) (by rw [bods, h33, f1_all]; rfl) (by rw [h33, f1_all]; rfl)
  clear h33
  have H4 := Lib.hid fun w => lay_is [2] 0 ⟨2, [], 0, 0, 0, 0⟩ w (by simp) f1_lay
  have H5 := Lib.hid fun w => take_is ⟨2, [], 0, 0, 0, 0⟩ 0 ⟨#[2]⟩ w (by simp [ByteArray.size]) f1_take
  have H6 := Lib.hid fun w => echeck_is 320 ev0 w (by simp [ev0]) (by decide +kernel)
  have e1 : ((str [97, 98]).toList == [97, 98]) = true := by rw [str_list]; rfl
  have e2 : ((str [2]).toList == [2]) = true := by rw [str_list]; rfl
  have hF2 : ((str F1).size : Int) = 19 := by rw [hF]; rfl
  obtain ⟨T, hT⟩ : ∃ T, T = str F1 := ⟨_, rfl⟩
  rw [← hT] at H1 H2 H3 hF hF2
  clear hT
  have hF3 : T.size ≤ 19 := by omega
  have HF := Lib.hid hF2
  have e3 : ((T.size : Int) == 19) = true := by rw [hF2]; rfl
  clear hF hF2
  go_enter Try.func37, Try.ntmps37
  go_wp2_with fail
  refine H1.out.mono ?_
  rintro e w1 ⟨rfl, b1⟩
  go_wp2_with fail
  refine (H2.out _).mono ?_
  rintro e w2 ⟨rfl, b2⟩
  go_wp2_with fail
  refine (H3.out _).mono ?_
  rintro e w3 ⟨A3, c3, rfl, b3⟩
  go_wp2_with fail
  refine (H4.out _).mono ?_
  rintro e w4 ⟨rfl, b4⟩
  go_wp2_with fail
  refine (H5.out _).mono ?_
  rintro e w5 ⟨rfl, b5⟩
  go_wp2_with fail
  refine (H6.out _).mono ?_
  rintro e w6 ⟨rfl, b6⟩
  go_wp2_with fail
  go_ret
  exact ⟨rfl, below_step (below_step (below_step (below_step (below_step b1 b2) b3) b4) (below_step b5 (new_1 w5 _))) b6⟩
end Go.Proofs.Ytgmoakbmomaffaa.FrameW
