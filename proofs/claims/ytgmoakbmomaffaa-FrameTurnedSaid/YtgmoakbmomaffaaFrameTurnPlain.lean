/-
  A frame, one byte of whose body is another one, is told.
-/
import Derived.Test.YtgmoakbmomaffaaFrameEvPlain
namespace Go.Proofs.Ytgmoakbmomaffaa.Frm
open Pack
set_option linter.unusedVariables false

theorem hd_set {life seq : Int} {body : List UInt8} {k : Nat} (d : UInt8) : (hd life seq body).set (13 + k) d = hd life seq (body.set k d) := by
  unfold hd
  rw [show 13 + k = (12 + k) + 1 by omega, List.set_cons_succ, List.set_append, if_neg (by simp [four_len]), List.length_set]
  simp [four_len]
theorem hd_split (life seq : Int) (a b : List UInt8) (c : UInt8) : hd life seq (a ++ c :: b) = (77 :: (four ((a ++ c :: b).length) ++ four life ++ four seq ++ a)) ++ c :: b := by
  simp [hd]
theorem hd_ne {life seq : Int} {body : List UInt8} {k : Nat} {d : UInt8} (hk : k < body.length) (h : body[k] ≠ d) : Sums.more 1 (hd life seq (body.set k d)) ≠ Sums.more 1 (hd life seq body) := by
  have e1 : body.set k d = body.take k ++ d :: body.drop (k + 1) := by rw [List.set_eq_take_append_cons_drop, if_pos hk]
  have e2 : body = body.take k ++ body[k] :: body.drop (k + 1) := by
    rw [← List.drop_eq_getElem_cons hk, List.take_append_drop]
  have hl : (body.take k ++ d :: body.drop (k + 1)).length = (body.take k ++ body[k] :: body.drop (k + 1)).length := by simp only [List.length_append, List.length_cons]
  rw [e1, hd_split, hl]
  conv => rhs; rw [e2, hd_split]
  exact Sums.turned _ _ _ _ (fun e => h e.symm)
/-- a frame with other bytes for its sum -/
theorem get_sum {life seq : Int} {body Q : List UInt8} (hQ : Q.length = 4) (hb : body.length ≤ 200000) (h : Sums.more 1 (hd life seq body) ≠ ((num Q : Nat) : Int)) :
    get (hd life seq body ++ Q) 0 = bad 240 := by
  have h0 : get (hd life seq body ++ Q) ((0 : Nat) : Int) = getT ((hd life seq body ++ Q).drop 0) ((0 : Nat) : Int) := get_in (by omega)
  rw [List.drop_zero] at h0
  rw [show (0 : Int) = ((0 : Nat) : Int) from rfl, h0]
  have hh : hd life seq body ++ Q = 77 :: (be 4 body.length ++ (be 4 life.toNat ++ (be 4 seq.toNat ++ (body ++ Q)))) := by
    simp [hd, four]
  have nb : n4 (hd life seq body ++ Q) 1 = body.length := by
    rw [hh]
    unfold n4
    rw [List.drop_succ_cons, List.drop_zero, List.take_left' (be_length _ _), num_be _ _ (by simp; omega)]
  have n13 : n4 (hd life seq body ++ Q) (13 + body.length) = num Q := by
    unfold n4
    rw [List.drop_left' (by rw [hd_len]), List.take_of_length_le (by omega)]
  have ht : (hd life seq body ++ Q).take (13 + body.length) = hd life seq body := List.take_left' (by rw [hd_len])
  refine getT_sum ?_ ?_ ?_ ?_ ?_
  · simp [hd_len]; omega
  · rw [hh]; rfl
  · rw [nb]; exact hb
  · rw [nb]; simp [hd_len, hQ]; omega
  · rw [nb, ht, n13]; exact h
theorem turned_get {life seq : Int} {body : List UInt8} {k : Nat} {d : UInt8} (hk : k < body.length) (hb : body.length ≤ 200000) (h : body[k] ≠ d) :
    get ((hd life seq body ++ sumL (hd life seq body)).set (13 + k) d) 0 = bad 240 := by
  rw [List.set_append_left _ _ (by rw [hd_len]; omega), hd_set]
  refine get_sum (sumL_len _) (by simpa using hb) ?_
  have hm := Sums.more_bd 1 (hd life seq body)
  unfold sumL
  rw [num_be _ _ (by omega)]
  intro e
  exact hd_ne (life := life) (seq := seq) hk h (by omega)
end Go.Proofs.Ytgmoakbmomaffaa.Frm
