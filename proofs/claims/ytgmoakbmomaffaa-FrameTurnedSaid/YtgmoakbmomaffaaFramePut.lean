/-
  Contracts: frame.Put; musterref24: four, number, Put.
-/
import Derived.Test.YtgmoakbmomaffaaFrame
import Derived.Test.YtgmoakbmomaffaaPackRef3
namespace Go.Proofs.Ytgmoakbmomaffaa.FrameW
open Go.RowKit Mem Frm PackW
set_option linter.unusedVariables false
set_option linter.unusedSimpArgs false

theorem pair_of {α β : Type} (p : α × β) : ∃ a b, p = (a, b) := ⟨p.1, p.2, rfl⟩
theorem nums3 (n life seq : Int) : nums 4 [n, life, seq] = if (Pack.fitB n 4 && Pack.fitB life 4 && Pack.fitB seq 4) = true then (four n ++ four life ++ four seq, true) else ([], false) := by
  unfold nums
  simp [four, and_assoc]
theorem nums2 (life seq : Int) : nums 4 [life, seq] = if (Pack.fitB life 4 && Pack.fitB seq 4) = true then (four life ++ four seq, true) else ([], false) := by
  unfold nums
  simp [four]
theorem hd_str (r : List UInt8) (s : ByteArray) (life seq : Int) (hr : r = four (s.data.toList.length) ++ four life ++ four seq) : (⟨#[77]⟩ ++ str r ++ s : ByteArray) = str (hd life seq s.data.toList) := by
  subst hr
  apply ByteArray.ext
  simp [str, hd]
set_option maxHeartbeats 1000000 in
set_option maxRecDepth 100000 in
theorem put_big_any (life seq : Int) (s : ByteArray) (w : World) (hs : s.size ≤ maxLen) (hbig : 200000 < s.size) (l0 : -9223372036854775808 ≤ life ∧ life ≤ 9223372036854775807) (q0 : -9223372036854775808 ≤ seq ∧ seq ≤ 9223372036854775807) :
    Calls Try.prog 38 #[.int .i64 life, .int .i64 seq, .string s] w (Ret (.tuple #[.string (str (put life seq s.data.toList).1), .int .i64 (put life seq s.data.toList).2]) w) := by
  have hsl : s.data.toList.length = s.size := by simp
  have hs2 : s.size ≤ 9223372036854775807 := by unfold maxLen at hs; omega
  clear hs
  obtain ⟨r, v, hr⟩ : ∃ r v, nums 4 [(s.size : Int), life, seq] = (r, v) := pair_of _
  have HR := Lib.hid hr
  have T1 : Hid (decide ((s.size : Int) ≤ 200000) = false) := decide_eq_false (by omega)
  have T2 : Hid (decide ((200000 : Int) < (s.size : Int)) = true) := decide_eq_true (by omega)
  clear hr
  cases hf : (Pack.fitB life 4 && Pack.fitB seq 4)
  · have HP : Hid (put life seq s.data.toList = ([], 2)) := put_arg hf
    have HN2 : Hid (nums 4 [life, seq] = ([], false)) := by show _ = _; rw [nums2, if_neg (by simp [hf])]
    clear hf hsl hbig
    cases v
    all_goals
      go_enter Try.func38, Try.ntmps38
      go_wp2_with fail
      refine (nums_is _ _ 4 _ 3 3 _ _ HR.out (lit_3 w _ _ _) (by omega) (by omega) rfl (by intro x hx; simp at hx; omega)).mono ?_
      rintro e w1 ⟨rfl, b1⟩
      go_upto_if 22 with fail
      try rw [T1.out]
      go_upto_if 30 with fail
      rw [T2.out]
      go_wp2_with fail
      refine (nums_is _ _ 4 _ 2 2 _ _ HN2.out (lit_2 w1 _ _) (by omega) (by omega) rfl (by intro x hx; simp at hx; omega)).mono ?_
      rintro e w2 ⟨rfl, b2⟩
      go_wp2_with fail
      go_ret2
      exact ⟨by rw [HP.out]; rfl, below_step (below_step (new_1 w _) b1) (below_step (new_1 w1 _) b2)⟩
  · have HP : Hid (put life seq s.data.toList = ([], 3)) := put_big hf (Nat.lt_of_lt_of_eq hbig hsl.symm)
    have HN2 : Hid (nums 4 [life, seq] = (four life ++ four seq, true)) := by show _ = _; rw [nums2, if_pos hf]
    clear hf hsl hbig
    cases v
    all_goals
      go_enter Try.func38, Try.ntmps38
      go_wp2_with fail
      refine (nums_is _ _ 4 _ 3 3 _ _ HR.out (lit_3 w _ _ _) (by omega) (by omega) rfl (by intro x hx; simp at hx; omega)).mono ?_
      rintro e w1 ⟨rfl, b1⟩
      go_upto_if 22 with fail
      try rw [T1.out]
      go_upto_if 30 with fail
      rw [T2.out]
      go_wp2_with fail
      refine (nums_is _ _ 4 _ 2 2 _ _ HN2.out (lit_2 w1 _ _) (by omega) (by omega) rfl (by intro x hx; simp at hx; omega)).mono ?_
      rintro e w2 ⟨rfl, b2⟩
      go_wp2_with fail
      go_ret2
      exact ⟨by rw [HP.out]; rfl, below_step (below_step (new_1 w _) b1) (below_step (new_1 w1 _) b2)⟩
set_option maxHeartbeats 1000000 in
set_option maxRecDepth 100000 in
theorem put_small_any (life seq : Int) (s : ByteArray) (w : World) (hbig : ¬ 200000 < s.size) (l0 : -9223372036854775808 ≤ life ∧ life ≤ 9223372036854775807) (q0 : -9223372036854775808 ≤ seq ∧ seq ≤ 9223372036854775807) :
    Calls Try.prog 38 #[.int .i64 life, .int .i64 seq, .string s] w (Ret (.tuple #[.string (str (put life seq s.data.toList).1), .int .i64 (put life seq s.data.toList).2]) w) := by
  have hsl : s.data.toList.length = s.size := by simp
  have hfl : Pack.fitB (s.size : Int) 4 = true := by rw [fit4]; omega
  have t1 : decide ((s.size : Int) ≤ 200000) = true := decide_eq_true (by omega)
  have t2 : decide ((200000 : Int) < (s.size : Int)) = false := decide_eq_false (by omega)
  have hs : s.size ≤ 9223372036854775000 := by omega
  cases hf : (Pack.fitB life 4 && Pack.fitB seq 4)
  · have HP : Hid (put life seq s.data.toList = ([], 2)) := put_arg hf
    have HN3 : Hid (nums 4 [(s.size : Int), life, seq] = ([], false)) := by show _ = _; rw [nums3, if_neg (by rw [hfl, Bool.true_and, hf]; simp)]
    clear hf hsl hfl hbig
    go_enter Try.func38, Try.ntmps38
    go_wp2_with fail
    refine (nums_is _ _ 4 _ 3 3 _ _ HN3.out (lit_3 w _ _ _) (by omega) (by omega) rfl (by intro x hx; simp at hx; omega)).mono ?_
    rintro e w1 ⟨rfl, b1⟩
    go_wp2_with fail
    go_ret2
    exact ⟨by rw [HP.out]; rfl, below_step (new_1 w _) b1⟩
  · have HP : Hid (put life seq s.data.toList = (hd life seq s.data.toList ++ sumL (hd life seq s.data.toList), 0)) := put_ok hf (by omega)
    obtain ⟨r, hr⟩ : ∃ r, r = four (s.size : Int) ++ four life ++ four seq := ⟨_, rfl⟩
    have HN3 : Hid (nums 4 [(s.size : Int), life, seq] = (r, true)) := by show _ = _; rw [nums3, if_pos (by rw [hfl, Bool.true_and, hf]), hr]
    have HD := Lib.hid (hd_str r s life seq (by rw [hr, hsl]))
    have hrl : r.length = 12 := by rw [hr]; simp [four_len]
    have hz1 : (str r).size ≤ 12 := by rw [str_size, hrl]; omega
    have HZ : Hid ((⟨#[77]⟩ ++ str r ++ s : ByteArray).size ≤ maxLen) := by
      show _ ≤ _
      unfold maxLen
      have : (⟨#[77]⟩ : ByteArray).size = 1 := rfl
      simp only [ByteArray.size_append]
      omega
    have HA : Hid (∀ b : ByteArray, b = str (hd life seq s.data.toList) → (b ++ str (sumL b.data.toList) : ByteArray) = str (hd life seq s.data.toList ++ sumL (hd life seq s.data.toList))) := fun b e => by rw [e, str_app]; rfl
    have hz2 : ∀ b : ByteArray, (str (sumL b.data.toList)).size ≤ 4 := fun b => by rw [str_size, sumL_len]; omega
    have hz3 := hz2 (⟨#[77]⟩ ++ str r ++ s : ByteArray)
    obtain ⟨t, ht⟩ : ∃ t, t = str (sumL (⟨#[77]⟩ ++ str r ++ s : ByteArray).data.toList) := ⟨_, rfl⟩
    have HSm := Lib.hid fun w => sum_any (⟨#[77]⟩ ++ str r ++ s) w HZ.out
    rw [← ht] at HSm hz3
    have HT := Lib.hid ht
    clear hf hsl hfl hbig hr hrl hz2 ht
    go_enter Try.func38, Try.ntmps38
    go_wp2_with fail
    refine (nums_is _ _ 4 _ 3 3 _ _ HN3.out (lit_3 w _ _ _) (by omega) (by omega) rfl (by intro x hx; simp at hx; omega)).mono ?_
    rintro e w1 ⟨rfl, b1⟩
    go_wp2_with fail
    refine (HSm.out _).mono ?_
    rintro e w2 ⟨rfl, b2⟩
    go_wp2_with fail
    go_ret2
    exact ⟨by rw [HP.out, HT.out]; exact ret2 (congrArg Value.string (HA.out _ HD.out)) rfl, below_step (below_step (new_1 w _) b1) b2⟩
theorem put_any (life seq : Int) (s : ByteArray) (w : World) (hs : s.size ≤ maxLen) (l0 : -9223372036854775808 ≤ life ∧ life ≤ 9223372036854775807) (q0 : -9223372036854775808 ≤ seq ∧ seq ≤ 9223372036854775807) :
    Calls Try.prog 38 #[.int .i64 life, .int .i64 seq, .string s] w (Ret (.tuple #[.string (str (put life seq s.data.toList).1), .int .i64 (put life seq s.data.toList).2]) w) := by
  by_cases h : 200000 < s.size
  · exact put_big_any life seq s w hs h l0 q0
  · exact put_small_any life seq s w h l0 q0
theorem rfour_any (n : Int) (w : World) (h0 : -9223372036854775808 ≤ n ∧ n ≤ 9223372036854775807) : Calls Try.prog 58 #[.int .i64 n] w (Ret (.string (str (Pack.number n 4).1)) w) := by
  have HN := Lib.hid (rnumber_any n 4 w h0.1 h0.2)
  obtain ⟨r, x, hr⟩ : ∃ r x, Pack.number n 4 = (r, x) := pair_of _
  rw [hr] at HN ⊢
  clear hr
  go_enter Try.func58, Try.ntmps58
  go_wp2_with fail
  refine HN.out.mono ?_
  rintro e w1 ⟨rfl, b1⟩
  go_wp2_with fail
  go_ret
  exact ⟨rfl, b1⟩
theorem rfour_is (r : List UInt8) (n : Int) (w : World) (h0 : -9223372036854775808 ≤ n ∧ n ≤ 9223372036854775807) (hr : (Pack.number n 4).1 = r) : Calls Try.prog 58 #[.int .i64 n] w (Ret (.string (str r)) w) := by rw [← hr]; exact rfour_any n w h0
theorem num_yes {n : Int} (h : Pack.fitB n 4 = true) : (Pack.number n 4).1 = four n := by simp [Pack.number, h, four]
theorem num_no {n : Int} (h : Pack.fitB n 4 = false) : (Pack.number n 4).1 = [] := by simp [Pack.number, h]
theorem str_nonempty {r : List UInt8} (h : r ≠ []) : (str r).toList.isEmpty = false := by
  rw [ByteArray.toList_eq]
  cases r with
  | nil => exact absurd rfl h
  | cons a r => rfl
theorem str_nonnil {r : List UInt8} (h : r ≠ []) : ¬ (str r).toList = [] := by
  rw [ByteArray.toList_eq]
  exact h
theorem str_nil : (str []).toList.isEmpty = true := by
  rw [ByteArray.toList_eq]
  rfl
theorem four_ne (n : Int) : four n ≠ [] := by
  intro e
  have := congrArg List.length e
  rw [four_len] at this
  cases this
theorem hd_str4 (s : ByteArray) (life seq : Int) : (((⟨#[77]⟩ ++ str (four (s.data.toList.length)) : ByteArray) ++ str (four life)) ++ str (four seq)) ++ s = str (hd life seq s.data.toList) := by
  apply ByteArray.ext
  simp [str, hd]
set_option maxHeartbeats 1000000 in
set_option maxRecDepth 100000 in
theorem rput_any (life seq : Int) (s : ByteArray) (w : World) (hs : s.size ≤ maxLen) (l0 : -9223372036854775808 ≤ life ∧ life ≤ 9223372036854775807) (q0 : -9223372036854775808 ≤ seq ∧ seq ≤ 9223372036854775807) :
    Calls Try.prog 39 #[.int .i64 life, .int .i64 seq, .string s] w (Ret (.tuple #[.string (str (put life seq s.data.toList).1), .int .i64 (put life seq s.data.toList).2]) w) := by
  have hsl : s.data.toList.length = s.size := by simp
  cases hf1 : Pack.fitB life 4
  · have HP : Hid (put life seq s.data.toList = ([], 2)) := put_arg (by rw [hf1]; rfl)
    have HF := Lib.hid (rfour_is [] life w l0 (num_no hf1))
    have n1 := str_nil
    clear hf1 hsl
    go_enter Try.func39, Try.ntmps39
    go_wp2_with fail
    refine HF.out.mono ?_
    rintro e w1 ⟨rfl, b1⟩
    go_wp2_with fail
    go_ret2
    exact ⟨by rw [HP.out]; rfl, b1⟩
  have e1 := str_nonempty (four_ne life)
  have e1' := str_nonnil (four_ne life)
  have HF := Lib.hid fun w => rfour_is (four life) life w l0 (num_yes hf1)
  cases hf2 : Pack.fitB seq 4
  · have HP : Hid (put life seq s.data.toList = ([], 2)) := put_arg (by rw [hf1, hf2]; rfl)
    have HF2 := Lib.hid fun w => rfour_is [] seq w q0 (num_no hf2)
    have n1 := str_nil
    clear hf1 hf2 hsl
    go_enter Try.func39, Try.ntmps39
    go_wp2_with fail
    refine (HF.out _).mono ?_
    rintro e w1 ⟨rfl, b1⟩
    go_wp2_with fail
    refine (HF2.out _).mono ?_
    rintro e w2 ⟨rfl, b2⟩
    go_wp2_with fail
    go_ret2
    exact ⟨by rw [HP.out]; rfl, below_step b1 b2⟩
  have e2 := str_nonempty (four_ne seq)
  have e2' := str_nonnil (four_ne seq)
  have HF2 := Lib.hid fun w => rfour_is (four seq) seq w q0 (num_yes hf2)
  by_cases hbig : 200000 < s.size
  · have HP : Hid (put life seq s.data.toList = ([], 3)) := put_big (by rw [hf1, hf2]; rfl) (Nat.lt_of_lt_of_eq hbig hsl.symm)
    have t2 : decide ((200000 : Int) < (s.size : Int)) = true := decide_eq_true (by omega)
    clear hf1 hf2 hsl hbig
    go_enter Try.func39, Try.ntmps39
    go_wp2_with fail
    refine (HF.out _).mono ?_
    rintro e w1 ⟨rfl, b1⟩
    go_wp2_with fail
    refine (HF2.out _).mono ?_
    rintro e w2 ⟨rfl, b2⟩
    go_wp2_with fail
    go_ret2
    exact ⟨by rw [HP.out]; rfl, below_step b1 b2⟩
  have HP : Hid (put life seq s.data.toList = (hd life seq s.data.toList ++ sumL (hd life seq s.data.toList), 0)) := put_ok (by rw [hf1, hf2]; rfl) (by omega)
  have hfl : Pack.fitB (s.size : Int) 4 = true := by rw [fit4]; omega
  have HF3 := Lib.hid fun w => rfour_is (four (s.size : Int)) (s.size : Int) w (by omega) (num_yes hfl)
  have t2 : decide ((200000 : Int) < (s.size : Int)) = false := decide_eq_false (by omega)
  have hs2 : s.size ≤ 1000000 := by omega
  have z1 : (str (four life)).size ≤ 4 := by rw [str_size, four_len]; omega
  have z2 : (str (four seq)).size ≤ 4 := by rw [str_size, four_len]; omega
  have z3 : (str (four (s.size : Int))).size ≤ 4 := by rw [str_size, four_len]; omega
  have HD := hd_str4 s life seq
  rw [hsl] at HD
  obtain ⟨t1, ht1⟩ : ∃ t, t = str (four life) := ⟨_, rfl⟩
  obtain ⟨t2', ht2⟩ : ∃ t, t = str (four seq) := ⟨_, rfl⟩
  obtain ⟨t3, ht3⟩ : ∃ t, t = str (four (s.size : Int)) := ⟨_, rfl⟩
  rw [← ht1] at HF HD z1 e1 e1'
  rw [← ht2] at HF2 HD z2 e2 e2'
  rw [← ht3] at HF3 HD z3
  obtain ⟨H, hH⟩ : ∃ H, H = ((((⟨#[77]⟩ ++ t3 : ByteArray) ++ t1) ++ t2') ++ s : ByteArray) := ⟨_, rfl⟩
  have HHd : Hid (H = str (hd life seq s.data.toList)) := hH.trans HD
  have hhl : H.size ≤ maxLen := by
    rw [HHd.out, str_size, hd_len]
    unfold maxLen
    omega
  have HSm : Hid (∀ w' : World, Calls Try.prog 18 #[.slice (some ⟨w'.heap.size, 0, none⟩) 1 1] (w'.alloc (.cells #[.string ((((⟨#[77]⟩ ++ t3 : ByteArray) ++ t1) ++ t2') ++ s : ByteArray)] 9)) (fun e w'' => e = .returned (.int .u32 (Sums.more 1 H.data.toList)) ∧ w'.alloc (.cells #[.string ((((⟨#[77]⟩ ++ t3 : ByteArray) ++ t1) ++ t2') ++ s : ByteArray)] 9) = w'')) := fun w' => by
    rw [← hH]
    exact SumsW.rsum_any _ 1 1 [H] _ (SumsW.strs_new1 w' H _) (by unfold maxLen; omega) (by simpa using hhl)
  have hbd := Sums.more_bd 1 H.data.toList
  obtain ⟨m, hm⟩ : ∃ m, m = Sums.more 1 H.data.toList := ⟨_, rfl⟩
  rw [← hm] at HSm hbd
  have HF4 := Lib.hid fun w => rfour_is (four m) m w (by omega) (num_yes (by rw [fit4]; omega))
  have z4 : (str (four m)).size ≤ 4 := by rw [str_size, four_len]; omega
  have hw : IntKind.i64.wrap m = m := IntWalk.i64_in _ (by omega)
  have HA : Hid (((((⟨#[77]⟩ ++ t3 : ByteArray) ++ t1) ++ t2') ++ s : ByteArray) ++ str (four m) = str (hd life seq s.data.toList ++ sumL (hd life seq s.data.toList))) := by
    show _ = _
    rw [← hH, hm, HHd.out, str_app]
    rfl
  obtain ⟨t4, ht4⟩ : ∃ t, t = str (four m) := ⟨_, rfl⟩
  rw [← ht4] at HF4 z4 HA
  clear hf1 hf2 hsl hbig hfl HD hH hhl hm hs ht1 ht2 ht3 ht4
  go_enter Try.func39, Try.ntmps39
  go_wp2_with fail
  refine (HF.out _).mono ?_
  rintro e w1 ⟨rfl, b1⟩
  go_wp2_with fail
  refine (HF2.out _).mono ?_
  rintro e w2 ⟨rfl, b2⟩
  go_wp2_with fail
  refine (HF3.out _).mono ?_
  rintro e w3 ⟨rfl, b3⟩
  go_wp2_with fail
  refine (HF.out _).mono ?_
  rintro e w4 ⟨rfl, b4⟩
  go_wp2_with fail
  refine (HF2.out _).mono ?_
  rintro e w5 ⟨rfl, b5⟩
  go_wp2_with fail
  refine (HSm.out _).mono ?_
  rintro e w6 ⟨rfl, rfl⟩
  go_wp2_with fail
  refine (HF4.out _).mono ?_
  rintro e w7 ⟨rfl, b7⟩
  go_wp2_with fail
  go_ret2
  exact ⟨by rw [HP.out]; exact ret2 (congrArg Value.string HA.out) rfl, below_step (below_step (below_step (below_step (below_step (below_step b1 b2) b3) b4) b5) (new_1 w5 _)) b7⟩
end Go.Proofs.Ytgmoakbmomaffaa.FrameW
