/-
  Contract: frame.Get.
-/
import Derived.Test.YtgmoakbmomaffaaFramePut
import Derived.Deep.RegionHeld3
import Derived.Deep.QuietTactic
import Derived.BigQuiet
namespace Go.Proofs.Ytgmoakbmomaffaa.FrameW
open Go.RowKit Mem Frm PackW
set_option linter.unusedVariables false
set_option linter.unusedSimpArgs false

theorem results_five {fn : Func} {t u v x y : Tmp} (h : fn.results = #[.tmp t, .tmp u, .tmp v, .tmp x, .tmp y]) (tmps : Array Value) (P : Program) (w : World) :
    (results fn tmps).run P w = .ok (.tuple #[tmps.getD t undef, tmps.getD u undef, tmps.getD v undef, tmps.getD x undef, tmps.getD y undef]) w := by
  simp [results, h]
theorem sum_cmp (T : ByteArray) (z : Nat) (h : 17 + z ≤ T.size) : ((str (sumL (T.extract 0 (13 + z)).data.toList)).toList == (T.extract (13 + z) (13 + z + 4)).toList) = decide (Sums.more 1 (T.data.toList.take (13 + z)) = ((n4 T.data.toList (13 + z) : Nat) : Int)) := by
  rw [ByteArray.toList_eq, ByteArray.toList_eq, extract_str, extract_str, str_data, str_data, str_data, List.drop_zero, Nat.sub_zero, Nat.add_sub_cancel_left]
  have hl : ((T.data.toList.drop (13 + z)).take 4).length = 4 := by simp; omega
  have := sumL_eq (s := T.data.toList.take (13 + z)) hl
  unfold n4
  rw [Bool.eq_iff_iff, beq_iff_eq, decide_eq_true_eq]
  exact this
theorem ret5 {a b c d e a' b' c' d' e' : Value} (h : a = a') (k : b = b') (l : c = c') (m : d = d') (n : e = e') : Ending.returned (.tuple #[a, b, c, d, e]) = .returned (.tuple #[a', b', c', d', e']) := by rw [h, k, l, m, n]
abbrev gotV (g : Got) : Value := .tuple #[.int .i64 g.1, .int .i64 g.2.1, .string (str g.2.2.1), .int .i64 g.2.2.2.1, .int .i64 g.2.2.2.2]
theorem take4_is (T : ByteArray) (k : Nat) (a : Int) (w : World) (ha : a = (k : Int)) (h : k + 4 ≤ T.size) (hT : T.size ≤ maxLen) :
    Calls Try.prog 26 #[.string T, .int .i64 a, .int .i64 4] w fun e w' => e = .returned (.tuple #[.int .i64 ((n4 T.data.toList k : Nat) : Int), .int .i64 (a + 4), .int .i64 0]) ∧ w = w' :=
  takeNum_is _ _ _ T a 4 w (take4 ha (by simpa using h)) hT
theorem sign_no {T : ByteArray} (h1 : T.data.toList[0]? ≠ some 77) : ((T.extract 0 1).toList == [77]) = false := by
  rw [ByteArray.toList_eq, extract_str, str_data, beq_eq_false_iff_ne]
  intro e
  apply h1
  have := congrArg (fun l => l[0]?) e
  simpa using this
theorem sign_yes {T : ByteArray} (h1 : T.data.toList[0]? = some 77) : ((T.extract 0 1).toList == [77]) = true := by
  rw [ByteArray.toList_eq, extract_str, str_data, beq_iff_eq]
  cases hl : T.data.toList with
  | nil => rw [hl] at h1; cases h1
  | cons a r => rw [hl] at h1; simp at h1; simp [h1]

set_option maxHeartbeats 4000000 in
set_option maxRecDepth 100000 in
theorem get_any (s : ByteArray) (a : Int) (w : World) (hs : s.size ≤ maxLen) :
    Calls Try.prog 40 #[.string s, .int .i64 a] w (Ret (gotV (get s.data.toList a)) w) := by
  have hsl : s.data.toList.length = s.size := by simp
  have hs2 : s.size ≤ 9223372036854775807 := by unfold maxLen at hs; omega
  by_cases h1 : a < 0
  · have HG : Hid (get s.data.toList a = bad 2) := get_arg (.inl h1)
    rw [HG.out]
    clear hsl
    go_enter Try.func40, Try.ntmps40
    go_wp2_with fail
    (try simp only [Exit.inBlock, Exit.then]); refine bodyPost_ret (results_five rfl _ _ _) rfl ?_
    exact ⟨rfl, Below.refl _ _⟩
  have h1' : 0 ≤ a := by omega
  by_cases h2 : (s.size : Int) < a
  · have HG : Hid (get s.data.toList a = bad 2) := get_arg (.inr (by omega))
    rw [HG.out]
    clear hsl h1
    go_enter Try.func40, Try.ntmps40
    go_wp2_with fail
    (try simp only [Exit.inBlock, Exit.then]); refine bodyPost_ret (results_five rfl _ _ _) rfl ?_
    exact ⟨rfl, Below.refl _ _⟩
  obtain ⟨k, rfl⟩ : ∃ k : Nat, a = (k : Int) := ⟨a.toNat, by omega⟩
  have hk : k ≤ s.size := by omega
  have hk2 : decide ((k : Int) < 0) = false := decide_eq_false (by omega)
  have hk3 : decide (s.size < k) = false := decide_eq_false (by omega)
  have HG : Hid (get s.data.toList (k : Int) = getT (s.data.toList.drop k) (k : Int)) := get_in (by omega)
  obtain ⟨T, hT⟩ : ∃ T, T = s.extract k s.size := ⟨_, rfl⟩
  have hTd : T.data.toList = s.data.toList.drop k := by rw [hT]; exact Lib.extract_to_end _ _
  have hTs : k + T.size = s.size := by
    have := congrArg List.length hTd
    simp at this
    omega
  have hTl : T.data.toList.length = T.size := by simp
  have hTm : T.size ≤ maxLen := by omega
  rw [← hTd] at HG
  have HT := Lib.hid hT
  have HTm := Lib.hid hTm
  rw [HG.out]
  have hT2 : T.size ≤ 9223372036854775807 := by omega
  have HTl := Lib.hid hTl
  have HTs := Lib.hid hTs
  have hs3 : k + T.size ≤ s.size := by omega
  clear hTd hsl h1 h2 h1' hT hTm hTl hTs hs
  by_cases h3 : T.size < 13
  · have HG : Hid (getT T.data.toList k = bad 30) := getT_short (by rw [HTl.out]; exact h3)
    rw [HG.out]
    go_enter Try.func40, Try.ntmps40
    go_upto_region 4 with fail
    rw [← HT.out]
    go_wp2_with fail
    (try simp only [Exit.inBlock, Exit.then]); refine bodyPost_ret (results_five rfl _ _ _) rfl ?_
    exact ⟨rfl, Below.refl _ _⟩
  have h3' : 13 ≤ T.size := by omega
  have h3L : 13 ≤ T.data.toList.length := by rw [HTl.out]; exact h3'
  have HN1 := Lib.hid fun w => take4_is T 1 1 w rfl (by omega) HTm.out
  have hz := n4_lt T.data.toList 1
  have HN2 := Lib.hid fun w => take4_is T 5 5 w rfl (by omega) HTm.out
  have HN3 := Lib.hid fun w => take4_is T 9 9 w rfl (by omega) HTm.out
  obtain ⟨z, hzz⟩ : ∃ z, z = n4 T.data.toList 1 := ⟨_, rfl⟩
  rw [← hzz] at HN1 hz
  have HZ := Lib.hid hzz
  have H3L := Lib.hid h3L
  clear hzz h3 h3L
  by_cases h4 : T.data.toList[0]? = some 77
  case neg =>
    have HG : Hid (getT T.data.toList k = bad 241) := getT_sign H3L.out h4
    rw [HG.out]
    have e1 := sign_no h4
    clear h4
    go_enter Try.func40, Try.ntmps40
    go_upto_region 4 with fail
    rw [← HT.out]
    go_wp2_with fail
    refine (HN1.out _).mono ?_
    rintro e w1 ⟨rfl, rfl⟩
    go_wp2_with fail
    (try simp only [Exit.inBlock, Exit.then]); refine bodyPost_ret (results_five rfl _ _ _) rfl ?_
    exact ⟨rfl, Below.refl _ _⟩
  have e1 := sign_yes h4
  have H4 := Lib.hid h4
  clear h4
  by_cases h5 : 200000 < z
  · have HG : Hid (getT T.data.toList k = bad 3) := getT_big H3L.out H4.out (by rw [← HZ.out]; exact h5)
    rw [HG.out]
    have t1 : decide ((200000 : Int) < (z : Int)) = true := decide_eq_true (by omega)
    clear h5
    go_enter Try.func40, Try.ntmps40
    go_upto_region 4 with fail
    rw [← HT.out]
    go_wp2_with fail
    refine (HN1.out _).mono ?_
    rintro e w1 ⟨rfl, rfl⟩
    go_wp2_with fail
    (try simp only [Exit.inBlock, Exit.then]); refine bodyPost_ret (results_five rfl _ _ _) rfl ?_
    exact ⟨rfl, Below.refl _ _⟩
  have t1 : decide ((200000 : Int) < (z : Int)) = false := decide_eq_false (by omega)
  have h5' : z ≤ 200000 := by omega
  have H5 : Hid (n4 T.data.toList 1 ≤ 200000) := by show _ ≤ _; rw [← HZ.out]; exact h5'
  have hz2 : z ≤ 1000000 := by omega
  by_cases h6 : T.size < 17 + z
  · have HG : Hid (getT T.data.toList k = bad 30) := getT_short2 H3L.out H4.out H5.out (by rw [← HZ.out, HTl.out]; exact h6)
    rw [HG.out]
    have t2 : decide ((T.size : Int) - 13 < (z : Int) + 4) = true := decide_eq_true (by omega)
    clear h5 h5'
    go_enter Try.func40, Try.ntmps40
    go_upto_region 4 with fail
    rw [← HT.out]
    go_wp2_with fail
    refine (HN1.out _).mono ?_
    rintro e w1 ⟨rfl, rfl⟩
    go_wp2_with fail
    (try simp only [Exit.inBlock, Exit.then]); refine bodyPost_ret (results_five rfl _ _ _) rfl ?_
    exact ⟨rfl, Below.refl _ _⟩
  have h6' : 17 + z ≤ T.size := by omega
  have H6 : Hid (17 + n4 T.data.toList 1 ≤ T.data.toList.length) := by show _ ≤ _; rw [← HZ.out, HTl.out]; exact h6'
  have t2 : decide ((T.size : Int) - 13 < (z : Int) + 4) = false := decide_eq_false (by omega)
  have HSm : Hid (∀ w, Calls Try.prog 57 #[.string (T.extract 0 (13 + z))] w (fun e w' => e = .returned (.string (str (sumL (T.extract 0 (13 + z)).data.toList))) ∧ Below w.heap.size w w')) := fun w => sum_any (T.extract 0 (13 + z)) w (by rw [extract_str, str_size]; have := HTm.out; simp; omega)
  clear h5 h5' h6
  have g1 : (0 : Int) ≤ (13 : Int) + (z : Int) := by omega
  have g2 : (13 : Int) + (z : Int) ≤ (T.size : Int) := by omega
  have g3 : (13 : Int) + (z : Int) + 4 ≤ (T.size : Int) := by omega
  have g4 : (13 : Int) + (z : Int) ≤ (13 : Int) + (z : Int) + 4 := by omega
  have g5 : (0 : Int) ≤ (13 : Int) + (z : Int) + 4 := by omega
  have w1 : IntKind.i64.wrap ((13 : Int) + (z : Int)) = (13 : Int) + (z : Int) := IntWalk.i64_in _ (by omega)
  have w2 : IntKind.i64.wrap ((13 : Int) + (z : Int) + 4) = (13 : Int) + (z : Int) + 4 := IntWalk.i64_in _ (by omega)
  have v1 : ((13 : Int) + (z : Int)).toNat = 13 + z := by omega
  have v2 : ((13 : Int) + (z : Int) + 4).toNat = 13 + z + 4 := by omega
  have HQ := Lib.hid (sum_cmp T z (by omega))
  obtain ⟨X, hX⟩ : ∃ X, X = str (sumL (T.extract 0 (13 + z)).data.toList) := ⟨_, rfl⟩
  rw [← hX] at HSm HQ
  clear hX
  by_cases h7 : Sums.more 1 (T.data.toList.take (13 + z)) = ((n4 T.data.toList (13 + z) : Nat) : Int)
  case neg =>
    have HG : Hid (getT T.data.toList k = bad 240) := getT_sum H3L.out H4.out H5.out H6.out (by rw [← HZ.out]; exact h7)
    rw [HG.out]
    have e7 : (X.toList == (T.extract (13 + z) (13 + z + 4)).toList) = false := by rw [HQ.out]; exact decide_eq_false h7
    clear h7
    go_enter Try.func40, Try.ntmps40
    go_upto_region 4 with fail
    rw [← HT.out]
    go_wp2_with fail
    refine (HN1.out _).mono ?_
    rintro e w1 ⟨rfl, rfl⟩
    go_wp2_with fail
    go_region_held3 (fun _ => True) (exact trivial) ((go_at_call 57; with_reducible refine (HSm.out _).mono ?_; rintro e w2 ⟨rfl, b2⟩))
    go_wp2_with fail
    (try simp only [Exit.inBlock, Exit.then]); refine bodyPost_ret (results_five rfl _ _ _) rfl ?_
    exact ⟨rfl, below_step (below_drewN (Below.refl _ _) 1) b2⟩
  have HG : Hid (getT T.data.toList k = (((n4 T.data.toList 5 : Nat) : Int), ((n4 T.data.toList 9 : Nat) : Int), (T.data.toList.drop 13).take z, (k : Int) + ((17 + z : Nat) : Int), 0)) := by
    show _ = _
    rw [getT_ok H3L.out H4.out H5.out H6.out (by rw [← HZ.out]; exact h7), ← HZ.out]
  rw [HG.out]
  have e7 : (X.toList == (T.extract (13 + z) (13 + z + 4)).toList) = true := by rw [HQ.out]; exact decide_eq_true h7
  have w3 : IntKind.i64.wrap ((k : Int) + 13) = (k : Int) + 13 := IntWalk.i64_in _ (by omega)
  have w4 : IntKind.i64.wrap ((k : Int) + 13 + z) = (k : Int) + 13 + z := IntWalk.i64_in _ (by omega)
  have w5 : IntKind.i64.wrap ((k : Int) + 13 + z + 4) = (k : Int) + 13 + z + 4 := IntWalk.i64_in _ (by omega)
  have HB : Hid (str ((T.data.toList.drop 13).take z) = T.extract 13 (13 + z)) := by show _ = _; rw [extract_str, Nat.add_sub_cancel_left]
  have g6 : (13 : Int) ≤ (13 : Int) + (z : Int) := by omega
  clear h7
  go_enter Try.func40, Try.ntmps40
  go_upto_region 4 with fail
  rw [← HT.out]
  go_wp2_with fail
  refine (HN1.out _).mono ?_
  rintro e w1 ⟨rfl, rfl⟩
  go_wp2_with fail
  go_region_held3 (fun _ => True) (exact trivial) ((go_at_call 57; with_reducible refine (HSm.out _).mono ?_; rintro e w2 ⟨rfl, b2⟩))
  go_wp2_with fail
  refine (HN2.out _).mono ?_
  rintro e w3 ⟨rfl, rfl⟩
  go_wp2_with fail
  refine (HN3.out _).mono ?_
  rintro e w4 ⟨rfl, rfl⟩
  go_wp2_with fail
  go_quiet (fail)
  go_wp2_with fail
  (try simp only [Exit.inBlock, Exit.then]); refine bodyPost_ret (results_five rfl _ _ _) rfl ?_
  exact ⟨ret5 rfl rfl (congrArg Value.string HB.out.symm) (congrArg (Value.int .i64) (by simp only; omega)) rfl, below_drewN (below_step (below_drewN (Below.refl _ _) 1) b2) _⟩
end Go.Proofs.Ytgmoakbmomaffaa.FrameW
