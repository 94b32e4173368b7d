/-
  Contract: musterref24.Get.
-/
import Derived.Test.YtgmoakbmomaffaaFrameGet
namespace Go.Proofs.Ytgmoakbmomaffaa.FrameW
open Go.RowKit Mem Frm PackW
set_option linter.unusedVariables false
set_option linter.unusedSimpArgs false

theorem rnum_is (s : ByteArray) (k : Nat) (a : Int) (w : World) (ha : a = (k : Int)) (h : k + 4 ≤ s.size) (hs : s.size ≤ maxLen) :
    Calls Try.prog 59 #[.string s, .int .i64 a] w fun e w' => e = .returned (.int .i64 ((n4 s.data.toList k : Nat) : Int)) ∧ w = w' := by
  have HT := Lib.hid (rtakeNum_any s a 4 w hs)
  rw [take4 ha (by simpa using h)] at HT
  clear ha h
  go_enter Try.func59, Try.ntmps59
  go_wp2_with fail
  refine HT.out.mono ?_
  rintro e w1 ⟨rfl, rfl⟩
  go_wp2_with fail
  go_ret
  exact ⟨rfl, rfl⟩
theorem byte_at (s : ByteArray) (k : Nat) (h : k < s.size) : (s.data.toList.drop k)[0]? = some s[k] := by
  rw [List.getElem?_drop, Nat.add_zero, List.getElem?_eq_getElem (by simpa using h)]
  rfl
theorem byte_yes {s : ByteArray} {k : Nat} (h : k < s.size) (h1 : (s.data.toList.drop k)[0]? = some 77) : ((s[k].toNat : Int) == 77) = true := by
  rw [byte_at s k h] at h1
  injection h1 with h1
  rw [h1]
  rfl
theorem byte_no {s : ByteArray} {k : Nat} (h : k < s.size) (h1 : (s.data.toList.drop k)[0]? ≠ some 77) : ((s[k].toNat : Int) == 77) = false := by
  rw [byte_at s k h] at h1
  rw [beq_eq_false_iff_ne]
  intro e
  apply h1
  congr 1
  apply UInt8.toNat_inj.1
  have : s[k].toNat = 77 := by omega
  exact this
set_option maxHeartbeats 4000000 in
set_option maxRecDepth 100000 in
theorem rget_any (s : ByteArray) (a : Int) (w : World) (hs : s.size ≤ maxLen) :
    Calls Try.prog 41 #[.string s, .int .i64 a] w (Ret (gotV (get s.data.toList a)) w) := by
  have hsl : s.data.toList.length = s.size := by simp
  have hs2 : s.size ≤ 9223372036854775807 := by unfold maxLen at hs; omega
  by_cases h1 : a < 0
  · have HG : Hid (get s.data.toList a = bad 2) := get_arg (.inl h1)
    rw [HG.out]
    clear hsl
    go_enter Try.func41, Try.ntmps41
    go_wp2_with fail
    (try simp only [Exit.inBlock, Exit.then]); refine bodyPost_ret (results_five rfl _ _ _) rfl ?_
    exact ⟨rfl, Below.refl _ _⟩
  have h1' : 0 ≤ a := by omega
  by_cases h2 : (s.size : Int) < a
  · have HG : Hid (get s.data.toList a = bad 2) := get_arg (.inr (by omega))
    rw [HG.out]
    clear hsl h1
    go_enter Try.func41, Try.ntmps41
    go_wp2_with fail
    (try simp only [Exit.inBlock, Exit.then]); refine bodyPost_ret (results_five rfl _ _ _) rfl ?_
    exact ⟨rfl, Below.refl _ _⟩
  obtain ⟨k, rfl⟩ : ∃ k : Nat, a = (k : Int) := ⟨a.toNat, by omega⟩
  have hk : k ≤ s.size := by omega
  have hk2 : decide ((k : Int) < 0) = false := decide_eq_false (by omega)
  have hk3 : decide (s.size < k) = false := decide_eq_false (by omega)
  have HG : Hid (get s.data.toList (k : Int) = getT (s.data.toList.drop k) (k : Int)) := get_in (by omega)
  obtain ⟨L, hL⟩ : ∃ L, L = s.data.toList.drop k := ⟨_, rfl⟩
  have hLl : k + L.length = s.size := by rw [hL, List.length_drop, hsl]; omega
  rw [← hL] at HG
  rw [HG.out]
  have HL := Lib.hid hL
  have HLl := Lib.hid hLl
  have HS := Lib.hid hs
  obtain ⟨n, hn⟩ : ∃ n : Nat, n = L.length := ⟨_, rfl⟩
  have hns : k + n ≤ s.size := by omega
  have hns2 : s.size ≤ k + n := by omega
  have HN := Lib.hid hn
  have v0 : decide ((s.size : Int) - (k : Int) < 13) = decide (n < 13) := by congr 1; apply propext; omega
  have w0 : IntKind.i64.wrap ((s.size : Int) - (k : Int)) = (s.size : Int) - (k : Int) := IntWalk.i64_in _ (by omega)
  clear hsl h1 h2 h1' hL hLl hs hn
  by_cases h3 : n < 13
  · have HG : Hid (getT L k = bad 30) := getT_short (by rw [← HN.out]; exact h3)
    rw [HG.out]
    have t0 : decide ((s.size : Int) - (k : Int) < 13) = true := by rw [v0]; exact decide_eq_true h3
    clear v0
    go_enter Try.func41, Try.ntmps41
    go_wp2_with fail
    (try simp only [Exit.inBlock, Exit.then]); refine bodyPost_ret (results_five rfl _ _ _) rfl ?_
    exact ⟨rfl, Below.refl _ _⟩
  have h3' : 13 ≤ n := by omega
  have t0 : decide ((s.size : Int) - (k : Int) < 13) = false := by rw [v0]; exact decide_eq_false h3
  have h3L : 13 ≤ L.length := by rw [← HN.out]; exact h3'
  have hks : k < s.size := by omega
  have HN1 := Lib.hid fun w => rnum_is s (k + 1) ((k : Int) + 1) w (by omega) (by omega) HS.out
  have HN2 := Lib.hid fun w => rnum_is s (k + 5) ((k : Int) + 5) w (by omega) (by omega) HS.out
  have HN3 := Lib.hid fun w => rnum_is s (k + 9) ((k : Int) + 9) w (by omega) (by omega) HS.out
  have hz := n4_lt L 1
  rw [← n4_drop, ← HL.out] at HN1 HN2 HN3
  obtain ⟨z, hzz⟩ : ∃ z, z = n4 L 1 := ⟨_, rfl⟩
  rw [← hzz] at HN1 hz
  have HZ := Lib.hid hzz
  have H3L := Lib.hid h3L
  have w1 : IntKind.i64.wrap ((k : Int) + 1) = (k : Int) + 1 := IntWalk.i64_in _ (by omega)
  clear hzz h3 h3L v0
  by_cases h4 : L[0]? = some 77
  case neg =>
    have HG : Hid (getT L k = bad 241) := getT_sign H3L.out h4
    rw [HG.out]
    have e1 := byte_no hks (by rw [← HL.out]; exact h4)
    clear h4
    go_enter Try.func41, Try.ntmps41
    go_wp2_with fail
    (try simp only [Exit.inBlock, Exit.then]); refine bodyPost_ret (results_five rfl _ _ _) rfl ?_
    exact ⟨rfl, Below.refl _ _⟩
  have e1 := byte_yes hks (by rw [← HL.out]; exact h4)
  have H4 := Lib.hid h4
  clear h4
  by_cases h5 : 200000 < z
  · have HG : Hid (getT L k = bad 3) := getT_big H3L.out H4.out (by rw [← HZ.out]; exact h5)
    rw [HG.out]
    have t1 : decide ((200000 : Int) < (z : Int)) = true := decide_eq_true (by omega)
    clear h5
    go_enter Try.func41, Try.ntmps41
    go_wp2_with fail
    refine (HN1.out _).mono ?_
    rintro e w1 ⟨rfl, rfl⟩
    go_wp2_with fail
    (try simp only [Exit.inBlock, Exit.then]); refine bodyPost_ret (results_five rfl _ _ _) rfl ?_
    exact ⟨rfl, Below.refl _ _⟩
  have t1 : decide ((200000 : Int) < (z : Int)) = false := decide_eq_false (by omega)
  have h5' : z ≤ 200000 := by omega
  have H5 : Hid (n4 L 1 ≤ 200000) := by show _ ≤ _; rw [← HZ.out]; exact h5'
  have hz2 : z ≤ 1000000 := by omega
  have w2 : IntKind.i64.wrap ((17 : Int) + (z : Int)) = (17 : Int) + (z : Int) := IntWalk.i64_in _ (by omega)
  by_cases h6 : n < 17 + z
  · have HG : Hid (getT L k = bad 30) := getT_short2 H3L.out H4.out H5.out (by rw [← HZ.out, ← HN.out]; exact h6)
    rw [HG.out]
    have t2 : decide ((s.size : Int) - (k : Int) < (17 : Int) + (z : Int)) = true := decide_eq_true (by omega)
    clear h5 h5'
    go_enter Try.func41, Try.ntmps41
    go_wp2_with fail
    refine (HN1.out _).mono ?_
    rintro e w1 ⟨rfl, rfl⟩
    go_wp2_with fail
    (try simp only [Exit.inBlock, Exit.then]); refine bodyPost_ret (results_five rfl _ _ _) rfl ?_
    exact ⟨rfl, Below.refl _ _⟩
  have h6' : 17 + z ≤ n := by omega
  have H6 : Hid (17 + n4 L 1 ≤ L.length) := by show _ ≤ _; rw [← HZ.out, ← HN.out]; exact h6'
  have t2 : decide ((s.size : Int) - (k : Int) < (17 : Int) + (z : Int)) = false := decide_eq_false (by omega)
  have HN4 := Lib.hid fun w => rnum_is s (k + (13 + z)) ((k : Int) + 13 + (z : Int)) w (by omega) (by omega) HS.out
  rw [← n4_drop, ← HL.out] at HN4
  have HE : Hid (s.extract k (k + 13 + z) = str (L.take (13 + z))) := by show _ = _; rw [extract_str, ← HL.out]; congr 2; omega
  have HSm : Hid (∀ w : World, Calls Try.prog 18 #[.slice (some ⟨w.heap.size, 0, none⟩) 1 1] (w.alloc (.cells #[.string (s.extract k (k + 13 + z))] 9)) (fun e w'' => e = .returned (.int .u32 (Sums.more 1 (L.take (13 + z)))) ∧ w.alloc (.cells #[.string (s.extract k (k + 13 + z))] 9) = w'')) := fun w => by
    have := SumsW.rsum_any _ 1 1 [s.extract k (k + 13 + z)] _ (SumsW.strs_new1 w _ 9) (by unfold maxLen; omega) (by intro x hx; simp at hx; subst hx; have := HS.out; simp; omega)
    rw [HE.out] at this ⊢
    exact this
  have hN := n4_lt L (13 + z)
  have hbd := Sums.more_bd 1 (L.take (13 + z))
  have HGs : Hid (getT L k = bad 240 ∨ getT L k = (((n4 L 5 : Nat) : Int), ((n4 L 9 : Nat) : Int), (L.drop 13).take z, (k : Int) + ((17 + z : Nat) : Int), 0)) := by
    show _ ∨ _
    by_cases h7 : Sums.more 1 (L.take (13 + z)) = ((n4 L (13 + z) : Nat) : Int)
    · exact .inr (by rw [getT_ok H3L.out H4.out H5.out H6.out (by rw [← HZ.out]; exact h7), ← HZ.out])
    · exact .inl (getT_sum H3L.out H4.out H5.out H6.out (by rw [← HZ.out]; exact h7))
  have HG1 : Hid (Sums.more 1 (L.take (13 + z)) ≠ ((n4 L (13 + z) : Nat) : Int) → getT L k = bad 240) := fun h7 => getT_sum H3L.out H4.out H5.out H6.out (by rw [← HZ.out]; exact h7)
  have HG2 : Hid (Sums.more 1 (L.take (13 + z)) = ((n4 L (13 + z) : Nat) : Int) → getT L k = (((n4 L 5 : Nat) : Int), ((n4 L 9 : Nat) : Int), (L.drop 13).take z, (k : Int) + ((17 + z : Nat) : Int), 0)) := fun h7 => by
    rw [getT_ok H3L.out H4.out H5.out H6.out (by rw [← HZ.out]; exact h7), ← HZ.out]
  obtain ⟨m, hm⟩ : ∃ m, m = Sums.more 1 (L.take (13 + z)) := ⟨_, rfl⟩
  obtain ⟨N, hNN⟩ : ∃ N, N = n4 L (13 + z) := ⟨_, rfl⟩
  rw [← hm] at HSm hbd HG1 HG2
  rw [← hNN] at HN4 hN HG1 HG2
  have w3 : IntKind.i64.wrap ((k : Int) + 13) = (k : Int) + 13 := IntWalk.i64_in _ (by omega)
  have w4 : IntKind.i64.wrap ((k : Int) + 13 + (z : Int)) = (k : Int) + 13 + (z : Int) := IntWalk.i64_in _ (by omega)
  have w5 : IntKind.i64.wrap ((k : Int) + 13 + (z : Int) + 4) = (k : Int) + 13 + (z : Int) + 4 := IntWalk.i64_in _ (by omega)
  have w6 : IntKind.i64.wrap ((k : Int) + 5) = (k : Int) + 5 := IntWalk.i64_in _ (by omega)
  have w7 : IntKind.i64.wrap ((k : Int) + 9) = (k : Int) + 9 := IntWalk.i64_in _ (by omega)
  have g1 : (0 : Int) ≤ (k : Int) + 13 + (z : Int) := by omega
  have g2 : (k : Int) + 13 + (z : Int) ≤ (s.size : Int) := by omega
  have g3 : (k : Int) ≤ (k : Int) + 13 + (z : Int) := by omega
  have g4 : (0 : Int) ≤ (k : Int) + 13 := by omega
  have g5 : (k : Int) + 13 ≤ (k : Int) + 13 + (z : Int) := by omega
  have v1 : ((k : Int) + 13 + (z : Int)).toNat = k + 13 + z := by omega
  have v2 : ((k : Int) + 13).toNat = k + 13 := by omega
  have w8 : IntKind.u32.wrap (N : Int) = (N : Int) := by unfold IntKind.wrap; simp [IntKind.bits, IntKind.signed]; omega
  clear h5 h5' h6 hm hNN HGs
  by_cases h7 : m = (N : Int)
  case neg =>
    rw [HG1.out h7]
    have e7 : (m == (N : Int)) = false := by simpa using h7
    clear h7
    go_enter Try.func41, Try.ntmps41
    go_wp2_with fail
    refine (HN1.out _).mono ?_
    rintro e w1 ⟨rfl, rfl⟩
    go_wp2_with fail
    refine (HSm.out _).mono ?_
    rintro e w2 ⟨rfl, rfl⟩
    go_wp2_with fail
    refine (HN4.out _).mono ?_
    rintro e w3 ⟨rfl, rfl⟩
    go_wp2_with fail
    (try simp only [Exit.inBlock, Exit.then]); refine bodyPost_ret (results_five rfl _ _ _) rfl ?_
    exact ⟨rfl, new_1 w _⟩
  rw [HG2.out h7]
  have e7 : (m == (N : Int)) = true := by simpa using h7
  have HB : Hid (str ((L.drop 13).take z) = s.extract (k + 13) (k + 13 + z)) := by show _ = _; rw [extract_str, HL.out, List.drop_drop]; congr 2; omega
  clear h7
  go_enter Try.func41, Try.ntmps41
  go_wp2_with fail
  refine (HN1.out _).mono ?_
  rintro e w1 ⟨rfl, rfl⟩
  go_wp2_with fail
  refine (HSm.out _).mono ?_
  rintro e w2 ⟨rfl, rfl⟩
  go_wp2_with fail
  refine (HN4.out _).mono ?_
  rintro e w3 ⟨rfl, rfl⟩
  go_wp2_with fail
  go_region_held3 (fun _ => True) (exact trivial) (first
    | (go_at_call 59; with_reducible refine (HN2.out _).mono ?_; rintro e w4 ⟨rfl, rfl⟩)
    | (go_at_call 59; with_reducible refine (HN3.out _).mono ?_; rintro e w4 ⟨rfl, rfl⟩))
  go_wp2_with fail
  (try simp only [Exit.inBlock, Exit.then]); refine bodyPost_ret (results_five rfl _ _ _) rfl ?_
  exact ⟨ret5 rfl rfl (congrArg Value.string HB.out.symm) (congrArg (Value.int .i64) (by simp only; omega)) rfl, below_drewN (new_1 w _) 1⟩
end Go.Proofs.Ytgmoakbmomaffaa.FrameW
