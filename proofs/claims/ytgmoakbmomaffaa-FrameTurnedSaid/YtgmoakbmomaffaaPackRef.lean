/-
  Contracts of muster/pack.TakeText and of the document's answer for layer 3 (musterref03: width, Number, Text, TakeNumber, TakeText), for every argument.
-/
import Derived.Test.YtgmoakbmomaffaaPackBase
import Derived.OwnWalk
namespace Go.Proofs.Ytgmoakbmomaffaa.PackW
open Go.RowKit Mem
set_option linter.unusedVariables false

theorem takeNum_bd (s : List UInt8) (a : Int) (k : Int) (hl : s.length ≤ 9223372036854775807) : 0 ≤ (Pack.takeNum s a k).1 ∧ 0 ≤ (Pack.takeNum s a k).2.1 ∧ (Pack.takeNum s a k).2.1 ≤ s.length ∧ (Pack.takeNum s a k).1 ≤ 9223372036854775807 := by
  unfold Pack.takeNum
  split
  · simp
  · rename_i h
    have hk : Pack.isW k = true := by
      cases hk : Pack.isW k
      · exact absurd (.inr (.inr hk)) h
      · rfl
    have hk1 : 1 ≤ k := by rcases Pack.isW_of hk with rfl | rfl | rfl | rfl <;> omega
    have ha : 0 ≤ a := by omega
    clear h hk
    repeat' split
    all_goals simp
    omega
theorem takeNum2_bd (s : List UInt8) (a : Int) : (Pack.takeNum s a 2).1 ≤ 65535 := by
  have h := Pack.num_lt ((s.drop a.toNat).take 2)
  have hl := List.length_take_le 2 (s.drop a.toNat)
  have h2 : 256 ^ ((s.drop a.toNat).take 2).length ≤ 256 ^ 2 := Nat.pow_le_pow_right (by omega) hl
  unfold Pack.takeNum
  rw [show (2 : Int).toNat = 2 from rfl]
  generalize Pack.num ((s.drop a.toNat).take 2) = M at *
  repeat' split
  all_goals simp
  omega

theorem extract_str (s : ByteArray) (a b : Nat) : s.extract a b = str ((s.data.toList.drop a).take (b - a)) := by
  rw [← Lib.extract_data, str_of]

set_option maxHeartbeats 400000 in
theorem takeText_any (s : ByteArray) (a : Int) (w : World) (hs : s.size ≤ maxLen) :
    Calls Try.prog 32 #[.string s, .int .i64 a] w fun e w' =>
      e = .returned (.tuple #[.string (str (Pack.takeText s.data.toList a).1), .int .i64 (Pack.takeText s.data.toList a).2.1, .int .i64 (Pack.takeText s.data.toList a).2.2]) ∧ w = w' := by
  have hs' : s.size ≤ maxLen := hs
  unfold maxLen at hs
  have HC := Lib.hid (takeNum_any s a 2 w hs')
  have hlen : s.data.toList.length = s.size := by simp
  have hbd := takeNum_bd s.data.toList a 2 (by omega)
  have hb2 := takeNum2_bd s.data.toList a
  obtain ⟨n, to, e, hT⟩ : ∃ n to e, Pack.takeNum s.data.toList a 2 = (n, to, e) := ⟨_, _, _, rfl⟩
  rw [hT] at HC hbd hb2
  simp only [hlen] at hbd
  simp only at hb2
  obtain ⟨n0, t0, t1, _⟩ := hbd
  by_cases he : e = 0
  · subst he
    obtain ⟨N, rfl⟩ := Int.eq_ofNat_of_zero_le n0
    obtain ⟨U, rfl⟩ := Int.eq_ofNat_of_zero_le t0
    by_cases hsh : (s.size : Int) - U < N
    · have HT : Hid (Pack.takeText s.data.toList a = ([], 0, 30)) := by
        show _ = _
        simp only [Pack.takeText, hT, hlen]
        rw [if_neg (by simp), if_pos hsh]
      clear hT hlen
      go_enter Try.func32, Try.ntmps32
      go_wp2_with fail
      refine HC.out.mono ?_
      rintro e w1 ⟨rfl, rfl⟩
      go_wp2_with fail
      go_ret3
      exact ⟨by rw [HT.out]; rfl, rfl⟩
    · have HT : Hid (Pack.takeText s.data.toList a = ((s.data.toList.drop U).take N, (U : Int) + N, 0)) := by
        show _ = _
        simp only [Pack.takeText, hT, hlen]
        rw [if_neg (by simp), if_neg hsh, Int.toNat_natCast, Int.toNat_natCast]
      clear hT hlen
      go_enter Try.func32, Try.ntmps32
      go_wp2_with fail
      refine HC.out.mono ?_
      rintro e w1 ⟨rfl, rfl⟩
      go_wp2_with fail
      go_ret3
      exact ⟨by rw [HT.out]; exact ret3 (congrArg Value.string (by show s.extract U (U + N) = _; rw [extract_str, Nat.add_sub_cancel_left])) rfl rfl, rfl⟩
  · have HT : Hid (Pack.takeText s.data.toList a = ([], 0, e)) := by
      show _ = _
      simp only [Pack.takeText, hT]
      rw [if_pos he]
    have he' : (e != 0) = true := by simpa using he
    have he2 : (e == 0) = false := by simpa using he
    clear hT hlen he
    go_enter Try.func32, Try.ntmps32
    go_wp2_with fail
    refine HC.out.mono ?_
    rintro e w1 ⟨rfl, rfl⟩
    go_wp2_with fail
    go_ret3
    exact ⟨by rw [HT.out]; rfl, rfl⟩

theorem width_any (k : Int) (w : World) :
    Calls Try.prog 51 #[.int .i64 k] w fun e w' => e = .returned (.bool (Pack.isW k)) ∧ w = w' := by
  cases hk : Pack.isW k
  · obtain ⟨h1, h2, h4, h8⟩ := Pack.not_isW hk
    have HK := Lib.hid hk
    clear hk
    go_enter Try.func51, Try.ntmps51
    go_wp2_with fail
    go_ret
    exact ⟨ret_bool HK.out, rfl⟩
  · rcases Pack.isW_of hk with rfl | rfl | rfl | rfl
    all_goals
      clear hk
      go_enter Try.func51, Try.ntmps51
      go_wp2_with fail
      go_ret
      exact ⟨rfl, rfl⟩
theorem width_is (v : Bool) (k : Int) (w : World) (h : Pack.isW k = v) :
    Calls Try.prog 51 #[.int .i64 k] w fun e w' => e = .returned (.bool v) ∧ w = w' := by rw [← h]; exact width_any k w

def RTakeRel (s : ByteArray) (a K : Nat) (n i : Value) : Prop :=
  ∃ k : Nat, k ≤ K ∧ i = .int .i64 k ∧ n = .int .i64 ((Pack.num ((s.data.toList.drop a).take k) : Nat) : Int)

/-- eight bytes whose first one is at most 127, and only those, are a number that an int holds -/
theorem num8 (l : List UInt8) (c : UInt8) (hl : l.length = 7) : 9223372036854775807 < Pack.num (c :: l) ↔ 127 < c.toNat := by
  have h := Pack.num_lt l
  rw [hl] at h
  rw [Pack.num, hl]
  omega
theorem num_small (l : List UInt8) (hl : l.length ≤ 7) : Pack.num l < 72057594037927936 := Nat.lt_of_lt_of_le (Pack.num_lt l) (pow_small _ hl)
theorem num_mono (s : ByteArray) (A j K : Nat) (h : j ≤ K) (h' : A + K ≤ s.size) : Pack.num ((s.data.toList.drop A).take j) ≤ Pack.num ((s.data.toList.drop A).take K) := by
  induction K with
  | zero => rw [Nat.le_zero.1 h]; exact Nat.le_refl _
  | succ K ih =>
    rcases Nat.lt_or_ge j (K + 1) with hj | hj
    · have := ih (by omega) (by omega)
      rw [drop_take_snoc s A K (by omega), Pack.num_snoc]
      omega
    · rw [show j = K + 1 by omega]; exact Nat.le_refl _
theorem drop_first (s : ByteArray) (A K : Nat) (h : A + K < s.size) : (s.data.toList.drop A).take (K + 1) = s[A] :: (s.data.toList.drop (A + 1)).take K := by
  rw [List.drop_eq_getElem_cons (by simp; omega), List.take_succ_cons]; rfl

set_option maxHeartbeats 400000 in
set_option maxRecDepth 100000 in
theorem rtakeNum_any (s : ByteArray) (a k : Int) (w : World) (hs : s.size ≤ maxLen) :
    Calls Try.prog 27 #[.string s, .int .i64 a, .int .i64 k] w fun e w' =>
      e = .returned (.tuple #[.int .i64 (Pack.takeNum s.data.toList a k).1, .int .i64 (Pack.takeNum s.data.toList a k).2.1, .int .i64 (Pack.takeNum s.data.toList a k).2.2]) ∧ w = w' := by
  unfold maxLen at hs
  have hlen : s.data.toList.length = s.size := by simp
  by_cases h0 : a < 0
  · have HT : Hid (Pack.takeNum s.data.toList a k = (0, 0, 2)) := by
      show _ = _
      rw [Pack.takeNum, if_pos (by omega)]
    clear hlen
    go_enter Try.func27, Try.ntmps27
    go_wp2_with fail
    go_ret3
    exact ⟨by rw [HT.out]; rfl, rfl⟩
  · by_cases h1 : (s.size : Int) < a
    · have HT : Hid (Pack.takeNum s.data.toList a k = (0, 0, 2)) := by
        show _ = _
        rw [Pack.takeNum, if_pos (by rw [hlen]; omega)]
      clear hlen
      go_enter Try.func27, Try.ntmps27
      go_wp2_with fail
      go_ret3
      exact ⟨by rw [HT.out]; rfl, rfl⟩
    · cases hk : Pack.isW k
      · have HT : Hid (Pack.takeNum s.data.toList a k = (0, 0, 2)) := by
          show _ = _
          rw [Pack.takeNum, if_pos (.inr (.inr hk))]
        have HW := Lib.hid (width_is false k w hk)
        clear hk hlen
        go_enter Try.func27, Try.ntmps27
        go_wp2_with fail
        refine HW.out.mono ?_
        rintro e w1 ⟨rfl, rfl⟩
        go_wp2_with fail
        go_ret3
        exact ⟨by rw [HT.out]; rfl, rfl⟩
      · have hk8 : 1 ≤ k ∧ k ≤ 8 := by rcases Pack.isW_of hk with rfl | rfl | rfl | rfl <;> omega
        have HW := Lib.hid (width_is true k w hk)
        obtain ⟨A, rfl⟩ := Int.eq_ofNat_of_zero_le (show 0 ≤ a by omega)
        obtain ⟨K, rfl⟩ := Int.eq_ofNat_of_zero_le (show 0 ≤ k by omega)
        by_cases hsh : (s.size : Int) - A < K
        · have HT : Hid (Pack.takeNum s.data.toList A K = (0, 0, 30)) := by
            show _ = _
            rw [Pack.takeNum, if_neg (by rw [hlen, hk]; simp; omega), if_pos (by rw [hlen]; exact hsh)]
          clear hk hlen
          go_enter Try.func27, Try.ntmps27
          go_wp2_with fail
          refine HW.out.mono ?_
          rintro e w1 ⟨rfl, rfl⟩
          go_wp2_with fail
          go_ret3
          exact ⟨by rw [HT.out]; rfl, rfl⟩
        · have HT : Hid (Pack.takeNum s.data.toList A K = if 9223372036854775807 < Pack.num ((s.data.toList.drop A).take K) then ((0 : Int), (0 : Int), (2 : Int)) else (((Pack.num ((s.data.toList.drop A).take K) : Nat) : Int), (A : Int) + K, 0)) := by
            show _ = _
            rw [Pack.takeNum, if_neg (by rw [hlen, hk]; simp; omega), if_neg (by rw [hlen]; exact hsh), Int.toNat_natCast, Int.toNat_natCast]
          have hAs : A < s.size := by omega
          have hll : ∀ j, ((s.data.toList.drop A).take j).length ≤ j := fun j => List.length_take_le _ _
          by_cases hbig : 9223372036854775807 < Pack.num ((s.data.toList.drop A).take K)
          · -- eight bytes, the first one too great
            have hK : K = 8 := by
              rcases Nat.lt_or_ge 7 K with h | h
              · omega
              · have := num_small ((s.data.toList.drop A).take K) (by have := hll K; omega)
                omega
            subst hK
            have hfst : 127 < s[A].toNat := by
              rw [drop_first s A 7 (by omega)] at hbig
              exact (num8 _ _ (by simp; omega)).1 hbig
            rw [if_pos hbig] at HT
            have hfi : (127 : Int) < (s[A].toNat : Int) := by omega
            clear hk hlen hll hbig
            go_enter Try.func27, Try.ntmps27
            go_wp2_with fail
            refine HW.out.mono ?_
            rintro e w1 ⟨rfl, rfl⟩
            go_wp2_with fail
            go_ret3
            exact ⟨by rw [HT.out]; rfl, rfl⟩
          · rw [if_neg hbig] at HT
            have hmono : ∀ j, j ≤ K → Pack.num ((s.data.toList.drop A).take j) ≤ 9223372036854775807 := fun j hj => by
              have := num_mono s A j K hj (by omega)
              omega
            have HMo := Lib.hid hmono
            have hfi : K = 8 → (s[A].toNat : Int) ≤ 127 := fun h => by
              subst h
              rw [drop_first s A 7 (by omega)] at hbig
              have := mt (num8 _ _ (by simp; omega)).2 hbig
              omega
            clear hk hlen hll hbig hmono
            by_cases h8 : K = 8
            all_goals
              first
                | (have hfi' := hfi h8; have h8i : ((K : Int) == 8) = true := by rw [beq_iff_eq]; omega)
                | (have h8i : ((K : Int) == 8) = false := by rw [beq_eq_false_iff_ne]; omega)
              clear hfi h8
              go_enter Try.func27, Try.ntmps27
              go_wp2_with fail
              refine HW.out.mono ?_
              rintro e w1 ⟨rfl, rfl⟩
              go_wp2_with fail
              go_loop [9, 10] (fun n i => RTakeRel s A K n i) (fun _ i => K - (intOf i).toNat)
              case atStart => exact ⟨0, by omega, rfl, by simp [Pack.num]⟩
              case round =>
                obtain ⟨j, hj, rfl, rfl⟩ := hrel
                by_cases hlt : j < K
                · have hN : Hid (Pack.num ((s.data.toList.drop A).take (j + 1)) = Pack.num ((s.data.toList.drop A).take j) * 256 + (s[A + j]'(by omega)).toNat) := by
                    show _ = _
                    rw [drop_take_snoc s A j (by omega), Pack.num_snoc]
                  have hM1 := HMo.out (j + 1) (by omega)
                  rw [hN.out] at hM1
                  have hMi : ((Pack.num ((s.data.toList.drop A).take j) : Nat) : Int) * 256 + ((s[A + j]'(by omega)).toNat : Int) ≤ 9223372036854775807 := by omega
                  clear hM1
                  generalize Pack.num ((s.data.toList.drop A).take j) = M at *
                  go_wp2_with fail
                  exact ⟨⟨j + 1, by omega, by go_num, by rw [hN.out]; go_num⟩, by simp [intOf]; omega⟩
                · obtain rfl : j = K := by omega
                  obtain ⟨M, hM⟩ : ∃ M, M = Pack.num ((s.data.toList.drop A).take j) := ⟨_, rfl⟩
                  rw [← hM] at HT
                  rw [← hM]
                  have HM := Lib.hid hM
                  clear hM
                  go_wp2_with fail
                  go_ret3
                  exact ⟨by rw [HT.out]; rfl, rfl⟩

set_option maxHeartbeats 400000 in
theorem rtakeText_any (s : ByteArray) (a : Int) (w : World) (hs : s.size ≤ maxLen) :
    Calls Try.prog 33 #[.string s, .int .i64 a] w fun e w' =>
      e = .returned (.tuple #[.string (str (Pack.takeText s.data.toList a).1), .int .i64 (Pack.takeText s.data.toList a).2.1, .int .i64 (Pack.takeText s.data.toList a).2.2]) ∧ w = w' := by
  have hs' : s.size ≤ maxLen := hs
  unfold maxLen at hs
  have HC := Lib.hid (rtakeNum_any s a 2 w hs')
  have hlen : s.data.toList.length = s.size := by simp
  have hbd := takeNum_bd s.data.toList a 2 (by omega)
  have hb2 := takeNum2_bd s.data.toList a
  obtain ⟨n, to, e, hT⟩ : ∃ n to e, Pack.takeNum s.data.toList a 2 = (n, to, e) := ⟨_, _, _, rfl⟩
  rw [hT] at HC hbd hb2
  simp only [hlen] at hbd
  simp only at hb2
  obtain ⟨n0, t0, t1, _⟩ := hbd
  by_cases he : e = 0
  · subst he
    obtain ⟨N, rfl⟩ := Int.eq_ofNat_of_zero_le n0
    obtain ⟨U, rfl⟩ := Int.eq_ofNat_of_zero_le t0
    by_cases hsh : (s.size : Int) - U < N
    · have HT : Hid (Pack.takeText s.data.toList a = ([], 0, 30)) := by
        show _ = _
        simp only [Pack.takeText, hT, hlen]
        rw [if_neg (by simp), if_pos hsh]
      clear hT hlen
      go_enter Try.func33, Try.ntmps33
      go_wp2_with fail
      refine HC.out.mono ?_
      rintro e w1 ⟨rfl, rfl⟩
      go_wp2_with fail
      go_ret3
      exact ⟨by rw [HT.out]; rfl, rfl⟩
    · have HT : Hid (Pack.takeText s.data.toList a = ((s.data.toList.drop U).take N, (U : Int) + N, 0)) := by
        show _ = _
        simp only [Pack.takeText, hT, hlen]
        rw [if_neg (by simp), if_neg hsh, Int.toNat_natCast, Int.toNat_natCast]
      clear hT hlen
      go_enter Try.func33, Try.ntmps33
      go_wp2_with fail
      refine HC.out.mono ?_
      rintro e w1 ⟨rfl, rfl⟩
      go_wp2_with fail
      go_ret3
      exact ⟨by rw [HT.out]; exact ret3 (congrArg Value.string (by show s.extract U (U + N) = _; rw [extract_str, Nat.add_sub_cancel_left])) rfl rfl, rfl⟩
  · have HT : Hid (Pack.takeText s.data.toList a = ([], 0, e)) := by
      show _ = _
      simp only [Pack.takeText, hT]
      rw [if_pos he]
    have he' : (e != 0) = true := by simpa using he
    have he2 : (e == 0) = false := by simpa using he
    clear hT hlen he
    go_enter Try.func33, Try.ntmps33
    go_wp2_with fail
    refine HC.out.mono ?_
    rintro e w1 ⟨rfl, rfl⟩
    go_wp2_with fail
    go_ret3
    exact ⟨by rw [HT.out]; rfl, rfl⟩
end Go.Proofs.Ytgmoakbmomaffaa.PackW
