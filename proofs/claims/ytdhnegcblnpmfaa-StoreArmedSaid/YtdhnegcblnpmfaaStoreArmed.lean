/-
  The walk of StoreArmed: true for every argument.
-/
import Derived.Test.YtdhnegcblnpmfaaStoreAwake
import Derived.Test.YtdhnegcblnpmfaaStoreText
namespace Go.Proofs.Ytdhnegcblnpmfaa.StorW
open Go.RowKit Mem Stor
set_option linter.unusedVariables false

def ABC : List UInt8 := wholeL [97, 98, 99]
theorem ABC_length : ABC.length = 256 := wholeL_length _ (by simp)
/-- the blocks behind i writes, no one of them armed -/
def upto (i : Nat) : List (List UInt8) := List.replicate i ABC ++ List.replicate (90 - i) zeros
def torn (k : Nat) : List UInt8 := ABC.take k ++ zeros.drop k
def afterAll (a k : Nat) : Sto := ⟨(upto (a - 1)).set (a - 1) (torn k), true, a, 0, k⟩
def stt (a k i : Nat) : Sto := if i < a then ⟨upto i, false, i, (a : Int) - i, k⟩ else afterAll a k

theorem upto_length (i : Nat) (h : i ≤ 90) : (upto i).length = 90 := by simp [upto]; omega
theorem upto_set (i : Nat) (h : i < 90) : (upto i).set i ABC = upto (i + 1) := by
  unfold upto
  rw [show 90 - i = (90 - (i + 1)) + 1 by omega, List.replicate_succ, List.set_append_right _ _ (by simp)]
  simp only [List.length_replicate, Nat.sub_self, List.set_cons_zero]
  rw [List.replicate_succ', List.append_assoc]
  rfl
theorem upto_get (i : Nat) (h : i < 90) : (upto i).getD i [] = zeros := by
  unfold upto
  rw [List.getD_eq_getElem?_getD, List.getElem?_append_right (by simp), List.length_replicate, Nat.sub_self, List.getElem?_replicate, if_pos (by omega)]
  rfl
theorem stt_write (a k i : Nat) (ha : 1 ≤ a) (hk : k ≤ 256) (ha9 : a ≤ 60) (hi : i < 90) : write (stt a k i) (i : Int) ABC = (stt a k (i + 1), if i + 1 < a then 0 else 330) := by
  have hA := ABC_length
  by_cases h : i < a
  · have hs : stt a k i = ⟨upto i, false, i, (a : Int) - i, k⟩ := by simp [stt, h]
    have hr : reach (stt a k i) i = 0 := by
      rw [hs, reach]
      simp only [Bool.false_eq_true, if_false]
      rw [upto_length i (by omega), if_neg (by omega)]
    rw [write, hr, if_neg (by simp), if_neg (by simp [hA]), hs]
    simp only [Int.toNat_natCast]
    by_cases h1 : i + 1 < a
    · rw [if_neg (by omega), if_pos h1, upto_set i hi]
      have : stt a k (i + 1) = ⟨upto (i + 1), false, (i + 1 : Nat), (a : Int) - (i + 1 : Nat), k⟩ := by simp [stt, h1]
      rw [this]
      congr 1
      simp
      omega
    · obtain rfl : a = i + 1 := by omega
      rw [if_pos (by omega), if_neg h1, upto_get i hi]
      have : stt (i + 1) k (i + 1) = afterAll (i + 1) k := by simp [stt]
      rw [this, afterAll]
      simp [torn]
  · have hs : stt a k i = afterAll a k := by simp [stt, h]
    have hs' : stt a k (i + 1) = afterAll a k := by simp [stt]; omega
    have hr : reach (afterAll a k) i = 330 := by simp [reach, afterAll]
    rw [hs, hs', write, hr, if_pos (by simp), if_neg (by omega)]
theorem stt_ok (a k i : Nat) (ha : 1 ≤ a) (hk : k ≤ 256) (ha9 : a ≤ 60) (hi : i ≤ 90) : (stt a k i).Ok := by
  induction i with
  | zero =>
    have hs : stt a k 0 = ⟨upto 0, false, 0, a, k⟩ := by simp [stt]; omega
    rw [hs]
    refine ⟨by rw [upto_length 0 (by omega)]; omega, by rw [upto_length 0 (by omega)]; omega, fun b hb => ?_, by simp, by simp; omega, by simp, by simp; omega, by simp⟩
    have : b ∈ List.replicate 90 zeros := by simpa [upto] using hb
    rw [List.eq_of_mem_replicate this]; exact zeros_length
  | succ i ih =>
    have h1 := stt_write a k i ha hk ha9 (by omega)
    have := write_ok (ih (by omega)) (i : Int) ABC
    rw [h1] at this
    exact this
theorem stt_wr (a k i : Nat) (ha9 : a ≤ 60) : (stt a k i).wr < 1000000 := by
  unfold stt
  split
  · simp; omega
  · simp [afterAll]; omega
theorem stt_start (a k : Nat) (ha : 1 ≤ a) (hk : k ≤ 256) : arm (new 90) a k = (stt a k 0, 0) := by
  have : stt a k 0 = ⟨upto 0, false, 0, a, k⟩ := by simp [stt]; omega
  rw [arm, if_neg (by simp [new]), if_neg (by omega), this]
  simp [new, upto]
theorem after_length (a k : Nat) (ha9 : a ≤ 60) : (afterAll a k).bs.length = 90 := by simp [afterAll, upto_length (a - 1) (by omega)]

/-- what block j is to be -/
def want (a k j : Nat) : List UInt8 := if j + 1 < a then ABC else if j + 1 = a then wholeL (ABC.take k) else wholeL []
theorem after_get (a k j : Nat) (ha : 1 ≤ a) (hk : k ≤ 256) (ha9 : a ≤ 60) (hj : j < 90) : (afterAll a k).bs[j]? = some (want a k j) := by
  have htorn : torn k = wholeL (ABC.take k) := by
    rw [torn, wholeL, List.length_take, ABC_length, Nat.min_eq_left hk]
  have hz : wholeL [] = zeros := by simp [wholeL]
  have hul := upto_length (a - 1) (by omega)
  unfold afterAll want
  simp only
  by_cases h1 : j + 1 = a
  · subst h1
    rw [if_neg (by omega), if_pos rfl, Nat.add_sub_cancel, List.getElem?_set_self (by rw [Nat.add_sub_cancel] at hul; omega), htorn]
  · rw [List.getElem?_set_ne (by omega)]
    unfold upto
    by_cases h2 : j + 1 < a
    · rw [if_pos h2, List.getElem?_append_left (by rw [List.length_replicate]; omega), List.getElem?_replicate, if_pos (by omega)]
    · rw [if_neg h2, if_neg h1, List.getElem?_append_right (by rw [List.length_replicate]; omega), hz, List.length_replicate, List.getElem?_replicate, if_pos (by omega)]

theorem whole_cut (k : Nat) (w : World) (hk : k ≤ 256) : Calls Try.prog 18 #[.string ((str (wholeL [97, 98, 99])).extract 0 k)] w (WholePost (ABC.take k) w) := by
  have e : ((str (wholeL [97, 98, 99])).extract 0 k).data.toList = ABC.take k := by rw [Lib.extract_data, str_data]; simp [ABC]
  have hz : ((str (wholeL [97, 98, 99])).extract 0 k).size ≤ 256 := by
    have h1 := congrArg List.length e
    rw [List.length_take, ABC_length] at h1
    have h2 : ((str (wholeL [97, 98, 99])).extract 0 k).data.toList.length = ((str (wholeL [97, 98, 99])).extract 0 k).size := by simp
    omega
  have := whole_any ((str (wholeL [97, 98, 99])).extract 0 k) w hz
  rw [e] at this
  exact this
def ImgPostN (w : World) (N : Nat) (l : List (List UInt8)) (x : Ending) (w' : World) : Prop := ∃ A c, x = .returned (.slice A N c) ∧ w'.ownsRow w.heap.size 9 1 (.slice A N c) N (sv l) ∧ Below w.heap.size w w'
theorem image_is (N base g : Nat) (s : Sto) (w : World) (h : Is w base g s) (hok : s.Ok) (hN : s.bs.length = N) :
    Calls Try.prog 17 #[.pointer (some ⟨g, 0, none⟩)] w (ImgPostN w N s.bs) := by
  subst hN
  exact image_any base g s w h hok
def ArmRel (w : World) (g a k M : Nat) (i : Value) (wr : World) : Prop := ∃ j : Nat, j ≤ M ∧ i = .int .i64 j ∧ Is wr w.heap.size g (stt a k j) ∧ Below w.heap.size w wr
def ChkRel (w : World) (g : Nat) (S : Sto) (A : Option Addr) (c base : Nat) (i : Value) (wr : World) : Prop :=
  ∃ j : Nat, j ≤ 90 ∧ i = .int .i64 j ∧ Is wr w.heap.size g S ∧ wr.ownsRow base 9 1 (.slice A 90 c) 90 (sv S.bs) ∧ Below w.heap.size w wr

theorem str_eq_ne {x y : ByteArray} (h : x = y) : (!(x.toList == y.toList)) = false := by rw [h]; simp
set_option maxHeartbeats 4000000 in
set_option maxRecDepth 100000 in
theorem armed_in (a k m : Nat) (w : World) (ha : 1 ≤ a) (ha6 : a ≤ 60) (hk : k ≤ 256) (hm : m ≤ 20) :
    Calls Try.prog 4 #[.int .i64 a, .int .i64 k, .int .i64 m] w fun e w' => e = .returned (.bool true) ∧ Below w.heap.size w w' := by
  have hst := stt_start a k ha hk
  have HS := Lib.hid hst
  clear hst
  go_enter Try.func4, Try.ntmps4
  go_wp2_with fail
  refine (new_any 90 w (by omega) (by omega)).mono ?_
  rintro e w1 ⟨g, rfl, h1, b1⟩
  go_wp2_with fail
  refine (arm_is 0 _ _ _ _ _ _ h1 (new_ok 90 (by omega) (by omega)) (by rw [HS.out])).mono ?_
  rintro e w2 ⟨rfl, h2, hb2, _⟩
  rw [HS.out] at h2
  have b2 := b1.trans hb2
  clear b1 hb2 h1
  go_wp2_with fail
  go_loopw [9] (fun i wr => ArmRel w g a k (a + m) i wr) (fun i _ => a + m - (intOf i).toNat)
  case atStart => exact ⟨0, by omega, rfl, h2, b2⟩
  case round =>
    clear h2 b2
    obtain ⟨j, hj, rfl, h3, b3⟩ := hrel
    by_cases hlt : j < a + m
    · have hok := stt_ok a k j ha hk ha6 (by omega)
      have hwr := stt_wr a k j ha6
      have HW := Lib.hid (stt_write a k j ha hk ha6 (by omega))
      by_cases hja : j + 1 < a
      · rw [if_pos hja] at HW
        go_wp2_with fail
        refine (whole_is [97, 98, 99] _ (by simp)).mono ?_
        rintro e w4 ⟨rfl, hb4⟩
        have b4 := below_step b3 hb4
        have h4 := h3.below hb4
        clear b3 hb4 h3
        go_wp2_with fail
        refine (write_is 0 _ _ _ _ _ _ h4 hok hwr (wh_size _ (by simp)) (by rw [str_data]; have := HW.out; rw [show wholeL [97, 98, 99] = ABC from rfl, this])).mono ?_
        rintro e w5 ⟨rfl, h5, hb5, _⟩
        rw [str_data, show wholeL [97, 98, 99] = ABC from rfl, HW.out] at h5
        go_wp2_with fail
        exact ⟨⟨j + 1, by omega, by go_num, h5, b4.trans hb5⟩, by simp [intOf]; omega⟩
      · rw [if_neg hja] at HW
        go_wp2_with fail
        refine (whole_is [97, 98, 99] _ (by simp)).mono ?_
        rintro e w4 ⟨rfl, hb4⟩
        have b4 := below_step b3 hb4
        have h4 := h3.below hb4
        clear b3 hb4 h3
        go_wp2_with fail
        refine (write_is 330 _ _ _ _ _ _ h4 hok hwr (wh_size _ (by simp)) (by rw [str_data]; have := HW.out; rw [show wholeL [97, 98, 99] = ABC from rfl, this])).mono ?_
        rintro e w5 ⟨rfl, h5, hb5, _⟩
        rw [str_data, show wholeL [97, 98, 99] = ABC from rfl, HW.out] at h5
        go_wp2_with fail
        exact ⟨⟨j + 1, by omega, by go_num, h5, b4.trans hb5⟩, by simp [intOf]; omega⟩
    · have hs : stt a k j = afterAll a k := by simp [stt]; omega
      have hok := stt_ok a k j ha hk ha6 (by omega)
      rw [hs] at h3 hok
      have hl := after_length a k ha6
      have hon : (!(afterAll a k).off) = false := rfl
      have hwa : (afterAll a k).wr = (a : Int) := rfl
      have harm : arm (afterAll a k) 1 1 = (afterAll a k, 330) := rfl
      have HAr := Lib.hid harm
      have HWa := Lib.hid hwa
      have HOn := Lib.hid hon
      have HGet := Lib.hid (fun j hj => after_get a k j ha hk ha6 hj)
      have HOk := Lib.hid hok
      have HL := Lib.hid hl
      clear hs harm hwa hon hok hl
      obtain ⟨S, hS⟩ : ∃ S, S = afterAll a k := ⟨_, rfl⟩
      rw [← hS] at h3 HAr HWa HOn HGet HOk HL
      go_wp2_with fail
      refine (image_is 90 _ _ _ _ h3 HOk.out HL.out).mono ?_
      rintro e w4 ⟨A, c, rfl, ho4, hb4⟩
      have b4 := below_step b3 hb4
      have h4 := h3.below hb4
      clear b3 hb4 h3
      go_wp2_with fail
      refine (on_is false _ _ _ _ h4 HOk.out HOn.out).mono ?_
      rintro e w5 ⟨rfl, rfl⟩
      go_wp2_with fail
      refine (writes_is a _ _ _ _ h4 HOk.out HWa.out).mono ?_
      rintro e w5 ⟨rfl, rfl⟩
      go_wp2_with fail
      refine (arm_is 330 _ _ _ _ _ _ h4 HOk.out (by rw [HAr.out])).mono ?_
      rintro e w5 ⟨rfl, h5, hb5, hk5⟩
      rw [HAr.out] at h5
      have b5 := b4.trans hb5
      have o5 := own_keep ho4 hk5
      clear b4 hb5 hk5 ho4 h4
      go_wp2_with fail
      obtain ⟨B0, hB0⟩ : ∃ B0, B0 = wr.heap.size := ⟨_, rfl⟩
      rw [← hB0] at o5
      have habc : (str ABC).size = 256 := by rw [str_size]; exact ABC_length
      have hz1 : 256 ≤ (str (wholeL [97, 98, 99])).size := Nat.le_of_eq habc.symm
      have hz2 : (str (wholeL [97, 98, 99])).size ≤ 256 := Nat.le_of_eq habc
      clear hB0 habc
      go_loopw [12] (fun i w6 => ChkRel w g S A c B0 i w6) (fun i _ => 90 - (intOf i).toNat)
      case atStart => exact ⟨0, by omega, rfl, h5, o5, b5⟩
      case round =>
        clear h5 o5 b5
        obtain ⟨j2, hj2, rfl, h6, o6, b6⟩ := hrel
        by_cases hlt2 : j2 < 90
        · obtain ⟨q, hA⟩ : ∃ q, A = some ⟨q, 0, none⟩ := by
            rcases o6.2 with ⟨_, h0⟩ | ⟨q, cap, cur, hv', _⟩
            · omega
            · injection hv' with hA _ _; exact ⟨q, hA⟩
          subst hA
          have hcell : ∀ w', Below wr.heap.size wr w' → w'.cell? ⟨q, j2, none⟩ = some (.string (str (want a k j2))) := by
            intro w' hb'
            have := (own_below o6 hb').cellAt j2 (by omega)
            rw [this, sv, List.getElem?_map, HGet.out j2 hlt2]
            rfl
          have HCl := Lib.hid hcell
          clear hcell
          by_cases g1 : j2 + 1 < a
          · have hw : want a k j2 = wholeL [97, 98, 99] := by rw [want, if_pos g1]; rfl
            rw [hw] at HCl
            clear hw
            go_wp2_with fail
            refine (whole_is [] _ (by simp)).mono ?_
            rintro e w7 ⟨rfl, hb7⟩
            go_wp2_with fail
            refine (whole_is [97, 98, 99] _ (by simp)).mono ?_
            rintro e w8 ⟨rfl, hb8⟩
            have hb9 := below_step hb7 hb8
            have c8 := HCl.out w8 hb9
            go_wp2_with fail
            exact ⟨⟨j2 + 1, by omega, by go_num, h6.below hb9, own_below o6 hb9, below_step b6 hb9⟩, by simp [intOf]; omega⟩
          · by_cases g2 : j2 + 1 = a
            · have hw : want a k j2 = wholeL (ABC.take k) := by rw [want, if_neg g1, if_pos g2]
              rw [hw] at HCl
              have g3 : ((j2 : Int) == (a : Int) - 1) = true := by rw [beq_iff_eq]; omega
              clear hw g2
              go_wp2_with fail
              refine (whole_is [] _ (by simp)).mono ?_
              rintro e w7 ⟨rfl, hb7⟩
              go_wp2_with fail
              refine (whole_is [97, 98, 99] _ (by simp)).mono ?_
              rintro e w8 ⟨rfl, hb8⟩
              have hb9 := below_step hb7 hb8
              go_wp2_with fail
              refine (whole_cut k w8 hk).mono ?_
              rintro e w10 ⟨rfl, hb10⟩
              have hb11 := below_step hb9 hb10
              have c8 := HCl.out w10 hb11
              go_wp2_with fail
              exact ⟨⟨j2 + 1, by omega, by go_num, h6.below hb11, own_below o6 hb11, below_step b6 hb11⟩, by simp [intOf]; omega⟩
            · have hw : want a k j2 = wholeL [] := by rw [want, if_neg g1, if_neg g2]
              rw [hw] at HCl
              have g3 : ((j2 : Int) == (a : Int) - 1) = false := by rw [beq_eq_false_iff_ne]; omega
              clear hw g2
              go_wp2_with fail
              refine (whole_is [] _ (by simp)).mono ?_
              rintro e w7 ⟨rfl, hb7⟩
              have c8 := HCl.out w7 hb7
              go_wp2_with fail
              exact ⟨⟨j2 + 1, by omega, by go_num, h6.below hb7, own_below o6 hb7, below_step b6 hb7⟩, by simp [intOf]; omega⟩
        · have hpo : (!(power S true).off) = true := rfl
          have hpw : (write (power S true) 0 (wholeL [120])).2 = 0 := by
            have hl : (power S true).bs.length = 90 := HL.out
            have hr : reach (power S true) 0 = 0 := by rw [reach, if_neg (by simp [power]), if_neg (by rw [hl]; omega)]
            rw [write, hr, if_neg (by simp), if_neg (by rw [wholeL_length _ (by simp)]; simp), if_neg (by simp [power])]
          have hpr : (power S true).wr < 1000000 := by
            show S.wr < 1000000
            rw [HWa.out]; omega
          have HO2 := Lib.hid (power_ok HOk.out true)
          have HP1 := Lib.hid hpo
          have HP2 := Lib.hid hpw
          have HP3 := Lib.hid hpr
          clear hpo hpw hpr o6
          go_wp2_with fail
          refine (boot_any _ _ _ _ h6 HOk.out).mono ?_
          rintro e w7 ⟨rfl, h7, hb7, _⟩
          have b7 := b6.trans hb7
          clear b6 hb7 h6
          go_wp2_with fail
          refine (on_is true _ _ _ _ h7 HO2.out HP1.out).mono ?_
          rintro e w8 ⟨rfl, rfl⟩
          go_wp2_with fail
          refine (whole_is [120] _ (by simp)).mono ?_
          rintro e w8 ⟨rfl, hb8⟩
          have b8 := below_step b7 hb8
          have h8 := h7.below hb8
          clear b7 hb8 h7
          go_wp2_with fail
          refine (write_is 0 _ _ _ _ _ _ h8 HO2.out HP3.out (wh_size _ (by simp)) (by rw [str_data]; exact HP2.out)).mono ?_
          rintro e w9 ⟨rfl, h9, hb9, _⟩
          go_wp2_with fail
          refine (awake_any _).mono ?_
          rintro e w10 ⟨rfl, hb10⟩
          go_wp2_with fail
          go_ret
          exact ⟨rfl, below_step (b8.trans hb9) hb10⟩

set_option maxHeartbeats 1000000 in
theorem storeArmed_walk (a k m : Int) (w : World) :
    Calls Try.prog 4 #[.int .i64 a, .int .i64 k, .int .i64 m] w fun e w' => e = .returned (.bool true) ∧ Below w.heap.size w w' := by
  by_cases h : 1 ≤ a ∧ a ≤ 60 ∧ 0 ≤ k ∧ k ≤ 256 ∧ 0 ≤ m ∧ m ≤ 20
  · obtain ⟨h1, h2, h3, h4, h5, h6⟩ := h
    obtain ⟨a, rfl⟩ := Int.eq_ofNat_of_zero_le (show 0 ≤ a by omega)
    obtain ⟨k, rfl⟩ := Int.eq_ofNat_of_zero_le h3
    obtain ⟨m, rfl⟩ := Int.eq_ofNat_of_zero_le h5
    exact armed_in a k m w (by omega) (by omega) (by omega) (by omega)
  · have HA := Lib.hid (awake_any)
    by_cases g1 : a < 1
    · clear h
      go_enter Try.func4, Try.ntmps4
      go_wp2_with fail
      refine (HA.out _).mono ?_
      rintro e w1 ⟨rfl, hb1⟩
      go_wp2_with fail
      go_ret
      exact ⟨rfl, hb1⟩
    · by_cases g2 : 60 < a
      · clear h
        go_enter Try.func4, Try.ntmps4
        go_wp2_with fail
        refine (HA.out _).mono ?_
        rintro e w1 ⟨rfl, hb1⟩
        go_wp2_with fail
        go_ret
        exact ⟨rfl, hb1⟩
      · by_cases g3 : k < 0
        · clear h
          go_enter Try.func4, Try.ntmps4
          go_wp2_with fail
          refine (HA.out _).mono ?_
          rintro e w1 ⟨rfl, hb1⟩
          go_wp2_with fail
          go_ret
          exact ⟨rfl, hb1⟩
        · by_cases g4 : 256 < k
          · clear h
            go_enter Try.func4, Try.ntmps4
            go_wp2_with fail
            refine (HA.out _).mono ?_
            rintro e w1 ⟨rfl, hb1⟩
            go_wp2_with fail
            go_ret
            exact ⟨rfl, hb1⟩
          · by_cases g5 : m < 0
            · clear h
              go_enter Try.func4, Try.ntmps4
              go_wp2_with fail
              refine (HA.out _).mono ?_
              rintro e w1 ⟨rfl, hb1⟩
              go_wp2_with fail
              go_ret
              exact ⟨rfl, hb1⟩
            · have g6 : 20 < m := by omega
              clear h
              go_enter Try.func4, Try.ntmps4
              go_wp2_with fail
              refine (HA.out _).mono ?_
              rintro e w1 ⟨rfl, hb1⟩
              go_wp2_with fail
              go_ret
              exact ⟨rfl, hb1⟩
end Go.Proofs.Ytdhnegcblnpmfaa.StorW
