/-
  Contracts of musterref03.Number, Text, Same, for every argument.
-/
import Derived.Test.YtgmoakbmomaffaaPackRef
import Derived.Test.YtgmoakbmomaffaaAppend
namespace Go.Proofs.Ytgmoakbmomaffaa.PackW
open Go.RowKit Mem
set_option linter.unusedVariables false

def RNumRel (w : World) (n : Nat) (c o i : Value) (wr : World) (K : Nat) : Prop :=
  ∃ (j : Nat) (A : Option Addr) (cap : Nat), j ≤ K ∧ i = .int .i64 j ∧ c = .int .i64 ((n / 256 ^ j : Nat) : Int) ∧ o = .slice A j cap ∧ (A = none → cap = 0) ∧
    wr.ownsRow w.heap.size 5 1 (.slice A j cap) j (bv (Pack.be j n)) ∧ Below w.heap.size w wr

theorem nil_cap {W : World} {base : Nat} {e : TypeId} {size : Nat} {A : Option Addr} {n c : Nat} {xs : List Value} (h : W.ownsRow base e size (.slice A n c) n xs) : A = none → c = 0 := by
  rcases h.2 with ⟨hv, h0⟩ | ⟨g, cap, cur, hv, _⟩
  · injection hv with _ _ hc; exact fun _ => hc
  · injection hv with hA _ _; intro h'; rw [hA] at h'; cases h'

set_option maxHeartbeats 400000 in
set_option maxRecDepth 100000 in
theorem rnumber_any (n k : Int) (w : World) (n0 : -9223372036854775808 ≤ n) (n1 : n ≤ 9223372036854775807) :
    Calls Try.prog 25 #[.int .i64 n, .int .i64 k] w fun e w' => e = .returned (.tuple #[.string (str (Pack.number n k).1), .int .i64 (Pack.number n k).2]) ∧ Below w.heap.size w w' := by
  obtain ⟨i0, hi, hz0, hz1, hz2⟩ := info_parts byte_info
  cases hk : Pack.isW k
  · have HN : Hid (Pack.number n k = ([], 2)) := by show _ = _; simp [Pack.number, Pack.fitB, hk]
    have HW := Lib.hid (width_is false k w hk)
    clear hk hi hz0 hz1 hz2
    go_enter Try.func25, Try.ntmps25
    go_wp2_with fail
    refine HW.out.mono ?_
    rintro e w1 ⟨rfl, rfl⟩
    go_wp2_with fail
    go_ret2
    exact ⟨by rw [HN.out]; rfl, Below.refl _ _⟩
  · have HW := Lib.hid (width_is true k w hk)
    have hk8 : 1 ≤ k ∧ k ≤ 8 := by rcases Pack.isW_of hk with rfl | rfl | rfl | rfl <;> omega
    by_cases hn : n < 0
    · have HN : Hid (Pack.number n k = ([], 2)) := by
        show _ = _
        have : Pack.fitB n k = false := by
          simp only [Pack.fitB, Bool.and_eq_false_iff, decide_eq_false_iff_not]
          exact .inr (by omega)
        simp [Pack.number, this]
      clear hk hi hz0 hz1 hz2
      go_enter Try.func25, Try.ntmps25
      go_wp2_with fail
      refine HW.out.mono ?_
      rintro e w1 ⟨rfl, rfl⟩
      go_wp2_with fail
      go_ret2
      exact ⟨by rw [HN.out]; rfl, Below.refl _ _⟩
    · obtain ⟨N, rfl⟩ := Int.eq_ofNat_of_zero_le (show 0 ≤ n by omega)
      obtain ⟨K, rfl⟩ := Int.eq_ofNat_of_zero_le (show 0 ≤ k by omega)
      have HN : Hid (Pack.number N K = if N / 256 ^ K = 0 then (Pack.be K N, 0) else ([], 2)) := by
        show _ = _
        have hp : 0 < 256 ^ K := Nat.pos_of_ne_zero (by simp)
        have h2 : ((N : Int) < 256 ^ (K : Int).toNat) ↔ N / 256 ^ K = 0 := by
          rw [Int.toNat_natCast, Nat.div_eq_zero_iff_lt hp]
          exact_mod_cast Iff.rfl
        simp only [Pack.number, Pack.fitB, hk, Bool.true_and, decide_eq_true_eq, Int.toNat_natCast]
        rw [Int.toNat_natCast] at h2
        by_cases h : N / 256 ^ K = 0
        · rw [if_pos h, if_pos ⟨by omega, h2.2 h⟩]
        · rw [if_neg h, if_neg (fun h' => h (h2.1 h'.2))]
      clear hk
      go_enter Try.func25, Try.ntmps25
      go_wp2_with fail
      refine HW.out.mono ?_
      rintro e w1 ⟨rfl, rfl⟩
      go_wp2_with fail
      go_loopw [0, 6, 7] (fun c o i wr => RNumRel w N c o i wr K) (fun _ _ i _ => K - (intOf i).toNat)
      case atStart => exact ⟨0, none, 0, by omega, rfl, by simp, rfl, fun _ => rfl, World.ownsRow_nil _ _ _ _, Below.refl _ _⟩
      case round =>
        obtain ⟨j, A, cap, hj, rfl, rfl, rfl, hcap, hown, hbel⟩ := hrel
        by_cases hlt : j < K
        · have hnj : N / 256 ^ j ≤ N := Nat.div_le_self _ _
          have hsz := hbel.size
          have hown1 := World.ownsRow_lit (base := w.heap.size) (e := 5) (size := 1) wr #[.int .u8 (((N / 256 ^ j : Nat) : Int) % 256)] 1 hsz (by simp [maxLen]) rfl
          obtain ⟨A', c', W', hrun, hown2, hgr, hbel2, _⟩ := app_own (P := Try.prog) (wr.alloc (.cells #[.int .u8 (((N / 256 ^ j : Nat) : Int) % 256)] 5)) w.heap.size 33 33 5 i0 _ 1 1 Try.underlying33 hi hz0 hz1 hz2 rfl (by omega) _ 1 1 _ hown1 A j cap _ (Rd.of_own (hown.alloc _)) hcap (bv_one _) (by simp [maxLen]; omega) (by omega) (by simp; omega)
          have HO : Hid (W'.ownsRow w.heap.size 5 1 (.slice A' (j + 1) c') (j + 1) (bv (Pack.be (j + 1) N))) := by
            show World.ownsRow _ _ _ _ _ _ _
            rw [Nat.add_comm 1 j] at hown2
            have e : bv (Pack.be (j + 1) N) = [.int .u8 (((N / 256 ^ j : Nat) : Int) % 256)] ++ bv (Pack.be j N) := by
              rw [Pack.be_cons]
              simp [bv]
            rw [e]
            exact hown2
          rw [Nat.add_comm 1 j] at hrun
          have HB : Hid (Below w.heap.size w W') := (hbel.alloc hsz _).trans hbel2
          have HP := Lib.hid (pow_div N j)
          have HC := Lib.hid (nil_cap HO.out)
          clear hown hown1 hown2 hgr hbel2 hcap hbel
          generalize N / 256 ^ j = M at *
          have HR := Lib.hid hrun
          clear hrun
          go_wp2_with (at_builtin; refine wpList_app rfl _ _ rfl rfl rfl HR.out ?_)
          exact ⟨⟨j + 1, A', c', by omega, by go_num, by rw [← HP.out]; go_num, rfl, HC.out, HO.out, HB.out⟩, by simp [intOf]; omega⟩
        · obtain rfl : j = K := by omega
          have hback := own_back (P := Try.prog) hown 33 9 Try.underlying33 Try.underlying5 Try.underlying9
          change _ = Result.ok (Value.string (str (Pack.be j N))) wr at hback
          obtain ⟨L, hL⟩ : ∃ L, L = Pack.be j N := ⟨_, rfl⟩
          rw [← hL] at hback
          have HL := Lib.hid hL
          clear hL hi hz0 hz1 hz2 hown
          generalize N / 256 ^ j = M at *
          by_cases hM : M = 0
          · subst hM
            go_wp2_with fail
            go_ret2
            exact ⟨by rw [HN.out, if_pos trivial, ← HL.out]; rfl, hbel⟩
          · have hpos : 0 < M := by omega
            go_wp2_with fail
            go_ret2
            exact ⟨by rw [HN.out, if_neg hM]; rfl, hbel⟩

theorem rtext_any (s : ByteArray) (w : World) (hs : s.size ≤ maxLen) :
    Calls Try.prog 35 #[.string s] w fun e w' => e = .returned (.tuple #[.string (str (Pack.text s.data.toList).1), .int .i64 (Pack.text s.data.toList).2]) ∧ Below w.heap.size w w' := by
  unfold maxLen at hs
  by_cases hb : 65535 < s.size
  · have HT : Hid (Pack.text s.data.toList = ([], 3)) := by show _ = _; simp [Pack.text, hb]
    go_enter Try.func35, Try.ntmps35
    go_wp2_with fail
    go_ret2
    exact ⟨by rw [HT.out]; rfl, Below.refl _ _⟩
  · have HT : Hid (Pack.text s.data.toList = (Pack.be 2 s.size ++ s.data.toList, 0)) := by show _ = _; simp [Pack.text, hb]
    have hC := rnumber_any (s.size : Int) 2 w (by omega) (by omega)
    have hN : Pack.number (s.size : Int) 2 = (Pack.be 2 s.size, 0) := by
      have : Pack.fitB (s.size : Int) 2 = true := by simp [Pack.fitB, Pack.isW]; omega
      simp [Pack.number, this]
    rw [hN] at hC
    have HC := Lib.hid hC
    clear hC hN
    have hz : (str (Pack.be 2 s.size)).size ≤ 2 := by rw [str_size, Pack.be_length]; omega
    go_enter Try.func35, Try.ntmps35
    go_wp2_with fail
    refine HC.out.mono ?_
    rintro e w1 ⟨rfl, hb⟩
    go_wp2_with fail
    go_ret2
    exact ⟨by rw [HT.out]; exact ret2 (by rw [← str_app]; rfl) rfl, hb⟩
end Go.Proofs.Ytgmoakbmomaffaa.PackW
