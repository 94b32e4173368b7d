/-
  The walks of the statements of layer 2: long, awake, SumsJoins, SumsBytes, SumsParts, SumsTurned return true for every argument and change nothing that was there.
-/
import Derived.Test.YtgmoakbmomaffaaSumsRef
namespace Go.Proofs.Ytgmoakbmomaffaa.SumsW
open Go.RowKit Mem
set_option linter.unusedVariables false

theorem strs_new1 (w : World) (s : ByteArray) (t : TypeId) : Strs (w.alloc (.cells #[.string s] t)) (some ⟨w.heap.size, 0, none⟩) 1 [s] :=
  ⟨rfl, fun _ => ⟨w.heap.size, 0, rfl, by simp, fun i v hv => by
    rw [Nat.zero_add, (Blk.new w t #[.string s]).cell i]
    simpa using hv⟩⟩
theorem strs_new2 (w : World) (s r : ByteArray) (t : TypeId) : Strs (w.alloc (.cells #[.string s, .string r] t)) (some ⟨w.heap.size, 0, none⟩) 2 [s, r] :=
  ⟨rfl, fun _ => ⟨w.heap.size, 0, rfl, by simp, fun i v hv => by
    rw [Nat.zero_add, (Blk.new w t #[.string s, .string r]).cell i]
    simpa using hv⟩⟩

theorem sum_is (v : Int) (A : Option Addr) (n c : Nat) (l : List ByteArray) (w : World) (h : Strs w A n l) (hv : Sums.sum 1 (l.map (·.data.toList)) = v) (hn : n ≤ maxLen) (hs : ∀ s ∈ l, s.size ≤ maxLen) :
    Calls Try.prog 17 #[.slice A n c] w fun e w' => e = .returned (.int .u32 v) ∧ Below w.heap.size w w' := by
  subst hv
  exact sum_any A n c l w h hn hs
theorem more_is (v : Int) (sum : Int) (s : ByteArray) (w : World) (h0 : 0 ≤ sum) (h1 : sum < 4294967296) (hs : s.size ≤ maxLen) (hv : Sums.more sum s.data.toList = v) :
    Calls Try.prog 19 #[.int .u32 sum, .string s] w fun e w' => e = .returned (.int .u32 v) ∧ Below w.heap.size w w' := by
  subst hv
  exact more_any sum s w h0 h1 hs
theorem join_is (v : Int) (x y n : Int) (w : World) (hv : Sums.join x y n = v) (x0 : 0 ≤ x) (x1 : x < 4294967296) (y0 : 0 ≤ y) (y1 : y < 4294967296) (n0 : -9223372036854775808 ≤ n) (n1 : n ≤ 9223372036854775807) :
    Calls Try.prog 21 #[.int .u32 x, .int .u32 y, .int .i64 n] w fun e w' => e = .returned (.int .u32 v) ∧ Below w.heap.size w w' := by
  subst hv
  exact join_any x y n w x0 x1 y0 y1 n0 n1

set_option maxHeartbeats 400000 in
theorem awake_any (w : World) : Calls Try.prog 16 #[] w fun e w' => e = .returned (.bool true) ∧ Below w.heap.size w w' := by
  go_enter Try.func16, Try.ntmps16
  go_wp2_with fail
  refine (sum_is 1 none 0 0 [] _ (Row.nil _ _) rfl (by simp [maxLen]) (by simp)).mono ?_
  rintro e w1 ⟨rfl, hb1⟩
  go_wp2_with fail
  refine (sum_is 300286872 _ _ _ _ _ (strs_new1 _ _ _) (by decide +kernel) (by simp [maxLen]) (by simp [maxLen]; decide)).mono ?_
  rintro e w2 ⟨rfl, hb2⟩
  have b2 := below_step hb1 ((Below.refl _ _).alloc (Nat.le_refl _) _ |>.trans (hb2.mono (by simp)))
  clear hb1 hb2
  go_wp2_with fail
  refine (sum_is 300286872 _ _ _ _ _ (strs_new2 _ _ _ _) (by decide +kernel) (by simp [maxLen]) (by simp [maxLen]; decide)).mono ?_
  rintro e w3 ⟨rfl, hb3⟩
  have b3 := below_step b2 ((Below.refl _ _).alloc (Nat.le_refl _) _ |>.trans (hb3.mono (by simp)))
  clear b2 hb3
  go_wp2_with fail
  refine (more_is 300286872 _ _ _ (by omega) (by omega) (by simp [maxLen]; decide) (by decide +kernel)).mono ?_
  rintro e w4 ⟨rfl, hb4⟩
  have b4 := below_step b3 hb4
  clear b3 hb4
  go_wp2_with fail
  refine (sum_is 64618901 _ _ _ _ _ (strs_new1 _ _ _) (by decide +kernel) (by simp [maxLen]) (by simp [maxLen]; decide)).mono ?_
  rintro e w5 ⟨rfl, hb5⟩
  have b5 := below_step b4 ((Below.refl _ _).alloc (Nat.le_refl _) _ |>.trans (hb5.mono (by simp)))
  clear b4 hb5
  go_wp2_with fail
  refine (sum_is 103285252 _ _ _ _ _ (strs_new1 _ _ _) (by decide +kernel) (by simp [maxLen]) (by simp [maxLen]; decide)).mono ?_
  rintro e w6 ⟨rfl, hb6⟩
  have b6 := below_step b5 ((Below.refl _ _).alloc (Nat.le_refl _) _ |>.trans (hb6.mono (by simp)))
  clear b5 hb6
  go_wp2_with fail
  refine (join_is 300286872 _ _ _ _ (by decide +kernel) (by omega) (by omega) (by omega) (by omega) (by omega) (by omega)).mono ?_
  rintro e w7 ⟨rfl, hb7⟩
  have b7 := below_step b6 hb7
  clear b6 hb7
  go_wp2_with fail
  go_ret
  exact ⟨rfl, b7⟩

def longB (l : List ByteArray) : Bool := l.any (fun s => decide (60000 < s.size)) || decide (50 < l.length)
theorem longB_no {l : List ByteArray} (h : longB l = false) : (∀ s ∈ l, s.size ≤ 60000) ∧ l.length ≤ 50 := by
  simpa [longB] using h
def LongRel (l : List ByteArray) (i : Value) : Prop := ∃ k : Nat, k ≤ l.length ∧ i = .int .i64 k ∧ (l.take k).any (fun s => decide (60000 < s.size)) = false

set_option maxHeartbeats 400000 in
theorem long_any (A : Option Addr) (n c : Nat) (l : List ByteArray) (w : World) (h : Strs w A n l) (hn : n ≤ maxLen) :
    Calls Try.prog 15 #[.slice A n c] w fun e w' => e = .returned (.bool (longB l)) ∧ w = w' := by
  unfold maxLen at hn
  have hl := h.len
  subst hl
  go_enter Try.func15, Try.ntmps15
  go_wp2_with fail
  go_loop [3] (fun i => LongRel l i) (fun i => l.length - (intOf i).toNat)
  case atStart => exact ⟨0, by omega, rfl, rfl⟩
  case round =>
    obtain ⟨k, hk, rfl, hno⟩ := hrel
    have HN := Lib.hid hno
    clear hno
    by_cases hlt : k < l.length
    · obtain ⟨b, off, s, rfl, hbl, hsk, hc⟩ := h.at_ hlt
      by_cases hbig : 60000 < s.size
      · have HB : Hid (longB l = true) := by
          show longB l = true
          simp only [longB, Bool.or_eq_true, List.any_eq_true]
          exact .inl ⟨s, mem_of_at hsk, by simpa using hbig⟩
        clear hsk h
        go_wp2_with fail
        go_ret
        exact ⟨ret_bool HB.out.symm, rfl⟩
      · have HT : Hid ((l.take (k + 1)).any (fun s => decide (60000 < s.size)) = false) := by
          show _ = _
          rw [take_snoc_some hsk, List.any_append, HN.out]
          simpa using hbig
        clear hsk h
        go_wp2_with fail
        exact ⟨⟨k + 1, by omega, by go_num, HT.out⟩, by simp [intOf]; omega⟩
    · have hno := HN.out
      rw [List.take_of_length_le (by omega)] at hno
      have HL : Hid (longB l = decide ((50 : Int) < (l.length : Int))) := by
        show longB l = _
        rw [longB, hno, Bool.false_or]
        exact decide_eq_decide.2 (by omega)
      clear hno h
      go_wp2_with fail
      go_ret
      exact ⟨ret_bool HL.out.symm, rfl⟩
theorem long_no (A : Option Addr) (n c : Nat) (l : List ByteArray) (w : World) (h : Strs w A n l) (hn : n ≤ maxLen) (hl : longB l = false) :
    Calls Try.prog 15 #[.slice A n c] w fun e w' => e = .returned (.bool false) ∧ w = w' := by rw [← hl]; exact long_any A n c l w h hn
theorem long_yes (A : Option Addr) (n c : Nat) (l : List ByteArray) (w : World) (h : Strs w A n l) (hn : n ≤ maxLen) (hl : longB l = true) :
    Calls Try.prog 15 #[.slice A n c] w fun e w' => e = .returned (.bool true) ∧ w = w' := by rw [← hl]; exact long_any A n c l w h hn

set_option maxHeartbeats 400000 in
theorem sumsJoins_walk (x y n : Int) (w : World) (x0 : 0 ≤ x) (x1 : x < 4294967296) (y0 : 0 ≤ y) (y1 : y < 4294967296) (n0 : -9223372036854775808 ≤ n) (n1 : n ≤ 9223372036854775807) :
    Calls Try.prog 4 #[.int .u32 x, .int .u32 y, .int .i64 n] w fun e w' => e = .returned (.bool true) ∧ Below w.heap.size w w' := by
  go_enter Try.func4, Try.ntmps4
  go_wp2_with fail
  refine (join_any x y n _ x0 x1 y0 y1 n0 n1).mono ?_
  rintro e w1 ⟨rfl, hb1⟩
  go_wp2_with fail
  refine (rjoin_any x y n _ x0 x1 y0 y1 n0 n1).mono ?_
  rintro e w2 ⟨rfl, rfl⟩
  go_wp2_with fail
  refine (awake_any _).mono ?_
  rintro e w3 ⟨rfl, hb3⟩
  go_wp2_with fail
  go_ret
  exact ⟨rfl, below_step hb1 hb3⟩

set_option maxHeartbeats 400000 in
theorem sumsBytes_walk (A : Option Addr) (len c : Nat) (l : List ByteArray) (x y : Int) (w : World) (h : Strs w A len l) (hn : len ≤ maxLen) (hs : ∀ s ∈ l, s.size ≤ maxLen)
    (x0 : 0 ≤ x) (x1 : x < 4294967296) (y0 : 0 ≤ y) (y1 : y < 4294967296) :
    Calls Try.prog 3 #[.slice A len c, .int .u32 x, .int .u32 y] w fun e w' => e = .returned (.bool true) ∧ Below w.heap.size w w' := by
  cases hlg : longB l
  · have hs6 := (longB_no hlg).1
    have hLong := Lib.hid (long_no A len c l w h hn hlg)
    have hSum := Lib.hid (fun w' (hb : Below w.heap.size w w') => sum_any A len c l w' (h.below hb) hn hs)
    have hRSum := Lib.hid (fun w' (hb : Below w.heap.size w w') => rsum_any A len c l w' (h.below hb) hn hs)
    clear hlg
    have hlen := h.len
    subst hlen
    rcases Nat.eq_zero_or_pos l.length with h0 | h0
    · have h0' : ¬ 0 < l.length := by omega
      have H0 := Lib.hid h0
      clear h0
      go_enter Try.func3, Try.ntmps3
      go_wp2_with fail
      refine hLong.out.mono ?_
      rintro e w1 ⟨rfl, rfl⟩
      go_wp2_with fail
      refine (hSum.out _ (Below.refl _ _)).mono ?_
      rintro e w1 ⟨rfl, hb1⟩
      go_wp2_with fail
      refine (hRSum.out _ hb1).mono ?_
      rintro e w2 ⟨rfl, rfl⟩
      go_wp2_with fail
      refine (more_any x ⟨#[]⟩ w1 x0 x1 (by simp [maxLen]; decide)).mono ?_
      rintro e w2 ⟨rfl, hb2⟩
      go_wp2_with fail
      refine (rmore_any x ⟨#[]⟩ w2 x0 x1 (by simp [maxLen]; decide)).mono ?_
      rintro e w3 ⟨rfl, rfl⟩
      go_wp2_with fail
      refine (join_any x y _ w2 x0 x1 y0 y1 (by omega) (by omega)).mono ?_
      rintro e w3 ⟨rfl, hb3⟩
      go_wp2_with fail
      refine (rjoin_any x y _ w3 x0 x1 y0 y1 (by omega) (by omega)).mono ?_
      rintro e w4 ⟨rfl, rfl⟩
      go_wp2_with fail
      refine (awake_any _).mono ?_
      rintro e w4 ⟨rfl, hb4⟩
      go_wp2_with fail
      go_ret
      exact ⟨rfl, below_step (below_step (below_step hb1 hb2) hb3) hb4⟩
    · obtain ⟨b, off, s0, rfl, hbl, hs0, hc0⟩ := h.at_ h0
      obtain ⟨b', off', s1, e1, _, hs1, hc1⟩ := h.at_ (show l.length - 1 < l.length by omega)
      injection e1 with e1
      injection e1 with e1 e2
      subst e1 e2
      have hz0 : s0.size ≤ maxLen := hs _ (mem_of_at hs0)
      have hz1 : s1.size ≤ 60000 := hs6 _ (mem_of_at hs1)
      unfold maxLen at hn
      rw [Nat.add_zero] at hc0
      clear hs0 hs1 hs hs6 h
      go_enter Try.func3, Try.ntmps3
      go_wp2_with fail
      refine hLong.out.mono ?_
      rintro e w1 ⟨rfl, rfl⟩
      go_wp2_with fail
      refine (hSum.out _ (Below.refl _ _)).mono ?_
      rintro e w1 ⟨rfl, hb1⟩
      go_wp2_with fail
      refine (hRSum.out _ hb1).mono ?_
      rintro e w2 ⟨rfl, rfl⟩
      go_wp2_with fail
      refine (more_any x s0 w1 x0 x1 hz0).mono ?_
      rintro e w2 ⟨rfl, hb2⟩
      go_wp2_with fail
      refine (rmore_any x s0 w2 x0 x1 hz0).mono ?_
      rintro e w3 ⟨rfl, rfl⟩
      go_wp2_with fail
      refine (join_any x y _ w2 x0 x1 y0 y1 (by omega) (by omega)).mono ?_
      rintro e w3 ⟨rfl, hb3⟩
      go_wp2_with fail
      refine (rjoin_any x y _ w3 x0 x1 y0 y1 (by omega) (by omega)).mono ?_
      rintro e w4 ⟨rfl, rfl⟩
      go_wp2_with fail
      refine (awake_any _).mono ?_
      rintro e w4 ⟨rfl, hb4⟩
      go_wp2_with fail
      go_ret
      exact ⟨rfl, below_step (below_step (below_step hb1 hb2) hb3) hb4⟩
  · go_enter Try.func3, Try.ntmps3
    go_wp2_with fail
    refine (long_yes A len c l w h hn hlg).mono ?_
    rintro e w1 ⟨rfl, rfl⟩
    go_wp2_with fail
    refine (awake_any _).mono ?_
    rintro e w3 ⟨rfl, hb3⟩
    go_wp2_with fail
    go_ret
    exact ⟨rfl, hb3⟩
end Go.Proofs.Ytgmoakbmomaffaa.SumsW
