/-
  Contracts of muster/pack: fits, within, laid, Number, TakeNumber, for every argument.
-/
import Derived.Test.YtgmoakbmomaffaaRows
import Derived.Test.YtgmoakbmomaffaaPackPlain
import Derived.Test.YtgmoakbmomaffaaMem
import Derived.Test.YtgmoakbmomaffaaBytes
import Derived.WalkKit
import Derived.WalkSpells
import Derived.WalkLawsBesides
import Derived.RegionTactic
import Derived.Deep.QuietTactic
import Derived.BigQuiet
import Derived.LoopTactic
import Derived.Outline
import Derived.Below
import Derived.Lib.Hide
import Derived.Lib.IndexBytes
import Derived.Laws.MakeOwn
namespace Go.Proofs.Ytgmoakbmomaffaa.PackW
open Go.RowKit Mem
set_option linter.unusedVariables false

theorem fits_any (n k : Int) (w : World) (n0 : -9223372036854775808 ≤ n) (n1 : n ≤ 9223372036854775807) :
    Calls Try.prog 49 #[.int .i64 n, .int .i64 k] w fun e w' => e = .returned (.bool (Pack.fitB n k)) ∧ w = w' := by
  cases hk : Pack.isW k
  · obtain ⟨h1, h2, h4, h8⟩ := Pack.not_isW hk
    have HF : Hid (Pack.fitB n k = false) := by
      show _ = _
      simp [Pack.fitB, hk]
    clear hk
    go_enter Try.func49, Try.ntmps49
    go_wp2_with fail
    go_ret
    exact ⟨ret_bool HF.out.symm, rfl⟩
  · rcases Pack.isW_of hk with rfl | rfl | rfl | rfl
    all_goals
      clear hk
      go_enter Try.func49, Try.ntmps49
      go_wp2_with fail
      all_goals
        go_ret
        exact ⟨ret_bool (by rw [Bool.eq_iff_iff]; simp [Pack.fitB, Pack.isW]; omega), rfl⟩

theorem within_any (s : ByteArray) (a : Int) (w : World) (hs : s.size ≤ maxLen) :
    Calls Try.prog 52 #[.string s, .int .i64 a] w fun e w' => e = .returned (.bool (decide (0 ≤ a ∧ a ≤ (s.size : Int)))) ∧ w = w' := by
  unfold maxLen at hs
  by_cases ha : 0 ≤ a
  all_goals
    go_enter Try.func52, Try.ntmps52
    go_wp2_with fail
    go_ret
    exact ⟨ret_bool (by rw [Bool.eq_iff_iff]; simp; omega), rfl⟩

def str (l : List UInt8) : ByteArray := ⟨l.toArray⟩
theorem str_data (l : List UInt8) : (str l).data.toList = l := rfl
theorem str_size (l : List UInt8) : (str l).size = l.length := by simp [str, ByteArray.size]
theorem str_of (s : ByteArray) : str s.data.toList = s := by simp [str]
theorem str_inj {l m : List UInt8} (h : str l = str m) : l = m := by rw [← str_data l, h, str_data]
theorem str_app (l : List UInt8) (s : ByteArray) : str l ++ s = str (l ++ s.data.toList) := by
  apply ByteArray.ext
  simp [str]

/-- 'make([]byte, n)' in one world -/
theorem make_bytes {P : Program} (t e : TypeId) (i : TypeInfo) (ht : P.underlying t = some (.slice e)) (hi : P.info? e = some i) (hz : i.zero = some (.int .u8 0)) (hs : i.size = 1) (hb : i.bytes = 1) (n : Int) (h0 : 0 ≤ n) (hn : n ≤ 65536) (W : World) :
    ∃ W', (Instr.makeSlice t (.int .i64 n) (.int .i64 n)).run P W = .ok (.slice (some ⟨W.heap.size, 0, none⟩) n.toNat n.toNat) W' ∧ Below W.heap.size W W' ∧ Byts W' W.heap.size (List.replicate n.toNat 0) := by
  refine ⟨_, run_make W t e i _ ht hi hz .i64 .i64 n n h0 (by omega) (by rw [hb]; omega) (by omega), (Below.refl _ _).alloc (Nat.le_refl _) _, by simp, fun j c hc => ?_⟩
  have hj : j < n.toNat := by
    have := (List.getElem?_eq_some_iff.1 hc).1
    simpa using this
  rw [List.getElem?_replicate, if_pos hj] at hc
  injection hc with hc
  subst hc
  have hb := Blk.new W e (madeCells (Value.int IntKind.u8 0).cells (n.toNat * i.size))
  refine ⟨?_, hb.frozen j⟩
  rw [hb.cell j, hs, madeCells]
  simp [hj, Value.cells, Nat.mod_one]

theorem be_step (k j n : Nat) (h : j < k) : (List.replicate (k - j) (0 : UInt8) ++ Pack.be j n).set (k - 1 - j) (UInt8.ofNat (n / 256 ^ j)) = List.replicate (k - (j + 1)) 0 ++ Pack.be (j + 1) n := by
  obtain ⟨m, rfl⟩ : ∃ m, k = m + 1 + j := ⟨k - 1 - j, by omega⟩
  rw [show m + 1 + j - j = m + 1 by omega, show m + 1 + j - 1 - j = m by omega, show m + 1 + j - (j + 1) = m by omega, Pack.be_cons]
  rw [List.set_append_left _ _ (by simp), List.replicate_succ']
  rw [List.set_append_right _ _ (by simp)]
  simp
theorem pow_div (n j : Nat) : n / 256 ^ j / 256 = n / 256 ^ (j + 1) := by rw [Nat.div_div_eq_div_mul, Nat.pow_succ]

theorem byte_info : (Try.prog.info? 5).map (fun i => (i.zero, i.size, i.bytes)) = some (some (.int .u8 0), 1, 1) := by kernel_rfl

def LaidRel (w : World) (g k n : Nat) (c i : Value) (wr : World) : Prop :=
  ∃ j : Nat, j ≤ k ∧ i = .int .i64 ((k : Int) - 1 - j) ∧ c = .int .i64 ((n / 256 ^ j : Nat) : Int) ∧ Byts wr g (List.replicate (k - j) 0 ++ Pack.be j n) ∧ Below w.heap.size w wr

set_option maxHeartbeats 400000 in
set_option maxRecDepth 100000 in
theorem laid_any (n k : Int) (w : World) (n0 : 0 ≤ n) (n1 : n ≤ 9223372036854775807) (k1 : 1 ≤ k) (k8 : k ≤ 8) :
    Calls Try.prog 50 #[.int .i64 n, .int .i64 k] w fun e w' => e = .returned (.string (str (Pack.be k.toNat n.toNat))) ∧ Below w.heap.size w w' := by
  obtain ⟨i0, hi, hz0, hz1, hz2⟩ := info_parts byte_info
  obtain ⟨W1, hmk, hb1, hby1⟩ := make_bytes (P := Try.prog) 33 5 i0 Try.underlying33 hi hz0 hz1 hz2 k (by omega) (by omega) w
  clear hi hz0 hz1 hz2
  obtain ⟨K, rfl⟩ := Int.eq_ofNat_of_zero_le (show 0 ≤ k by omega)
  obtain ⟨N, rfl⟩ := Int.eq_ofNat_of_zero_le n0
  rw [Int.toNat_natCast] at hmk hby1
  rw [Int.toNat_natCast, Int.toNat_natCast]
  go_enter Try.func50, Try.ntmps50
  go_wp2_with fail
  clear hmk
  go_loopw [0, 6] (fun c i wr => LaidRel w w.heap.size K N c i wr) (fun _ i _ => (intOf i + 1).toNat)
  case atStart => exact ⟨0, by omega, by go_num, by simp, by simpa [Pack.be] using hby1, hb1⟩
  case round =>
    obtain ⟨j, hj, rfl, rfl, hby, hbel⟩ := hrel
    by_cases hlt : j < K
    · have hnj : N / 256 ^ j ≤ N := Nat.div_le_self _ _
      have hset := hby.set (i := K - 1 - j) (by simp [Pack.be_length]; omega) (UInt8.ofNat (N / 256 ^ j))
      rw [be_step K j N hlt] at hset
      obtain ⟨hc, hf⟩ : ∃ u, wr.cell? ⟨w.heap.size, K - 1 - j, none⟩ = some u := by
        have hl : K - 1 - j < (List.replicate (K - j) (0 : UInt8) ++ Pack.be j N).length := by simp [Pack.be_length]; omega
        exact ⟨_, (hby.2 _ _ (List.getElem?_eq_getElem hl)).1⟩
      have hfr : wr.frozen? ⟨w.heap.size, K - 1 - j, none⟩ = false := by
        have hl : K - 1 - j < (List.replicate (K - j) (0 : UInt8) ++ Pack.be j N).length := by simp [Pack.be_length]; omega
        exact (hby.2 _ _ (List.getElem?_eq_getElem hl)).2
      have HP := Lib.hid (pow_div N j)
      have HS := Lib.hid hset
      clear hset hby
      generalize N / 256 ^ j = M at *
      go_wp2_with fail
      refine ⟨⟨j + 1, by omega, by go_num, by rw [← HP.out]; go_num, ?_, hbel.setCell (p := ⟨w.heap.size, K - 1 - j, none⟩) (Nat.le_refl _) _⟩, by simp [intOf]; omega⟩
      have := HS.out
      rw [show ((UInt8.ofNat M).toNat : Int) = (M : Int) % 256 by simp] at this
      exact this
    · obtain rfl : j = K := by omega
      have hback := hby.back (P := Try.prog) 33 9 5 j j (by simp [Pack.be_length]) Try.underlying33 Try.underlying5 Try.underlying9
      have hl : List.replicate (j - j) (0 : UInt8) ++ Pack.be j N = Pack.be j N := by simp
      rw [hl] at hback
      change _ = Result.ok (Value.string (str (Pack.be j N))) wr at hback
      clear hl hby hlt
      have hneg : decide ((0 : Int) ≤ (j : Int) - 1 - (j : Int)) = false := by simp; omega
      obtain ⟨L, hL⟩ : ∃ L, L = Pack.be j N := ⟨_, rfl⟩
      rw [← hL] at hback
      have HL := Lib.hid hL
      clear hL
      generalize N / 256 ^ j = M at *
      go_wp2_with fail
      go_ret
      exact ⟨by rw [← HL.out]; rfl, hbel⟩

theorem fits_yes (n k : Int) (w : World) (n0 : -9223372036854775808 ≤ n) (n1 : n ≤ 9223372036854775807) (h : Pack.fitB n k = true) :
    Calls Try.prog 49 #[.int .i64 n, .int .i64 k] w fun e w' => e = .returned (.bool true) ∧ w = w' := by rw [← h]; exact fits_any n k w n0 n1
theorem fits_no (n k : Int) (w : World) (n0 : -9223372036854775808 ≤ n) (n1 : n ≤ 9223372036854775807) (h : Pack.fitB n k = false) :
    Calls Try.prog 49 #[.int .i64 n, .int .i64 k] w fun e w' => e = .returned (.bool false) ∧ w = w' := by rw [← h]; exact fits_any n k w n0 n1
theorem within_is (v : Bool) (s : ByteArray) (a : Int) (w : World) (hs : s.size ≤ maxLen) (h : decide (0 ≤ a ∧ a ≤ (s.size : Int)) = v) :
    Calls Try.prog 52 #[.string s, .int .i64 a] w fun e w' => e = .returned (.bool v) ∧ w = w' := by rw [← h]; exact within_any s a w hs

theorem fitB_of {n k : Int} (h : Pack.fitB n k = true) : 1 ≤ k ∧ k ≤ 8 ∧ 0 ≤ n ∧ n < 256 ^ k.toNat ∧ Pack.isW k = true := by
  simp only [Pack.fitB, Bool.and_eq_true, decide_eq_true_eq] at h
  rcases Pack.isW_of h.1 with rfl | rfl | rfl | rfl <;> exact ⟨by omega, by omega, h.2.1, h.2.2, h.1⟩

theorem ret2 {a b : Value} {c d : Value} (h : a = c) (k : b = d) : Ending.returned (.tuple #[a, b]) = .returned (.tuple #[c, d]) := by rw [h, k]
theorem ret3 {a b c a' b' c' : Value} (h : a = a') (k : b = b') (l : c = c') : Ending.returned (.tuple #[a, b, c]) = .returned (.tuple #[a', b', c']) := by rw [h, k, l]

set_option maxHeartbeats 400000 in
theorem number_any (n k : Int) (w : World) (n0 : -9223372036854775808 ≤ n) (n1 : n ≤ 9223372036854775807) :
    Calls Try.prog 24 #[.int .i64 n, .int .i64 k] w fun e w' => e = .returned (.tuple #[.string (str (Pack.number n k).1), .int .i64 (Pack.number n k).2]) ∧ Below w.heap.size w w' := by
  cases hf : Pack.fitB n k
  · have HN : Hid (Pack.number n k = ([], 2)) := by show _ = _; simp [Pack.number, hf]
    have HF := Lib.hid (fits_no n k w n0 n1 hf)
    clear hf
    go_enter Try.func24, Try.ntmps24
    go_wp2_with fail
    refine HF.out.mono ?_
    rintro e w1 ⟨rfl, rfl⟩
    go_wp2_with fail
    go_ret2
    exact ⟨by rw [HN.out]; rfl, Below.refl _ _⟩
  · have HN : Hid (Pack.number n k = (Pack.be k.toNat n.toNat, 0)) := by show _ = _; simp [Pack.number, hf]
    have HF := Lib.hid (fits_yes n k w n0 n1 hf)
    obtain ⟨k1, k8, m0, _, _⟩ := fitB_of hf
    clear hf
    go_enter Try.func24, Try.ntmps24
    go_wp2_with fail
    refine HF.out.mono ?_
    rintro e w1 ⟨rfl, rfl⟩
    go_wp2_with fail
    refine (laid_any n k w m0 n1 k1 k8).mono ?_
    rintro e w1 ⟨rfl, hb⟩
    go_wp2_with fail
    go_ret2
    exact ⟨by rw [HN.out]; rfl, hb⟩

theorem text_any (s : ByteArray) (w : World) (hs : s.size ≤ maxLen) :
    Calls Try.prog 34 #[.string s] w fun e w' => e = .returned (.tuple #[.string (str (Pack.text s.data.toList).1), .int .i64 (Pack.text s.data.toList).2]) ∧ Below w.heap.size w w' := by
  unfold maxLen at hs
  by_cases hb : 65535 < s.size
  · have HT : Hid (Pack.text s.data.toList = ([], 3)) := by show _ = _; simp [Pack.text, hb]
    go_enter Try.func34, Try.ntmps34
    go_wp2_with fail
    go_ret2
    exact ⟨by rw [HT.out]; rfl, Below.refl _ _⟩
  · have HT : Hid (Pack.text s.data.toList = (Pack.be 2 s.size ++ s.data.toList, 0)) := by show _ = _; simp [Pack.text, hb]
    go_enter Try.func34, Try.ntmps34
    go_wp2_with fail
    refine (laid_any _ _ w (by omega) (by omega) (by omega) (by omega)).mono ?_
    rintro e w1 ⟨rfl, hb⟩
    have hz : (str (Pack.be 2 s.size)).size ≤ 2 := by rw [str_size, Pack.be_length]; omega
    go_wp2_with fail
    go_ret2
    exact ⟨by rw [HT.out]; exact ret2 (by rw [← str_app]; rfl) rfl, hb⟩

theorem or8 (n c : Nat) (hn : n < 72057594037927936) (hc : c < 256) : bits BinOp.or IntKind.u64 ((n : Int) * 256) (c : Int) = ((n * 256 + c : Nat) : Int) := by
  rw [show ((n : Int) * 256) = ((n * 256 : Nat) : Int) by omega, u64_or_nat _ _ (by omega) (by omega), nat_join 8 _ _ (by omega) (by omega)]

theorem drop_take_snoc (s : ByteArray) (a k : Nat) (h : a + k < s.size) : (s.data.toList.drop a).take (k + 1) = (s.data.toList.drop a).take k ++ [s[a + k]] := by
  have hl : k < (s.data.toList.drop a).length := by simp; omega
  rw [List.take_succ_eq_append_getElem hl]
  simp only [List.getElem_drop]
  rfl

def TakeRel (s : ByteArray) (a K : Nat) (n i : Value) : Prop :=
  ∃ k : Nat, k ≤ K ∧ i = .int .i64 k ∧ n = .int .u64 ((Pack.num ((s.data.toList.drop a).take k) : Nat) : Int)

theorem pow_small (k : Nat) (h : k ≤ 7) : 256 ^ k ≤ 72057594037927936 := Nat.pow_le_pow_right (by omega) h

set_option maxHeartbeats 400000 in
set_option maxRecDepth 100000 in
theorem takeNum_any (s : ByteArray) (a k : Int) (w : World) (hs : s.size ≤ maxLen) :
    Calls Try.prog 26 #[.string s, .int .i64 a, .int .i64 k] w fun e w' =>
      e = .returned (.tuple #[.int .i64 (Pack.takeNum s.data.toList a k).1, .int .i64 (Pack.takeNum s.data.toList a k).2.1, .int .i64 (Pack.takeNum s.data.toList a k).2.2]) ∧ w = w' := by
  have hs' : s.size ≤ maxLen := hs
  unfold maxLen at hs
  have hlen : s.data.toList.length = s.size := by simp
  by_cases hin : 0 ≤ a ∧ a ≤ (s.size : Int)
  · have HW := Lib.hid (within_is true s a w hs' (by simpa using hin))
    cases hk : Pack.isW k
    · have HT : Hid (Pack.takeNum s.data.toList a k = (0, 0, 2)) := by
        show _ = _
        rw [Pack.takeNum, if_pos (.inr (.inr hk))]
      have HF := Lib.hid (fits_no 0 k w (by omega) (by omega) (by simp [Pack.fitB, hk]))
      clear hk hlen
      go_enter Try.func26, Try.ntmps26
      go_wp2_with fail
      refine HW.out.mono ?_
      rintro e w1 ⟨rfl, rfl⟩
      go_wp2_with fail
      refine HF.out.mono ?_
      rintro e w1 ⟨rfl, rfl⟩
      go_wp2_with fail
      go_ret3
      exact ⟨by rw [HT.out]; rfl, rfl⟩
    · have hk8 : 1 ≤ k ∧ k ≤ 8 := by rcases Pack.isW_of hk with rfl | rfl | rfl | rfl <;> omega
      have HF := Lib.hid (fits_yes 0 k w (by omega) (by omega) (by
        simp only [Pack.fitB, hk, Bool.true_and, decide_eq_true_eq]
        exact ⟨by omega, Int.pow_pos (by omega)⟩))
      obtain ⟨A, rfl⟩ := Int.eq_ofNat_of_zero_le hin.1
      obtain ⟨K, rfl⟩ := Int.eq_ofNat_of_zero_le (show 0 ≤ k by omega)
      by_cases hsh : (s.size : Int) - A < K
      · have HT : Hid (Pack.takeNum s.data.toList A K = (0, 0, 30)) := by
          show _ = _
          rw [Pack.takeNum, if_neg (by rw [hlen, hk]; simp; omega), if_pos (by rw [hlen]; exact hsh)]
        clear hk hlen
        go_enter Try.func26, Try.ntmps26
        go_wp2_with fail
        refine HW.out.mono ?_
        rintro e w1 ⟨rfl, rfl⟩
        go_wp2_with fail
        refine HF.out.mono ?_
        rintro e w1 ⟨rfl, rfl⟩
        go_wp2_with fail
        go_ret3
        exact ⟨by rw [HT.out]; rfl, rfl⟩
      · have HT : Hid (Pack.takeNum s.data.toList A K = if 9223372036854775807 < Pack.num ((s.data.toList.drop A).take K) then ((0 : Int), (0 : Int), (2 : Int)) else (((Pack.num ((s.data.toList.drop A).take K) : Nat) : Int), (A : Int) + K, 0)) := by
          show _ = _
          rw [Pack.takeNum, if_neg (by rw [hlen, hk]; simp; omega), if_neg (by rw [hlen]; exact hsh), Int.toNat_natCast, Int.toNat_natCast]
        clear hk hlen
        go_enter Try.func26, Try.ntmps26
        go_wp2_with fail
        refine HW.out.mono ?_
        rintro e w1 ⟨rfl, rfl⟩
        go_wp2_with fail
        refine HF.out.mono ?_
        rintro e w1 ⟨rfl, rfl⟩
        go_wp2_with fail
        go_loop [9, 29] (fun n i => TakeRel s A K n i) (fun _ i => K - (intOf i).toNat)
        case atStart => exact ⟨0, by omega, rfl, by simp [Pack.num]⟩
        case round =>
          obtain ⟨j, hj, rfl, rfl⟩ := hrel
          by_cases hlt : j < K
          · have hb := Pack.num_lt ((s.data.toList.drop A).take j)
            have hjl : ((s.data.toList.drop A).take j).length ≤ 7 := by have := List.length_take_le j (s.data.toList.drop A); omega
            have hb7 := pow_small _ hjl
            have hN : Hid (Pack.num ((s.data.toList.drop A).take (j + 1)) = Pack.num ((s.data.toList.drop A).take j) * 256 + (s[A + j]'(by omega)).toNat) := by
              show _ = _
              rw [drop_take_snoc s A j (by omega), Pack.num_snoc]
            have hor := or8 (Pack.num ((s.data.toList.drop A).take j)) (s[A + j]'(by omega)).toNat (by omega) (by have := (s[A + j]'(by omega)).toNat_lt; omega)
            have hM : Pack.num ((s.data.toList.drop A).take j) < 72057594037927936 := by omega
            clear hb hb7
            have hcb : ((s[A + j]'(by omega)).toNat : Int) < 256 := by have := (s[A + j]'(by omega)).toNat_lt; omega
            have HO := Lib.hid hor
            clear hor
            generalize Pack.num ((s.data.toList.drop A).take j) = M at *
            go_wp2_with fail
            exact ⟨⟨j + 1, by omega, by go_num, by rw [hN.out, HO.out]⟩, by simp [intOf]; omega⟩
          · obtain rfl : j = K := by omega
            have hMb := Pack.num_lt ((s.data.toList.drop A).take j)
            obtain ⟨M, hM⟩ : ∃ M, M = Pack.num ((s.data.toList.drop A).take j) := ⟨_, rfl⟩
            rw [← hM] at HT
            rw [← hM]
            have HM := Lib.hid hM
            clear hM hMb
            by_cases hbig : 9223372036854775807 < M
            · go_wp2_with fail
              go_ret3
              exact ⟨by rw [HT.out, if_pos hbig]; rfl, rfl⟩
            · go_wp2_with fail
              go_ret3
              exact ⟨by rw [HT.out, if_neg hbig]; rfl, rfl⟩
  · have HW := Lib.hid (within_is false s a w hs' (by simpa using hin))
    have HT : Hid (Pack.takeNum s.data.toList a k = (0, 0, 2)) := by
      show _ = _
      rw [Pack.takeNum, if_pos (by rw [hlen]; omega)]
    clear hlen hin
    go_enter Try.func26, Try.ntmps26
    go_wp2_with fail
    refine HW.out.mono ?_
    rintro e w1 ⟨rfl, rfl⟩
    go_wp2_with fail
    go_ret3
    exact ⟨by rw [HT.out]; rfl, rfl⟩
end Go.Proofs.Ytgmoakbmomaffaa.PackW
