/-
  Merged: Contracts of muster/pack: fits, within, laid, Number, TakeNumber, for every argument.; Contracts of muster/pack.TakeText and of the document's answer for layer 3 (musterref03: width, Number, Text, TakeNumber, TakeText), for every argument.; Appends onto a slice that the call itself has made, as equations on the operation's run; slices of bytes so made, read back as strings. Nothing of the program.; Contracts of musterref03.Number, Text, Same, for every argument.; Contracts of strings.Builder (copyCheck, WriteString, String) over this program, for a builder that the call itself has made. The lines follow the shelf's own proofs (Derived/Shelf/Strings/Builder1), turned to this program's numbers.; Contracts of muster/pack.Texts, for every list of texts.; awake of layer 3, and the walk of PackNumbers: true for every argument.; Contracts of muster/sums: split, whole, More, Sum, Join, for every argument.; Contracts of muster/sums.Join and of the document's answer for layer 2 (musterref02: More, Sum, Join), for every argument.; The walks of the statements of layer 2: long, awake, SumsJoins, SumsBytes, SumsParts, SumsTurned return true for every argument and change nothing that was there.
-/
import Derived.Test.YtdhnegcblnpmfaaL1
import Derived.Test.YtdhnegcblnpmfaaRows
import Derived.WalkKit
import Derived.WalkSpells
import Derived.WalkLawsBesides
import Derived.RegionTactic
import Derived.Deep.QuietTactic
import Derived.BigQuiet
import Derived.LoopTactic
import Derived.Outline
import Derived.Below
import Derived.Lib.Hide
import Derived.Lib.IndexBytes
import Derived.Laws.MakeOwn
import Derived.OwnWalk
import Derived.Maps.AppendAt
import Derived.Laws.OwnMore
import Derived.Lib.Builder
import Derived.Lib.AppendStr
import Derived.Lib.UnsafeStr
import Derived.Lib.Strings
import Derived.Laws.Externs
import Derived.OneCell
namespace Go.Proofs.Ytdhnegcblnpmfaa.PackW
open Go.RowKit Mem
set_option linter.unusedVariables false

theorem fits_any (n k : Int) (w : World) (n0 : -9223372036854775808 ≤ n) (n1 : n ≤ 9223372036854775807) :
    Calls Try.prog 70 #[.int .i64 n, .int .i64 k] w fun e w' => e = .returned (.bool (Pack.fitB n k)) ∧ w = w' := by
  cases hk : Pack.isW k
  · obtain ⟨h1, h2, h4, h8⟩ := Pack.not_isW hk
    have HF : Hid (Pack.fitB n k = false) := by
      show _ = _
      simp [Pack.fitB, hk]
    clear hk
    go_enter Try.func70, Try.ntmps70
    go_wp2_with fail
    go_ret
    exact ⟨ret_bool HF.out.symm, rfl⟩
  · rcases Pack.isW_of hk with rfl | rfl | rfl | rfl
    all_goals
      clear hk
      go_enter Try.func70, Try.ntmps70
      go_wp2_with fail
      all_goals
        go_ret
        exact ⟨ret_bool (by rw [Bool.eq_iff_iff]; simp [Pack.fitB, Pack.isW]; omega), rfl⟩

theorem within_any (s : ByteArray) (a : Int) (w : World) (hs : s.size ≤ maxLen) :
    Calls Try.prog 88 #[.string s, .int .i64 a] w fun e w' => e = .returned (.bool (decide (0 ≤ a ∧ a ≤ (s.size : Int)))) ∧ w = w' := by
  unfold maxLen at hs
  by_cases ha : 0 ≤ a
  all_goals
    go_enter Try.func88, Try.ntmps88
    go_wp2_with fail
    go_ret
    exact ⟨ret_bool (by rw [Bool.eq_iff_iff]; simp; omega), rfl⟩

def str (l : List UInt8) : ByteArray := ⟨l.toArray⟩
theorem str_data (l : List UInt8) : (str l).data.toList = l := rfl
theorem str_size (l : List UInt8) : (str l).size = l.length := by simp [str, ByteArray.size]
theorem str_of (s : ByteArray) : str s.data.toList = s := by simp [str]
theorem str_inj {l m : List UInt8} (h : str l = str m) : l = m := by rw [← str_data l, h, str_data]
theorem str_app (l : List UInt8) (s : ByteArray) : str l ++ s = str (l ++ s.data.toList) := by
  apply ByteArray.ext
  simp [str]

/-- 'make([]byte, n)' in one world -/
theorem make_bytes {P : Program} (t e : TypeId) (i : TypeInfo) (ht : P.underlying t = some (.slice e)) (hi : P.info? e = some i) (hz : i.zero = some (.int .u8 0)) (hs : i.size = 1) (hb : i.bytes = 1) (n : Int) (h0 : 0 ≤ n) (hn : n ≤ 65536) (W : World) :
    ∃ W', (Instr.makeSlice t (.int .i64 n) (.int .i64 n)).run P W = .ok (.slice (some ⟨W.heap.size, 0, none⟩) n.toNat n.toNat) W' ∧ Below W.heap.size W W' ∧ Byts W' W.heap.size (List.replicate n.toNat 0) := by
  refine ⟨_, run_make W t e i _ ht hi hz .i64 .i64 n n h0 (by omega) (by rw [hb]; omega) (by omega), (Below.refl _ _).alloc (Nat.le_refl _) _, by simp, fun j c hc => ?_⟩
  have hj : j < n.toNat := by
    have := (List.getElem?_eq_some_iff.1 hc).1
    simpa using this
  rw [List.getElem?_replicate, if_pos hj] at hc
  injection hc with hc
  subst hc
  have hb := Blk.new W e (madeCells (Value.int IntKind.u8 0).cells (n.toNat * i.size))
  refine ⟨?_, hb.frozen j⟩
  rw [hb.cell j, hs, madeCells]
  simp [hj, Value.cells, Nat.mod_one]

theorem be_step (k j n : Nat) (h : j < k) : (List.replicate (k - j) (0 : UInt8) ++ Pack.be j n).set (k - 1 - j) (UInt8.ofNat (n / 256 ^ j)) = List.replicate (k - (j + 1)) 0 ++ Pack.be (j + 1) n := by
  obtain ⟨m, rfl⟩ : ∃ m, k = m + 1 + j := ⟨k - 1 - j, by omega⟩
  rw [show m + 1 + j - j = m + 1 by omega, show m + 1 + j - 1 - j = m by omega, show m + 1 + j - (j + 1) = m by omega, Pack.be_cons]
  rw [List.set_append_left _ _ (by simp), List.replicate_succ']
  rw [List.set_append_right _ _ (by simp)]
  simp
theorem pow_div (n j : Nat) : n / 256 ^ j / 256 = n / 256 ^ (j + 1) := by rw [Nat.div_div_eq_div_mul, Nat.pow_succ]

theorem byte_info : (Try.prog.info? 5).map (fun i => (i.zero, i.size, i.bytes)) = some (some (.int .u8 0), 1, 1) := by kernel_rfl

def LaidRel (w : World) (g k n : Nat) (c i : Value) (wr : World) : Prop :=
  ∃ j : Nat, j ≤ k ∧ i = .int .i64 ((k : Int) - 1 - j) ∧ c = .int .i64 ((n / 256 ^ j : Nat) : Int) ∧ Byts wr g (List.replicate (k - j) 0 ++ Pack.be j n) ∧ Below w.heap.size w wr

set_option maxHeartbeats 400000 in
set_option maxRecDepth 100000 in
theorem laid_any (n k : Int) (w : World) (n0 : 0 ≤ n) (n1 : n ≤ 9223372036854775807) (k1 : 1 ≤ k) (k8 : k ≤ 8) :
    Calls Try.prog 71 #[.int .i64 n, .int .i64 k] w fun e w' => e = .returned (.string (str (Pack.be k.toNat n.toNat))) ∧ Below w.heap.size w w' := by
  obtain ⟨i0, hi, hz0, hz1, hz2⟩ := info_parts byte_info
  obtain ⟨W1, hmk, hb1, hby1⟩ := make_bytes (P := Try.prog) 79 5 i0 Try.underlying79 hi hz0 hz1 hz2 k (by omega) (by omega) w
  clear hi hz0 hz1 hz2
  obtain ⟨K, rfl⟩ := Int.eq_ofNat_of_zero_le (show 0 ≤ k by omega)
  obtain ⟨N, rfl⟩ := Int.eq_ofNat_of_zero_le n0
  rw [Int.toNat_natCast] at hmk hby1
  rw [Int.toNat_natCast, Int.toNat_natCast]
  go_enter Try.func71, Try.ntmps71
  go_wp2_with fail
  clear hmk
  go_loopw [0, 6] (fun c i wr => LaidRel w w.heap.size K N c i wr) (fun _ i _ => (intOf i + 1).toNat)
  case atStart => exact ⟨0, by omega, by go_num, by simp, by simpa [Pack.be] using hby1, hb1⟩
  case round =>
    obtain ⟨j, hj, rfl, rfl, hby, hbel⟩ := hrel
    by_cases hlt : j < K
    · have hnj : N / 256 ^ j ≤ N := Nat.div_le_self _ _
      have hset := hby.set (i := K - 1 - j) (by simp [Pack.be_length]; omega) (UInt8.ofNat (N / 256 ^ j))
      rw [be_step K j N hlt] at hset
      obtain ⟨hc, hf⟩ : ∃ u, wr.cell? ⟨w.heap.size, K - 1 - j, none⟩ = some u := by
        have hl : K - 1 - j < (List.replicate (K - j) (0 : UInt8) ++ Pack.be j N).length := by simp [Pack.be_length]; omega
        exact ⟨_, (hby.2 _ _ (List.getElem?_eq_getElem hl)).1⟩
      have hfr : wr.frozen? ⟨w.heap.size, K - 1 - j, none⟩ = false := by
        have hl : K - 1 - j < (List.replicate (K - j) (0 : UInt8) ++ Pack.be j N).length := by simp [Pack.be_length]; omega
        exact (hby.2 _ _ (List.getElem?_eq_getElem hl)).2
      have HP := Lib.hid (pow_div N j)
      have HS := Lib.hid hset
      clear hset hby
      generalize N / 256 ^ j = M at *
      go_wp2_with fail
      refine ⟨⟨j + 1, by omega, by go_num, by rw [← HP.out]; go_num, ?_, hbel.setCell (p := ⟨w.heap.size, K - 1 - j, none⟩) (Nat.le_refl _) _⟩, by simp [intOf]; omega⟩
      have := HS.out
      rw [show ((UInt8.ofNat M).toNat : Int) = (M : Int) % 256 by simp] at this
      exact this
    · obtain rfl : j = K := by omega
      have hback := hby.back (P := Try.prog) 79 9 5 j j (by simp [Pack.be_length]) Try.underlying79 Try.underlying5 Try.underlying9
      have hl : List.replicate (j - j) (0 : UInt8) ++ Pack.be j N = Pack.be j N := by simp
      rw [hl] at hback
      change _ = Result.ok (Value.string (str (Pack.be j N))) wr at hback
      clear hl hby hlt
      have hneg : decide ((0 : Int) ≤ (j : Int) - 1 - (j : Int)) = false := by simp; omega
      obtain ⟨L, hL⟩ : ∃ L, L = Pack.be j N := ⟨_, rfl⟩
      rw [← hL] at hback
      have HL := Lib.hid hL
      clear hL
      generalize N / 256 ^ j = M at *
      go_wp2_with fail
      go_ret
      exact ⟨by rw [← HL.out]; rfl, hbel⟩

theorem fits_yes (n k : Int) (w : World) (n0 : -9223372036854775808 ≤ n) (n1 : n ≤ 9223372036854775807) (h : Pack.fitB n k = true) :
    Calls Try.prog 70 #[.int .i64 n, .int .i64 k] w fun e w' => e = .returned (.bool true) ∧ w = w' := by rw [← h]; exact fits_any n k w n0 n1
theorem fits_no (n k : Int) (w : World) (n0 : -9223372036854775808 ≤ n) (n1 : n ≤ 9223372036854775807) (h : Pack.fitB n k = false) :
    Calls Try.prog 70 #[.int .i64 n, .int .i64 k] w fun e w' => e = .returned (.bool false) ∧ w = w' := by rw [← h]; exact fits_any n k w n0 n1
theorem within_is (v : Bool) (s : ByteArray) (a : Int) (w : World) (hs : s.size ≤ maxLen) (h : decide (0 ≤ a ∧ a ≤ (s.size : Int)) = v) :
    Calls Try.prog 88 #[.string s, .int .i64 a] w fun e w' => e = .returned (.bool v) ∧ w = w' := by rw [← h]; exact within_any s a w hs

theorem fitB_of {n k : Int} (h : Pack.fitB n k = true) : 1 ≤ k ∧ k ≤ 8 ∧ 0 ≤ n ∧ n < 256 ^ k.toNat ∧ Pack.isW k = true := by
  simp only [Pack.fitB, Bool.and_eq_true, decide_eq_true_eq] at h
  rcases Pack.isW_of h.1 with rfl | rfl | rfl | rfl <;> exact ⟨by omega, by omega, h.2.1, h.2.2, h.1⟩

theorem ret2 {a b : Value} {c d : Value} (h : a = c) (k : b = d) : Ending.returned (.tuple #[a, b]) = .returned (.tuple #[c, d]) := by rw [h, k]
theorem ret3 {a b c a' b' c' : Value} (h : a = a') (k : b = b') (l : c = c') : Ending.returned (.tuple #[a, b, c]) = .returned (.tuple #[a', b', c']) := by rw [h, k, l]

set_option maxHeartbeats 400000 in
theorem number_any (n k : Int) (w : World) (n0 : -9223372036854775808 ≤ n) (n1 : n ≤ 9223372036854775807) :
    Calls Try.prog 63 #[.int .i64 n, .int .i64 k] w fun e w' => e = .returned (.tuple #[.string (str (Pack.number n k).1), .int .i64 (Pack.number n k).2]) ∧ Below w.heap.size w w' := by
  cases hf : Pack.fitB n k
  · have HN : Hid (Pack.number n k = ([], 2)) := by show _ = _; simp [Pack.number, hf]
    have HF := Lib.hid (fits_no n k w n0 n1 hf)
    clear hf
    go_enter Try.func63, Try.ntmps63
    go_wp2_with fail
    refine HF.out.mono ?_
    rintro e w1 ⟨rfl, rfl⟩
    go_wp2_with fail
    go_ret2
    exact ⟨by rw [HN.out]; rfl, Below.refl _ _⟩
  · have HN : Hid (Pack.number n k = (Pack.be k.toNat n.toNat, 0)) := by show _ = _; simp [Pack.number, hf]
    have HF := Lib.hid (fits_yes n k w n0 n1 hf)
    obtain ⟨k1, k8, m0, _, _⟩ := fitB_of hf
    clear hf
    go_enter Try.func63, Try.ntmps63
    go_wp2_with fail
    refine HF.out.mono ?_
    rintro e w1 ⟨rfl, rfl⟩
    go_wp2_with fail
    refine (laid_any n k w m0 n1 k1 k8).mono ?_
    rintro e w1 ⟨rfl, hb⟩
    go_wp2_with fail
    go_ret2
    exact ⟨by rw [HN.out]; rfl, hb⟩

theorem or8 (n c : Nat) (hn : n < 72057594037927936) (hc : c < 256) : bits BinOp.or IntKind.u64 ((n : Int) * 256) (c : Int) = ((n * 256 + c : Nat) : Int) := by
  rw [show ((n : Int) * 256) = ((n * 256 : Nat) : Int) by omega, u64_or_nat _ _ (by omega) (by omega), nat_join 8 _ _ (by omega) (by omega)]

theorem drop_take_snoc (s : ByteArray) (a k : Nat) (h : a + k < s.size) : (s.data.toList.drop a).take (k + 1) = (s.data.toList.drop a).take k ++ [s[a + k]] := by
  have hl : k < (s.data.toList.drop a).length := by simp; omega
  rw [List.take_succ_eq_append_getElem hl]
  simp only [List.getElem_drop]
  rfl

def TakeRel (s : ByteArray) (a K : Nat) (n i : Value) : Prop :=
  ∃ k : Nat, k ≤ K ∧ i = .int .i64 k ∧ n = .int .u64 ((Pack.num ((s.data.toList.drop a).take k) : Nat) : Int)

theorem pow_small (k : Nat) (h : k ≤ 7) : 256 ^ k ≤ 72057594037927936 := Nat.pow_le_pow_right (by omega) h

set_option maxHeartbeats 400000 in
set_option maxRecDepth 100000 in
theorem takeNum_any (s : ByteArray) (a k : Int) (w : World) (hs : s.size ≤ maxLen) :
    Calls Try.prog 79 #[.string s, .int .i64 a, .int .i64 k] w fun e w' =>
      e = .returned (.tuple #[.int .i64 (Pack.takeNum s.data.toList a k).1, .int .i64 (Pack.takeNum s.data.toList a k).2.1, .int .i64 (Pack.takeNum s.data.toList a k).2.2]) ∧ w = w' := by
  have hs' : s.size ≤ maxLen := hs
  unfold maxLen at hs
  have hlen : s.data.toList.length = s.size := by simp
  by_cases hin : 0 ≤ a ∧ a ≤ (s.size : Int)
  · have HW := Lib.hid (within_is true s a w hs' (by simpa using hin))
    cases hk : Pack.isW k
    · have HT : Hid (Pack.takeNum s.data.toList a k = (0, 0, 2)) := by
        show _ = _
        rw [Pack.takeNum, if_pos (.inr (.inr hk))]
      have HF := Lib.hid (fits_no 0 k w (by omega) (by omega) (by simp [Pack.fitB, hk]))
      clear hk hlen
      go_enter Try.func79, Try.ntmps79
      go_wp2_with fail
      refine HW.out.mono ?_
      rintro e w1 ⟨rfl, rfl⟩
      go_wp2_with fail
      refine HF.out.mono ?_
      rintro e w1 ⟨rfl, rfl⟩
      go_wp2_with fail
      go_ret3
      exact ⟨by rw [HT.out]; rfl, rfl⟩
    · have hk8 : 1 ≤ k ∧ k ≤ 8 := by rcases Pack.isW_of hk with rfl | rfl | rfl | rfl <;> omega
      have HF := Lib.hid (fits_yes 0 k w (by omega) (by omega) (by
        simp only [Pack.fitB, hk, Bool.true_and, decide_eq_true_eq]
        exact ⟨by omega, Int.pow_pos (by omega)⟩))
      obtain ⟨A, rfl⟩ := Int.eq_ofNat_of_zero_le hin.1
      obtain ⟨K, rfl⟩ := Int.eq_ofNat_of_zero_le (show 0 ≤ k by omega)
      by_cases hsh : (s.size : Int) - A < K
      · have HT : Hid (Pack.takeNum s.data.toList A K = (0, 0, 30)) := by
          show _ = _
          rw [Pack.takeNum, if_neg (by rw [hlen, hk]; simp; omega), if_pos (by rw [hlen]; exact hsh)]
        clear hk hlen
        go_enter Try.func79, Try.ntmps79
        go_wp2_with fail
        refine HW.out.mono ?_
        rintro e w1 ⟨rfl, rfl⟩
        go_wp2_with fail
        refine HF.out.mono ?_
        rintro e w1 ⟨rfl, rfl⟩
        go_wp2_with fail
        go_ret3
        exact ⟨by rw [HT.out]; rfl, rfl⟩
      · have HT : Hid (Pack.takeNum s.data.toList A K = if 9223372036854775807 < Pack.num ((s.data.toList.drop A).take K) then ((0 : Int), (0 : Int), (2 : Int)) else (((Pack.num ((s.data.toList.drop A).take K) : Nat) : Int), (A : Int) + K, 0)) := by
          show _ = _
          rw [Pack.takeNum, if_neg (by rw [hlen, hk]; simp; omega), if_neg (by rw [hlen]; exact hsh), Int.toNat_natCast, Int.toNat_natCast]
        clear hk hlen
        go_enter Try.func79, Try.ntmps79
        go_wp2_with fail
        refine HW.out.mono ?_
        rintro e w1 ⟨rfl, rfl⟩
        go_wp2_with fail
        refine HF.out.mono ?_
        rintro e w1 ⟨rfl, rfl⟩
        go_wp2_with fail
        go_loop [9, 29] (fun n i => TakeRel s A K n i) (fun _ i => K - (intOf i).toNat)
        case atStart => exact ⟨0, by omega, rfl, by simp [Pack.num]⟩
        case round =>
          obtain ⟨j, hj, rfl, rfl⟩ := hrel
          by_cases hlt : j < K
          · have hb := Pack.num_lt ((s.data.toList.drop A).take j)
            have hjl : ((s.data.toList.drop A).take j).length ≤ 7 := by have := List.length_take_le j (s.data.toList.drop A); omega
            have hb7 := pow_small _ hjl
            have hN : Hid (Pack.num ((s.data.toList.drop A).take (j + 1)) = Pack.num ((s.data.toList.drop A).take j) * 256 + (s[A + j]'(by omega)).toNat) := by
              show _ = _
              rw [drop_take_snoc s A j (by omega), Pack.num_snoc]
            have hor := or8 (Pack.num ((s.data.toList.drop A).take j)) (s[A + j]'(by omega)).toNat (by omega) (by have := (s[A + j]'(by omega)).toNat_lt; omega)
            have hM : Pack.num ((s.data.toList.drop A).take j) < 72057594037927936 := by omega
            clear hb hb7
            have hcb : ((s[A + j]'(by omega)).toNat : Int) < 256 := by have := (s[A + j]'(by omega)).toNat_lt; omega
            have HO := Lib.hid hor
            clear hor
            generalize Pack.num ((s.data.toList.drop A).take j) = M at *
            go_wp2_with fail
            exact ⟨⟨j + 1, by omega, by go_num, by rw [hN.out, HO.out]⟩, by simp [intOf]; omega⟩
          · obtain rfl : j = K := by omega
            have hMb := Pack.num_lt ((s.data.toList.drop A).take j)
            obtain ⟨M, hM⟩ : ∃ M, M = Pack.num ((s.data.toList.drop A).take j) := ⟨_, rfl⟩
            rw [← hM] at HT
            rw [← hM]
            have HM := Lib.hid hM
            clear hM hMb
            by_cases hbig : 9223372036854775807 < M
            · go_wp2_with fail
              go_ret3
              exact ⟨by rw [HT.out, if_pos hbig]; rfl, rfl⟩
            · go_wp2_with fail
              go_ret3
              exact ⟨by rw [HT.out, if_neg hbig]; rfl, rfl⟩
  · have HW := Lib.hid (within_is false s a w hs' (by simpa using hin))
    have HT : Hid (Pack.takeNum s.data.toList a k = (0, 0, 2)) := by
      show _ = _
      rw [Pack.takeNum, if_pos (by rw [hlen]; omega)]
    clear hlen hin
    go_enter Try.func79, Try.ntmps79
    go_wp2_with fail
    refine HW.out.mono ?_
    rintro e w1 ⟨rfl, rfl⟩
    go_wp2_with fail
    go_ret3
    exact ⟨by rw [HT.out]; rfl, rfl⟩
end Go.Proofs.Ytdhnegcblnpmfaa.PackW

namespace Go.Proofs.Ytdhnegcblnpmfaa.PackW
open Go.RowKit Mem
set_option linter.unusedVariables false

theorem takeNum_bd (s : List UInt8) (a : Int) (k : Int) (hl : s.length ≤ 9223372036854775807) : 0 ≤ (Pack.takeNum s a k).1 ∧ 0 ≤ (Pack.takeNum s a k).2.1 ∧ (Pack.takeNum s a k).2.1 ≤ s.length ∧ (Pack.takeNum s a k).1 ≤ 9223372036854775807 := by
  unfold Pack.takeNum
  split
  · simp
  · rename_i h
    have hk : Pack.isW k = true := by
      cases hk : Pack.isW k
      · exact absurd (.inr (.inr hk)) h
      · rfl
    have hk1 : 1 ≤ k := by rcases Pack.isW_of hk with rfl | rfl | rfl | rfl <;> omega
    have ha : 0 ≤ a := by omega
    clear h hk
    repeat' split
    all_goals simp
    omega
theorem takeNum2_bd (s : List UInt8) (a : Int) : (Pack.takeNum s a 2).1 ≤ 65535 := by
  have h := Pack.num_lt ((s.drop a.toNat).take 2)
  have hl := List.length_take_le 2 (s.drop a.toNat)
  have h2 : 256 ^ ((s.drop a.toNat).take 2).length ≤ 256 ^ 2 := Nat.pow_le_pow_right (by omega) hl
  unfold Pack.takeNum
  rw [show (2 : Int).toNat = 2 from rfl]
  generalize Pack.num ((s.drop a.toNat).take 2) = M at *
  repeat' split
  all_goals simp
  omega

theorem extract_str (s : ByteArray) (a b : Nat) : s.extract a b = str ((s.data.toList.drop a).take (b - a)) := by
  rw [← Lib.extract_data, str_of]

def RTakeRel (s : ByteArray) (a K : Nat) (n i : Value) : Prop :=
  ∃ k : Nat, k ≤ K ∧ i = .int .i64 k ∧ n = .int .i64 ((Pack.num ((s.data.toList.drop a).take k) : Nat) : Int)

/-- eight bytes whose first one is at most 127, and only those, are a number that an int holds -/
theorem num8 (l : List UInt8) (c : UInt8) (hl : l.length = 7) : 9223372036854775807 < Pack.num (c :: l) ↔ 127 < c.toNat := by
  have h := Pack.num_lt l
  rw [hl] at h
  rw [Pack.num, hl]
  omega
theorem num_small (l : List UInt8) (hl : l.length ≤ 7) : Pack.num l < 72057594037927936 := Nat.lt_of_lt_of_le (Pack.num_lt l) (pow_small _ hl)
theorem num_mono (s : ByteArray) (A j K : Nat) (h : j ≤ K) (h' : A + K ≤ s.size) : Pack.num ((s.data.toList.drop A).take j) ≤ Pack.num ((s.data.toList.drop A).take K) := by
  induction K with
  | zero => rw [Nat.le_zero.1 h]; exact Nat.le_refl _
  | succ K ih =>
    rcases Nat.lt_or_ge j (K + 1) with hj | hj
    · have := ih (by omega) (by omega)
      rw [drop_take_snoc s A K (by omega), Pack.num_snoc]
      omega
    · rw [show j = K + 1 by omega]; exact Nat.le_refl _
theorem drop_first (s : ByteArray) (A K : Nat) (h : A + K < s.size) : (s.data.toList.drop A).take (K + 1) = s[A] :: (s.data.toList.drop (A + 1)).take K := by
  rw [List.drop_eq_getElem_cons (by simp; omega), List.take_succ_cons]; rfl

end Go.Proofs.Ytdhnegcblnpmfaa.PackW

namespace Go.Proofs.Ytdhnegcblnpmfaa.Mem
open Go.RowKit

/-- a slice of m elements reads as these cells (nil let in) -/
def Rd (W : World) (A : Option Addr) (m size : Nat) (news : List Value) : Prop :=
  news.length = m * size ∧ (0 < m → ∃ ad, A = some ad ∧ ∀ j u, news[j]? = some u → W.cell? (ad.add j) = some u)
theorem plain_add' (b off i : Nat) : (⟨b, off, none⟩ : Addr).add i = ⟨b, off + i, none⟩ := by unfold Addr.add; split <;> simp_all
theorem Rd.of_row {W : World} {A : Option Addr} {n : Nat} {vs : List Value} (h : Row W A n vs) : Rd W A n 1 vs :=
  ⟨by rw [h.1, Nat.mul_one], fun hn => by
    obtain ⟨b, off, e, _, hc⟩ := h.2 hn
    exact ⟨_, e, fun j u hu => by rw [plain_add']; exact hc j u hu⟩⟩
theorem Rd.of_own {W : World} {base : Nat} {e : TypeId} {size : Nat} {A : Option Addr} {n c : Nat} {xs : List Value} (h : W.ownsRow base e size (.slice A n c) n xs) : Rd W A n size xs :=
  ⟨h.1, fun hn => by
    rcases h.2 with ⟨_, h0⟩ | ⟨g, cap, cur, hv, _⟩
    · omega
    · injection hv with hA _ _
      exact ⟨⟨g, 0, none⟩, hA, h.cells (by rw [hA]; rfl)⟩⟩
theorem Rd.one (W : World) (v : Value) (t : TypeId) : Rd (W.alloc (.cells #[v] t)) (some ⟨W.heap.size, 0, none⟩) 1 1 [v] :=
  ⟨rfl, fun _ => ⟨_, rfl, cell_one_new W v t⟩⟩
theorem own_slice {W : World} {base : Nat} {e : TypeId} {size : Nat} {v : Value} {n : Nat} {xs : List Value} (h : W.ownsRow base e size v n xs) : ∃ A c, v = .slice A n c := by
  rcases h.2 with ⟨rfl, rfl⟩ | ⟨g, cap, cur, rfl, _⟩
  · exact ⟨_, _, rfl⟩
  · exact ⟨_, _, rfl⟩

theorem app_own {P : Program} (W : World) (base : Nat) (t ty e : TypeId) (i : TypeInfo) (z : Value) (size bytes : Nat) (ht : P.underlying t = some (.slice e)) (hi : P.info? e = some i) (hz : i.zero = some z)
    (hsize : i.size = size) (hby : i.bytes = bytes) (hzs : z.cells.size = size) (hsz : 0 < size)
    (A : Option Addr) (n c : Nat) (xs : List Value) (hown : W.ownsRow base e size (.slice A n c) n xs)
    (B : Option Addr) (m d : Nat) (news : List Value) (hr : Rd W B m size news) (hd : B = none → d = 0) (h1 : ∀ u ∈ news, u.oneCell' = true)
    (h63 : n + m ≤ maxLen) (hbytes : (n + m) * bytes ≤ 140737488355328) (hbase : base ≤ W.heap.size) :
    ∃ A' c' W', (Builtin.append_ #[t, t] ty #[.slice A n c, .slice B m d]).run P W = .ok (.slice A' (n + m) c') W' ∧ W'.ownsRow base e size (.slice A' (n + m) c') (n + m) (xs ++ news) ∧
      W.grownBy W' (Value.slice A n c).ownBlock ∧ Below base W W' ∧ ((Value.slice A' (n + m) c').ownBlock = (Value.slice A n c).ownBlock ∨ (Value.slice A' (n + m) c').ownBlock = some W.heap.size) := by
  have hbel : ∀ W', W.grownBy W' (Value.slice A n c).ownBlock → Below base W W' := fun W' hg => (Below.refl base W).grown hg hbase (fun k hk => (hown.lt k hk).1)
  rcases B with _ | ad
  · have hm : m = 0 := by
      rcases Nat.eq_zero_or_pos m with h0 | h0
      · exact h0
      · obtain ⟨ad, h, _⟩ := hr.2 h0
        cases h
    subst hm
    have hn : news = [] := List.eq_nil_of_length_eq_zero (by simpa using hr.1)
    subst hn
    rw [hd rfl]
    exact ⟨A, c, W, run_append_owned_none W base t ty e i size ht hi _ n xs hown, by simpa using hown, World.grownBy.refl W _, hbel _ (World.grownBy.refl W _), .inl rfl⟩
  · have hcells : ∀ j u, news[j]? = some u → W.cell? (ad.add j) = some u := by
      intro j u hu
      rcases Nat.eq_zero_or_pos m with h0 | h0
      · subst h0
        have hn : news = [] := List.eq_nil_of_length_eq_zero (by simpa using hr.1)
        subst hn
        simp at hu
      · obtain ⟨ad', h, hc⟩ := hr.2 h0
        injection h with h
        subst h
        exact hc j u hu
    obtain ⟨v', W', hrun, h2, h3, _, h5⟩ := run_append_own_at (P := P) W base t ty e i z size bytes ht hi hz hsize hby hzs hsz _ n xs hown ad m d news hr.1 hcells h1 h63 hbytes hbase
    obtain ⟨A', c', rfl⟩ := own_slice h2
    exact ⟨A', c', W', hrun, h2, h3, hbel _ h3, h5⟩

/-- an append whose run is known, met in a walk -/
theorem wpList_app {P : Program} {ops : Array Oper} {rest : List Oper} {o : Oper} {a : Act} {Q : Exit → Act → World → Prop} {W W' : World} {t : TypeId} {v v2 r : Value} (hgd : o.guard = none) (s x : Operand)
    (ho : o.op = .call { callee := .builtin .append, args := #[s, x], argTypes := #[t, t] }) (hs : a.eval s = v) (hx : a.eval x = v2) (hrun : (Builtin.append_ #[t, t] o.type #[v, v2]).run P W = .ok r W')
    (h : wpList P ops Q rest (a.put o.dst r) W') : wpList P ops Q (o :: rest) a W := by
  refine wpList_plain hgd fun K hK => ?_
  unfold Oper.wp execOp
  simp only [ho, resolve, invoke, builtin, Sem.run_bind, Sem.run_pure, Result.andThen_ok, List.map_toArray, List.map_cons, List.map_nil, hs, hx, hrun]
  exact hK _ _ h

/-- bytes as cells -/
def bv (l : List UInt8) : List Value := l.map fun c => .int .u8 (c.toNat : Int)
theorem bv_length (l : List UInt8) : (bv l).length = l.length := by simp [bv]
theorem bv_append (l m : List UInt8) : bv (l ++ m) = bv l ++ bv m := by simp [bv]
theorem bv_one (l : List UInt8) : ∀ u ∈ bv l, u.oneCell' = true := by
  intro u hu
  simp only [bv, List.mem_map] at hu
  obtain ⟨c, _, rfl⟩ := hu
  rfl
theorem own_back {P : Program} {W : World} {base : Nat} {e : TypeId} {A : Option Addr} {n c : Nat} {l : List UInt8} (h : W.ownsRow base e 1 (.slice A n c) n (bv l)) (src dst : TypeId)
    (hs : P.underlying src = some (.slice e)) (he : P.underlying e = some (.int .u8)) (hd : P.underlying dst = some .string) : (convert src dst (.slice A n c)).run P W = .ok (.string ⟨l.toArray⟩) W := by
  have hl : l.length = n := by have := h.1; rw [bv_length] at this; omega
  rcases h.2 with ⟨hv, h0⟩ | ⟨g, cap, cur, hv, _⟩
  · injection hv with hA _ _
    subst h0
    have : l = [] := List.eq_nil_of_length_eq_zero hl
    subst this
    rw [hA, run_convert_bytes_nil W src e hs he 0 c dst hd]
    rfl
  · injection hv with hA _ _
    subst hA
    subst hl
    refine run_convert_bytes_back W src dst e _ c l hs he hd (fun j hj => ?_)
    exact h.cells (g := g) rfl j _ (by simp [bv, List.getElem?_eq_getElem hj])
end Go.Proofs.Ytdhnegcblnpmfaa.Mem

namespace Go.Proofs.Ytdhnegcblnpmfaa.PackW
open Go.RowKit Mem
set_option linter.unusedVariables false

def RNumRel (w : World) (n : Nat) (c o i : Value) (wr : World) (K : Nat) : Prop :=
  ∃ (j : Nat) (A : Option Addr) (cap : Nat), j ≤ K ∧ i = .int .i64 j ∧ c = .int .i64 ((n / 256 ^ j : Nat) : Int) ∧ o = .slice A j cap ∧ (A = none → cap = 0) ∧
    wr.ownsRow w.heap.size 5 1 (.slice A j cap) j (bv (Pack.be j n)) ∧ Below w.heap.size w wr

theorem nil_cap {W : World} {base : Nat} {e : TypeId} {size : Nat} {A : Option Addr} {n c : Nat} {xs : List Value} (h : W.ownsRow base e size (.slice A n c) n xs) : A = none → c = 0 := by
  rcases h.2 with ⟨hv, h0⟩ | ⟨g, cap, cur, hv, _⟩
  · injection hv with _ _ hc; exact fun _ => hc
  · injection hv with hA _ _; intro h'; rw [hA] at h'; cases h'

end Go.Proofs.Ytdhnegcblnpmfaa.PackW

namespace Go.Proofs.Ytdhnegcblnpmfaa.BldW
open Go.RowKit Mem
set_option linter.unusedVariables false

theorem sizeBuilder : (Try.prog.info? 108).map (·.size) = some 2 := by kernel_rfl
theorem byteInfo : (Try.prog.info? 5).map (fun i => (i.zero, i.size, i.bytes)) = some (some (.int .u8 0), 1, 1) := by kernel_rfl

set_option maxHeartbeats 1000000 in
set_option maxRecDepth 100000 in
theorem copyCheck_used (b : Nat) (w : World) (h0 : w.cell? ⟨b, 0, none⟩ = some (.pointer (some ⟨b, 0, none⟩))) :
    Calls Try.prog 72 #[.pointer (some ⟨b, 0, none⟩)] w fun e w' => e = .returned (.tuple #[]) ∧ w' = w := by
  obtain ⟨j, hj, _⟩ := Option.map_eq_some_iff.1 sizeBuilder
  go_enter Try.func72, Try.ntmps72
  go_wp2
  rw [Lib.run_neq_ptr_same w _ Try.underlying106 hj]
  go_wp2
  go_end0
  exact ⟨rfl, rfl⟩

set_option maxHeartbeats 1000000 in
set_option maxRecDepth 100000 in
theorem copyCheck_fresh (b : Nat) (w : World) (h0 : w.cell? ⟨b, 0, none⟩ = some (.pointer none)) (hsh : w.shape? b = some (108, 2)) (hfz : w.frozen? ⟨b, 0, none⟩ = false) :
    Calls Try.prog 72 #[.pointer (some ⟨b, 0, none⟩)] w fun e w' => e = .returned (.tuple #[]) ∧ w' = w.setCell ⟨b, 0, none⟩ (.pointer (some ⟨b, 0, none⟩)) := by
  obtain ⟨j, hj, hjs⟩ := Option.map_eq_some_iff.1 sizeBuilder
  go_enter Try.func72, Try.ntmps72
  go_wp2
  rw [Lib.run_to_unsafe w ⟨b, 0, none⟩ Try.underlying106 Try.underlying139 hj (by rw [hjs]; decide) hsh (Nat.zero_lt_succ 1)]
  simp only [Result.andThen]
  rw [Oper.upon_value]
  go_wp2
  rw [run_callFunc_extern Try.func81 (by kernel_rfl) (by kernel_rfl) (by kernel_rfl) (e := Extern.AbiNoEscape.same) (by kernel_rfl)]
  rw [Lib.run_noEscape]
  simp only [Result.andThen]
  rw [Oper.upon_value]
  go_wp2
  rw [Lib.run_from_unsafe w ⟨b, 0, none⟩ Try.underlying139 Try.underlying106 hj hsh (by kernel_rfl)]
  simp only [Result.andThen]
  rw [Oper.upon_value]
  go_wp2
  go_end0
  exact ⟨rfl, rfl⟩

theorem copyCheck_any (B b : Nat) (bs : List Value) (w : World) (h : Lib.IsBuilder 108 5 B b bs w) :
    Calls Try.prog 72 #[.pointer (some ⟨b, 0, none⟩)] w fun e w' => e = .returned (.tuple #[]) ∧ (Lib.BuilderAt 108 5 B b (.pointer (some ⟨b, 0, none⟩)) bs w' ∧ Below B w w') := by
  rcases h with h | h
  · refine (copyCheck_fresh b w h.cell0 h.shape h.frozen0).mono ?_
    rintro e w' ⟨rfl, rfl⟩
    exact ⟨rfl, h.used _, (Below.refl B w).setCell (p := ⟨b, 0, none⟩) h.1 _⟩
  · refine (copyCheck_used b w h.cell0).mono ?_
    rintro e w' ⟨rfl, rfl⟩
    exact ⟨rfl, h, Below.refl B _⟩

set_option maxHeartbeats 2000000 in
set_option maxRecDepth 100000 in
theorem writeString (B b : Nat) (bs : List Value) (s : ByteArray) (w : World) (h : Lib.IsBuilder 108 5 B b bs w) (hlen : bs.length + s.size ≤ 140737488355328) (hBw : B ≤ w.heap.size) :
    Calls Try.prog 64 #[.pointer (some ⟨b, 0, none⟩), .string s] w fun e w' => e = .returned (.tuple #[.int .i64 s.size, .nilIface]) ∧ (Lib.BuilderAt 108 5 B b (.pointer (some ⟨b, 0, none⟩)) (bs ++ Lib.strCells s) w' ∧ Below B w w') := by
  obtain ⟨i0, hi, hz0, hz1, hz2⟩ := info_parts byteInfo
  go_enter Try.func64, Try.ntmps64
  go_wp2_with fail
  refine (copyCheck_any B b bs _ h).mono ?_
  rintro e w1 ⟨rfl, h1, hb1⟩
  obtain ⟨hB, v, hbk, hown, hne⟩ := h1
  have c0 : w1.cell? ⟨b, 0, none⟩ = some (.pointer (some ⟨b, 0, none⟩)) := by rw [Lib.cell_of_heap hbk]; rfl
  have c1 : w1.cell? ⟨b, 1, none⟩ = some v := by rw [Lib.cell_of_heap hbk]; rfl
  go_wp2_with (at_builtin; refine Lib.wpList_append_own_string _ rfl _ _ 79 9 rfl B 5 i0 Try.underlying79 Try.underlying9 hi hz0 hz1 hz2 _ _ _ rfl hown s rfl ?c3 ?c4 ?c5 ?_)
  case c3 => unfold maxLen; omega
  case c4 => omega
  case c5 => have := hb1.size; omega
  intro v' w2 hown' hgrow _
  have hlt : b < w1.heap.size := lt_of_block hbk
  have hb2 : w2.heap[b]? = some (.cells #[.pointer (some ⟨b, 0, none⟩), v] 108 (0, 0)) := by
    rw [hgrow.block b hlt (fun e => hne e.symm)]
    exact hbk
  have d0 : w2.cell? ⟨b, 0, none⟩ = some (.pointer (some ⟨b, 0, none⟩)) := by rw [Lib.cell_of_heap hb2]; rfl
  have d1 : w2.cell? ⟨b, 1, none⟩ = some v := by rw [Lib.cell_of_heap hb2]; rfl
  have f1 : w2.frozen? ⟨b, 1, none⟩ = false := Lib.frozen_of_heap hb2 1
  obtain ⟨ao, cap, hv⟩ := own_slice hown'
  rw [hv]
  go_wp2
  go_ret2
  refine ⟨rfl, ?_, ?_⟩
  · rw [hv] at hown'
    exact Lib.BuilderAt.put (T := 108) (e := 5) hB hb2 (bs' := bs ++ Lib.strCells s) (by simpa [Lib.strCells_length] using hown') (by decide)
  · exact (hb1.grown hgrow (by have := hb1.size; omega) (fun k hk => (hown.lt k hk).1)).setCell (p := ⟨b, 1, none⟩) hB _

set_option maxHeartbeats 1000000 in
set_option maxRecDepth 100000 in
theorem string_some (B b : Nat) (l : List UInt8) (w : World) (h : Lib.IsBuilder 108 5 B b (Lib.byteCells l) w) (h0 : l ≠ []) :
    Calls Try.prog 66 #[.pointer (some ⟨b, 0, none⟩)] w fun e w' => e = .returned (.string ⟨l.toArray⟩) ∧ Below B w w' := by
  obtain ⟨p, hB, v, hbk, hown, hne⟩ : ∃ p, Lib.BuilderAt 108 5 B b p (Lib.byteCells l) w := by
    rcases h with h | h
    · exact ⟨_, h⟩
    · exact ⟨_, h⟩
  have hl0 : l.length ≠ 0 := by simpa using h0
  rw [Lib.byteCells_length] at hown
  obtain ⟨g, cap, cur, rfl, hbg, hg, hnc, hcm, hcs, htake⟩ : ∃ g cap cur, v = .slice (some ⟨g, 0, none⟩) l.length cap ∧ B ≤ g ∧ w.heap[g]? = some (.cells cur 5 (0, 0)) ∧ l.length ≤ cap ∧ cap ≤ maxLen ∧ cur.size = cap * 1 ∧ cur.toList.take (l.length * 1) = Lib.byteCells l := by
    rcases hown.2 with ⟨_, hz⟩ | ⟨g, cap, cur, hv, r⟩
    · exact absurd hz hl0
    · exact ⟨g, cap, cur, hv, r⟩
  have c1 : w.drew.cell? ⟨b, 1, none⟩ = some (.slice (some ⟨g, 0, none⟩) l.length cap) := by
    have : w.drew.heap[b]? = some (.cells #[p, .slice (some ⟨g, 0, none⟩) l.length cap] 108 (0, 0)) := hbk
    rw [Lib.cell_of_heap this]; rfl
  have hSD : (Builtin.unsafeSliceData_ #[79] 132 #[.slice (some ⟨g, 0, none⟩) l.length cap]).run Try.prog w.drew = .ok (.pointer (some ⟨g, 0, none⟩)) w.drew :=
    Lib.run_unsafeSliceData_row _ _ _ _ _ _ (by omega)
  have hUS : (Builtin.unsafeString_ #[132, 3] 9 #[.pointer (some ⟨g, 0, none⟩), .int .i64 l.length]).run Try.prog w.drew = .ok (.string ⟨l.toArray⟩) (w.drew.freeze ⟨g, 0, none⟩ l.length) := by
    refine Lib.run_unsafeString_row w.drew 132 3 9 5 Try.underlying132 (by kernel_rfl) g cur.size (by have hg' : w.drew.heap[g]? = some (.cells cur 5 (0, 0)) := hg; simp [World.shape?, hg']) l h0 (by omega) (by unfold maxLen at hcm; omega) ?_
    intro j x hx
    have := hown.cells (g := g) rfl j (.int .u8 x.toNat) (by simp [Lib.byteCells, hx])
    exact this
  go_enter Try.func66, Try.ntmps66
  go_wp2
  go_region
  all_goals (go_wp2; go_ret; exact ⟨rfl, Lib.below_freeze (Below.drew (Below.refl B w)) (p := ⟨g, 0, none⟩) hbg _⟩)
end Go.Proofs.Ytdhnegcblnpmfaa.BldW

namespace Go.Proofs.Ytdhnegcblnpmfaa.PackW
open Go.RowKit Mem
set_option linter.unusedVariables false

theorem own_below {w w' : World} {base : Nat} {e : TypeId} {size : Nat} {v : Value} {n : Nat} {xs : List Value} (h : w.ownsRow base e size v n xs) (hb : Below w.heap.size w w') : w'.ownsRow base e size v n xs := by
  refine ⟨h.1, ?_⟩
  rcases h.2 with h2 | ⟨g, cap, cur, hv, hg, hh, r⟩
  · exact .inl h2
  · exact .inr ⟨g, cap, cur, hv, hg, (hb.block g (lt_of_block hh)).trans hh, r⟩
theorem bld_below {w w' : World} {T e : TypeId} {B b : Nat} {p : Value} {bs : List Value} (h : Lib.BuilderAt T e B b p bs w) (hb : Below w.heap.size w w') : Lib.BuilderAt T e B b p bs w' := by
  obtain ⟨hB, v, hbk, hown, hne⟩ := h
  exact ⟨hB, v, (hb.block b (lt_of_block hbk)).trans hbk, own_below hown hb, hne⟩
theorem isbld_below {w w' : World} {T e : TypeId} {B b : Nat} {bs : List Value} (h : Lib.IsBuilder T e B b bs w) (hb : Below w.heap.size w w') : Lib.IsBuilder T e B b bs w' := h.elim (fun h => .inl (bld_below h hb)) (fun h => .inr (bld_below h hb))
theorem strCells_str (l : List UInt8) : Lib.strCells (str l) = Lib.byteCells l := by simp [Lib.strCells, Lib.byteCells, str]
theorem byteCells_app (l m : List UInt8) : Lib.byteCells l ++ Lib.byteCells m = Lib.byteCells (l ++ m) := by simp [Lib.byteCells]

/-- a text that may be laid -/
theorem text_small {s : List UInt8} (h : ¬ 65535 < s.length) : Pack.text s = (Pack.be 2 s.length ++ s, 0) := by simp [Pack.text, h]
theorem text_big {s : List UInt8} (h : 65535 < s.length) : Pack.text s = ([], 3) := by simp [Pack.text, h]

def TextsRel (w : World) (l : List ByteArray) (i : Value) (wr : World) : Prop :=
  ∃ k : Nat, k ≤ l.length ∧ i = .int .i64 k ∧ ((l.take k).map (·.data.toList)).any (fun s => decide (65535 < s.length)) = false ∧
    Lib.IsBuilder 108 5 w.heap.size w.heap.size (Lib.byteCells (Pack.be 2 l.length ++ Pack.flat ((l.take k).map (·.data.toList)))) wr ∧ Below w.heap.size w wr ∧ w.heap.size ≤ wr.heap.size

theorem texts_big {l : List (List UInt8)} {s : List UInt8} (hs : s ∈ l) (h : 65535 < s.length) : Pack.texts l = ([], 3) := by
  unfold Pack.texts
  split
  · rfl
  · rw [if_pos (List.any_eq_true.2 ⟨s, hs, by simpa using h⟩)]

end Go.Proofs.Ytdhnegcblnpmfaa.PackW

namespace Go.Proofs.Ytdhnegcblnpmfaa.PackW
open Go.RowKit Mem
set_option linter.unusedVariables false

theorem number_is (r : List UInt8) (x : Int) (n k : Int) (w : World) (h : Pack.number n k = (r, x)) (n0 : -9223372036854775808 ≤ n) (n1 : n ≤ 9223372036854775807) :
    Calls Try.prog 63 #[.int .i64 n, .int .i64 k] w fun e w' => e = .returned (.tuple #[.string ⟨r.toArray⟩, .int .i64 x]) ∧ Below w.heap.size w w' := by
  have := number_any n k w n0 n1
  rw [h] at this
  exact this
theorem takeNum_is (r x y : Int) (s : ByteArray) (a k : Int) (w : World) (h : Pack.takeNum s.data.toList a k = (r, x, y)) (hs : s.size ≤ maxLen) :
    Calls Try.prog 79 #[.string s, .int .i64 a, .int .i64 k] w fun e w' => e = .returned (.tuple #[.int .i64 r, .int .i64 x, .int .i64 y]) ∧ w = w' := by
  have := takeNum_any s a k w hs
  rw [h] at this
  exact this
end Go.Proofs.Ytdhnegcblnpmfaa.PackW

namespace Go.Proofs.Ytdhnegcblnpmfaa.SumsW
open Go.RowKit Mem
set_option linter.unusedVariables false

theorem and16 (s : Int) (h0 : 0 ≤ s) (h1 : s < 4294967296) : bits BinOp.and IntKind.u32 s 65535 = s % 65536 := by
  rw [u32_and s 65535 h0 h1 (by omega) (by omega), show (65535 : Int).toNat = 65535 from rfl, nat_mask16]
  omega

theorem split_any (s : Int) (w : World) (h0 : 0 ≤ s) (h1 : s < 4294967296) :
    Calls Try.prog 89 #[.int .u32 s] w fun e w' => e = .returned (.agg #[.int .u32 (Sums.lo s % 65521), .int .u32 (Sums.hi s % 65521)]) ∧ Below w.heap.size w w' := by
  have hand := and16 s h0 h1
  go_enter Try.func89, Try.ntmps89
  go_wp2
  refine bodyPost_ret (v := .agg #[.int .u32 (Sums.lo s % 65521), .int .u32 (Sums.hi s % 65521)]) (by simp [results, Try.results89, go_sem, Sums.lo, Sums.hi]) rfl ⟨rfl, ?_⟩
  exact (Below.refl _ _).alloc (Nat.le_refl _) _

theorem or16 (a b : Int) (h0 : 0 ≤ a) (h1 : a < 65536) (h2 : 0 ≤ b) (h3 : b < 65536) : bits BinOp.or IntKind.u32 (b * 65536) a = b * 65536 + a := by
  rw [u32_or (b * 65536) a (by omega) (by omega) h0 (by omega), nat_join 16 _ _ (by omega) (by omega)]
  omega

theorem whole_any (a b : Int) (w : World) (h0 : 0 ≤ a) (h1 : a < 65536) (h2 : 0 ≤ b) (h3 : b < 65536) :
    Calls Try.prog 90 #[.agg #[.int .u32 a, .int .u32 b]] w fun e w' => e = .returned (.int .u32 (b * 65536 + a)) ∧ Below w.heap.size w w' := by
  go_enter Try.func90, Try.ntmps90
  go_wp2
  go_ret
  exact ⟨ret_int (or16 a b h0 h1 h2 h3), (Below.refl _ _).alloc (Nat.le_refl _) _⟩

def strLen : Value → Nat | .string r => r.size | _ => 0
def MoreRel (w : World) (B : Nat) (s : ByteArray) (a b : Int) (v : Value) (wr : World) : Prop :=
  ∃ (r : ByteArray) (pre : List UInt8), v = .string r ∧ s.data.toList = pre ++ r.data.toList ∧ Blk wr B 151 #[.int .u32 (Sums.AA a pre % 65521), .int .u32 (Sums.BB a b pre % 65521)] ∧ Below w.heap.size w wr

def InRel (w : World) (B : Nat) (r : ByteArray) (a b : Int) (v : Value) (wr : World) : Prop :=
  ∃ k : Nat, k ≤ r.size ∧ k ≤ 5000 ∧ v = .int .i64 k ∧ Blk wr B 151 #[.int .u32 (Sums.AA a (r.data.toList.take k)), .int .u32 (Sums.BB a b (r.data.toList.take k))] ∧ Below w.heap.size w wr

theorem more_round (w : World) (s r r' : ByteArray) (pre : List UInt8) (a b : Int) (k B : Nat) (x y : Int) (wr : World) (hp : s.data.toList = pre ++ r.data.toList)
    (hx : x = Sums.AA a (pre ++ r.data.toList.take k) % 65521) (hy : y = Sums.BB a b (pre ++ r.data.toList.take k) % 65521)
    (hb : Blk wr B 151 #[.int .u32 x, .int .u32 y]) (hbel : Below w.heap.size w wr) (hk : 0 < k ∧ k ≤ r.size)
    (hr : (k = r.size ∧ r' = ByteArray.empty) ∨ r' = r.extract k r.size) : MoreRel w B s a b (.string r') wr ∧ strLen (.string r') < strLen (.string r) := by
  have hd : r'.data.toList = r.data.toList.drop k := by
    rcases hr with ⟨h, rfl⟩ | rfl
    · rw [List.drop_of_length_le (by simp; omega)]; rfl
    · rw [Lib.extract_to_end]
  have hl : r'.size = r.size - k := by
    have := congrArg List.length hd
    simpa using this
  refine ⟨⟨r', pre ++ r.data.toList.take k, rfl, ?_, by rw [← hx, ← hy]; exact hb, hbel⟩, ?_⟩
  · rw [hd, List.append_assoc, List.take_append_drop, hp]
  · show r'.size < r.size
    omega

set_option maxHeartbeats 400000 in
set_option maxRecDepth 100000 in
theorem more_any (sum : Int) (s : ByteArray) (w : World) (h0 : 0 ≤ sum) (h1 : sum < 4294967296) (hs : s.size ≤ maxLen) :
    Calls Try.prog 80 #[.int .u32 sum, .string s] w fun e w' => e = .returned (.int .u32 (Sums.more sum s.data.toList)) ∧ Below w.heap.size w w' := by
  unfold maxLen at hs
  obtain ⟨a, ha⟩ : ∃ a, a = Sums.lo sum := ⟨_, rfl⟩
  obtain ⟨b, hb⟩ : ∃ b, b = Sums.hi sum := ⟨_, rfl⟩
  have HM : Hid (Sums.more sum s.data.toList = Sums.pk (Sums.AA a s.data.toList) (Sums.BB a b s.data.toList)) := by unfold Sums.more; rw [ha, hb]; exact rfl
  have hsp := split_any sum w h0 h1
  rw [← ha, ← hb] at hsp
  have HS := Lib.hid hsp
  clear hsp ha hb
  go_enter Try.func80, Try.ntmps80
  go_wp2_with fail
  refine HS.out.mono ?_
  rintro e w1 ⟨rfl, hb1⟩
  go_wp2_with fail
  have hlt1 : w.heap.size ≤ w1.heap.size := hb1.size
  go_loopw [1] (fun v wr => MoreRel w w1.heap.size s a b v wr) (fun v _ => strLen v)
  case atStart => exact ⟨s, [], rfl, rfl, by rw [Sums.AA_nil, Sums.BB_nil]; exact Blk.new _ _ _, hb1.alloc hlt1 _⟩
  case round =>
    obtain ⟨r, pre, rfl, hpre, hblk, hbel⟩ := hrel
    have hsz : r.size ≤ s.size := by
      have := congrArg List.length hpre
      simp at this
      omega
    have HP := Lib.hid hpre
    clear hpre
    have hB := hblk.lt
    obtain ⟨a', ha'⟩ : ∃ a', a' = Sums.AA a pre % 65521 := ⟨_, rfl⟩
    obtain ⟨b', hb'⟩ : ∃ b', b' = Sums.BB a b pre % 65521 := ⟨_, rfl⟩
    rw [← ha', ← hb'] at hblk
    have a0 : 0 ≤ a' := by omega
    have a1 : a' < 65521 := by omega
    have b0 : 0 ≤ b' := by omega
    have b1 : b' < 65521 := by omega
    have HA := Lib.hid ha'
    have HB := Lib.hid hb'
    clear ha' hb'
    by_cases hr : 0 < r.size
    · by_cases h5 : r.size ≤ 5000
      all_goals
        go_wp2_with fail
        go_loopw [7] (fun i wr2 => InRel w w1.heap.size r a' b' i wr2) (fun i _ => r.size - (intOf i).toNat)
        case atStart => exact ⟨0, by omega, by omega, rfl, by rw [List.take_zero, Sums.AA_nil, Sums.BB_nil]; exact hblk, hbel⟩
        case round =>
          clear hblk hbel hB
          obtain ⟨k, hk, hk5, rfl, hblk2, hbel2⟩ := hrel
          by_cases hlt : k < r.size ∧ k < 5000
          · obtain ⟨hlt, hlt5⟩ := hlt
            have hle := Sums.AA_le a' (r.data.toList.take k)
            have hbd := Sums.BB_le a' b' (r.data.toList.take (k + 1)) a0 a1 b0 b1 (by have := List.length_take_le (k + 1) r.data.toList; omega)
            have hbd0 := Sums.BB_le a' b' (r.data.toList.take k) a0 a1 b0 b1 (by have := List.length_take_le k r.data.toList; omega)
            have hll : (r.data.toList.take k).length ≤ k := List.length_take_le k r.data.toList
            have hts := take_snoc r k hlt
            rw [hts, Sums.BB_snoc] at hbd
            obtain ⟨x, hx⟩ : ∃ x, x = Sums.AA a' (r.data.toList.take k) := ⟨_, rfl⟩
            obtain ⟨y, hy⟩ : ∃ y, y = Sums.BB a' b' (r.data.toList.take k) := ⟨_, rfl⟩
            have HX : Hid (Sums.AA a' (r.data.toList.take (k + 1)) = x + (r[k].toNat : Int)) := by rw [hts, Sums.AA_snoc, hx]; exact rfl
            have HY : Hid (Sums.BB a' b' (r.data.toList.take (k + 1)) = y + (x + (r[k].toNat : Int))) := by rw [hts, Sums.BB_snoc, hx, hy]; exact rfl
            rw [← hx, ← hy] at hblk2 hbd
            rw [← hx] at hle
            rw [← hy] at hbd0
            have hcb : (r[k].toNat : Int) < 256 := by have := r[k].toNat_lt; omega
            clear hts hx hy
            have hc0 : wr.cell? ⟨w1.heap.size, 0, none⟩ = some (.int .u32 x) := by simpa using hblk2.cell 0
            have hc1 : wr.cell? ⟨w1.heap.size, 1, none⟩ = some (.int .u32 y) := by simpa using hblk2.cell 1
            have hf0 := hblk2.frozen 0
            have hf1 := hblk2.frozen 1
            go_wp2_with fail
            go_region
            go_wp2_with fail
            refine ⟨⟨k + 1, by omega, by omega, by go_num, ?_, (((hbel2.setCell (p := ⟨w1.heap.size, 0, none⟩) hlt1 _).setCell (p := ⟨w1.heap.size, 1, none⟩) hlt1 _).drew)⟩, by simp [intOf]; omega⟩
            rw [HX.out, HY.out]
            exact (((hblk2.set 0 _).set 1 _).drew)
          · have hle := Sums.AA_le a' (r.data.toList.take k)
            have hbd0 := Sums.BB_le a' b' (r.data.toList.take k) a0 a1 b0 b1 (by have := List.length_take_le k r.data.toList; omega)
            obtain ⟨x, hx⟩ : ∃ x, x = Sums.AA a' (r.data.toList.take k) := ⟨_, rfl⟩
            obtain ⟨y, hy⟩ : ∃ y, y = Sums.BB a' b' (r.data.toList.take k) := ⟨_, rfl⟩
            rw [← hx, ← hy] at hblk2
            have x0 : 0 ≤ x := by omega
            have y0 : 0 ≤ y := by omega
            have HX := Lib.hid hx
            have HY := Lib.hid hy
            clear hx hy hle hbd0
            have hc0 : wr.cell? ⟨w1.heap.size, 0, none⟩ = some (.int .u32 x) := by simpa using hblk2.cell 0
            have hc1 : wr.cell? ⟨w1.heap.size, 1, none⟩ = some (.int .u32 y) := by simpa using hblk2.cell 1
            have hf0 := hblk2.frozen 0
            have hf1 := hblk2.frozen 1
            go_wp2_with fail
            have hx' : x % 65521 = Sums.AA a (pre ++ r.data.toList.take k) % 65521 := by rw [HX.out, HA.out, Sums.AA_mod, Sums.AA_append]
            have hy' : y % 65521 = Sums.BB a b (pre ++ r.data.toList.take k) % 65521 := by rw [HY.out, HA.out, HB.out, Sums.BB_mod, Sums.BB_append]
            have hblk3 := (hblk2.set 0 (.int .u32 (x % 65521))).set 1 (.int .u32 (y % 65521))
            have hbel3 := (hbel2.setCell (p := ⟨w1.heap.size, 0, none⟩) hlt1 (.int .u32 (x % 65521))).setCell (p := ⟨w1.heap.size, 1, none⟩) hlt1 (.int .u32 (y % 65521))
            have hblk4 : Blk ((wr.setCell ⟨w1.heap.size, 0, none⟩ (.int .u32 (x % 65521))).setCell ⟨w1.heap.size, 1, none⟩ (.int .u32 (y % 65521))) w1.heap.size 151 #[.int .u32 (x % 65521), .int .u32 (y % 65521)] := hblk3
            have hk0 : 0 < k ∧ k ≤ r.size := by omega
            first
              | ((with_reducible refine more_round w s r ByteArray.empty pre a b k w1.heap.size (x % 65521) (y % 65521) _ HP.out hx' hy' hblk4 hbel3 hk0 ?_); exact .inl ⟨by omega, rfl⟩)
              | ((with_reducible refine more_round w s r (r.extract 5000 r.size) pre a b k w1.heap.size (x % 65521) (y % 65521) _ HP.out hx' hy' hblk4 hbel3 hk0 ?_); exact .inr (by rw [show k = 5000 by omega]))
    · have hc0 : wr.cell? ⟨w1.heap.size, 0, none⟩ = some (.int .u32 a') := by simpa using hblk.cell 0
      have hc1 : wr.cell? ⟨w1.heap.size, 1, none⟩ = some (.int .u32 b') := by simpa using hblk.cell 1
      go_wp2_with fail
      refine (whole_any _ _ _ (by omega) (by omega) (by omega) (by omega)).mono ?_
      rintro e w2 ⟨rfl, hb2⟩
      go_wp2_with fail
      go_ret
      refine ⟨ret_int ?_, hbel.trans (hb2.mono (by omega))⟩
      rw [HM.out, HA.out, HB.out]
      have hn : r.data.toList = [] := by
        apply List.eq_nil_of_length_eq_zero
        show r.data.size = 0
        have : r.data.size = r.size := rfl
        omega
      have hp := HP.out
      rw [hn, List.append_nil] at hp
      rw [hp]
      exact rfl

def SumRel (w : World) (l : List ByteArray) (t i : Value) (wr : World) : Prop :=
  ∃ k : Nat, k ≤ l.length ∧ i = .int .i64 k ∧ t = .int .u32 (Sums.sum 1 ((l.take k).map (·.data.toList))) ∧ Below w.heap.size w wr

set_option maxHeartbeats 400000 in
theorem sum_any (A : Option Addr) (n c : Nat) (l : List ByteArray) (w : World) (h : Strs w A n l) (hn : n ≤ maxLen) (hs : ∀ s ∈ l, s.size ≤ maxLen) :
    Calls Try.prog 69 #[.slice A n c] w fun e w' => e = .returned (.int .u32 (Sums.sum 1 (l.map (·.data.toList)))) ∧ Below w.heap.size w w' := by
  unfold maxLen at hn
  have hl := h.len
  subst hl
  go_enter Try.func69, Try.ntmps69
  go_wp2_with fail
  go_loopw [3, 8] (fun t i wr => SumRel w l t i wr) (fun _ i _ => l.length - (intOf i).toNat)
  case atStart => exact ⟨0, by omega, rfl, rfl, Below.refl _ _⟩
  case round =>
    obtain ⟨k, hk, rfl, rfl, hb⟩ := hrel
    by_cases hlt : k < l.length
    · obtain ⟨b, off, s, rfl, hbl, hsk, hc⟩ := (h.below hb).at_ hlt
      have hbd := Sums.sum_bd 1 ((l.take k).map (·.data.toList)) (by omega)
      have hm := more_any (Sums.sum 1 ((l.take k).map (·.data.toList))) s wr hbd.1 hbd.2 (hs s (mem_of_at hsk))
      have HT : Hid (Sums.sum 1 ((l.take (k + 1)).map (·.data.toList)) = Sums.more (Sums.sum 1 ((l.take k).map (·.data.toList))) s.data.toList) := by
        rw [take_snoc_some hsk, List.map_append, List.map_cons, List.map_nil, Sums.sum_snoc]; exact rfl
      generalize Sums.sum 1 ((l.take k).map (·.data.toList)) = x at *
      have HM := Lib.hid hm
      clear hm hsk hs h
      go_wp2_with fail
      refine HM.out.mono ?_
      rintro e w2 ⟨rfl, hb2⟩
      go_wp2_with fail
      exact ⟨⟨k + 1, by omega, by go_num, by rw [HT.out], below_step hb hb2⟩, by simp [intOf]; omega⟩
    · go_wp2_with fail
      go_ret
      exact ⟨ret_int (by rw [List.take_of_length_le (by omega)]), hb⟩
end Go.Proofs.Ytdhnegcblnpmfaa.SumsW

namespace Go.Proofs.Ytdhnegcblnpmfaa.SumsW
open Go.RowKit Mem
set_option linter.unusedVariables false

/-- a product of two rests: it does not wrap -/
theorem wrapmul (n z : Int) (h : 0 ≤ n) : (IntKind.u64.wrap (n % 65521 * (z % 65521))).tmod 65521 = (n * z) % 65521 := by
  have b1 : 0 ≤ n % 65521 ∧ n % 65521 < 65521 := by omega
  have b2 : 0 ≤ z % 65521 ∧ z % 65521 < 65521 := by omega
  have m1 : 0 ≤ n % 65521 * (z % 65521) := Int.mul_nonneg b1.1 b2.1
  have m2 : n % 65521 * (z % 65521) ≤ 65520 * 65520 := Int.mul_le_mul (by omega) (by omega) b2.1 (by omega)
  rw [IntWalk.u64_in _ (by omega), Int.tmod_eq_emod_of_nonneg m1]
  exact (Int.mul_emod n z 65521).symm
theorem mul_zp (n z : Int) : (n * (z + 65521 - 1)) % 65521 = (n * (z + 65520)) % 65521 := by rw [show z + 65521 - 1 = z + 65520 by omega]
theorem join_eq (x y n : Int) (h : 0 ≤ n) : ((Sums.hi x % 65521 + Sums.hi y % 65521 + (IntKind.u64.wrap (n % 65521 * ((Sums.lo x % 65521 + 65521 - 1) % 65521))).tmod 65521) % 4294967296 % 65521) * 65536 + (Sums.lo y + (Sums.lo x % 65521 + 65521 - 1)) % 65521 = Sums.join x y n := by
  rw [wrapmul n _ h, mul_zp]
  unfold Sums.join Sums.pk
  rw [show max n 0 = n by omega, Int.mul_add, Int.mul_add, Sums.mul_mod]
  generalize n * Sums.lo x = u
  generalize n * (Sums.lo x / 65521) = v
  omega
theorem join_eq0 (x y n : Int) (h : n < 0) : (Sums.hi x + Sums.hi y) % 65521 * 65536 + (Sums.lo y + (Sums.lo x % 65521 + 65521 - 1)) % 65521 = Sums.join x y n := by
  unfold Sums.join Sums.pk
  rw [show max n 0 = 0 by omega, Int.zero_mul]
  omega
theorem rjoin_eq0 (x y n : Int) (h : n < 0) : (x / 65536 + y / 65536) % 65521 * 65536 + (x % 65536 % 65521 + y % 65536 % 65521 + 65521 - 1) % 65521 = Sums.join x y n := by
  rw [← join_eq0 x y n h]
  unfold Sums.lo Sums.hi
  omega
theorem rjoin_eq (x y n : Int) (h : 0 ≤ n) (x0 : 0 ≤ x) (x1 : x < 4294967296) (y0 : 0 ≤ y) (y1 : y < 4294967296) :
    (wrap64 (x / 65536 % 65521 + y / 65536 % 65521 + wrap64 (n % 65521 * ((x % 65536 % 65521 + 65521 - 1) % 65521)))).tmod 65521 % 4294967296 * 65536 % 4294967296 +
      (x % 65536 % 65521 + y % 65536 % 65521 + 65521 - 1) % 65521 = Sums.join x y n := by
  have b1 : 0 ≤ n % 65521 ∧ n % 65521 < 65521 := by omega
  have b2 : 0 ≤ (x % 65536 % 65521 + 65521 - 1) % 65521 ∧ (x % 65536 % 65521 + 65521 - 1) % 65521 < 65521 := by omega
  have m1 : 0 ≤ n % 65521 * ((x % 65536 % 65521 + 65521 - 1) % 65521) := Int.mul_nonneg b1.1 b2.1
  have m2 : n % 65521 * ((x % 65536 % 65521 + 65521 - 1) % 65521) ≤ 65520 * 65520 := Int.mul_le_mul (by omega) (by omega) b2.1 (by omega)
  have e : n % 65521 * ((x % 65536 % 65521 + 65521 - 1) % 65521) % 65521 = (n * (x % 65536 % 65521 + 65520)) % 65521 := by
    rw [show x % 65536 % 65521 + 65521 - 1 = x % 65536 % 65521 + 65520 by omega]
    exact (Int.mul_emod n _ 65521).symm
  rw [IntWalk.wrap64_in (n % 65521 * ((x % 65536 % 65521 + 65521 - 1) % 65521)) (by omega)]
  generalize n % 65521 * ((x % 65536 % 65521 + 65521 - 1) % 65521) = p at *
  rw [IntWalk.wrap64_in _ (by omega), Int.tmod_eq_emod_of_nonneg (by omega)]
  unfold Sums.join Sums.pk Sums.lo Sums.hi
  rw [show max n 0 = n by omega]
  rw [Int.mul_add, Sums.mul_mod] at e
  rw [Int.mul_add]
  generalize n * (x % 65536) = u at *
  generalize n * (x % 65536 / 65521) = v at *
  omega

def RMoreRel (s : ByteArray) (a b : Int) (u v i : Value) : Prop :=
  ∃ k : Nat, k ≤ s.size ∧ i = .int .i64 k ∧ u = .int .i64 (Sums.AA a (s.data.toList.take k) % 65521) ∧ v = .int .i64 (Sums.BB a b (s.data.toList.take k) % 65521)

def RSumRel (l : List ByteArray) (t i : Value) : Prop :=
  ∃ k : Nat, k ≤ l.length ∧ i = .int .i64 k ∧ t = .int .u32 (Sums.sum 1 ((l.take k).map (·.data.toList)))

end Go.Proofs.Ytdhnegcblnpmfaa.SumsW

namespace Go.Proofs.Ytdhnegcblnpmfaa.SumsW
open Go.RowKit Mem
set_option linter.unusedVariables false

theorem strs_new1 (w : World) (s : ByteArray) (t : TypeId) : Strs (w.alloc (.cells #[.string s] t)) (some ⟨w.heap.size, 0, none⟩) 1 [s] :=
  ⟨rfl, fun _ => ⟨w.heap.size, 0, rfl, by simp, fun i v hv => by
    rw [Nat.zero_add, (Blk.new w t #[.string s]).cell i]
    simpa using hv⟩⟩
theorem strs_new2 (w : World) (s r : ByteArray) (t : TypeId) : Strs (w.alloc (.cells #[.string s, .string r] t)) (some ⟨w.heap.size, 0, none⟩) 2 [s, r] :=
  ⟨rfl, fun _ => ⟨w.heap.size, 0, rfl, by simp, fun i v hv => by
    rw [Nat.zero_add, (Blk.new w t #[.string s, .string r]).cell i]
    simpa using hv⟩⟩

theorem sum_is (v : Int) (A : Option Addr) (n c : Nat) (l : List ByteArray) (w : World) (h : Strs w A n l) (hv : Sums.sum 1 (l.map (·.data.toList)) = v) (hn : n ≤ maxLen) (hs : ∀ s ∈ l, s.size ≤ maxLen) :
    Calls Try.prog 69 #[.slice A n c] w fun e w' => e = .returned (.int .u32 v) ∧ Below w.heap.size w w' := by
  subst hv
  exact sum_any A n c l w h hn hs
theorem more_is (v : Int) (sum : Int) (s : ByteArray) (w : World) (h0 : 0 ≤ sum) (h1 : sum < 4294967296) (hs : s.size ≤ maxLen) (hv : Sums.more sum s.data.toList = v) :
    Calls Try.prog 80 #[.int .u32 sum, .string s] w fun e w' => e = .returned (.int .u32 v) ∧ Below w.heap.size w w' := by
  subst hv
  exact more_any sum s w h0 h1 hs
def longB (l : List ByteArray) : Bool := l.any (fun s => decide (60000 < s.size)) || decide (50 < l.length)
theorem longB_no {l : List ByteArray} (h : longB l = false) : (∀ s ∈ l, s.size ≤ 60000) ∧ l.length ≤ 50 := by
  simpa [longB] using h
def LongRel (l : List ByteArray) (i : Value) : Prop := ∃ k : Nat, k ≤ l.length ∧ i = .int .i64 k ∧ (l.take k).any (fun s => decide (60000 < s.size)) = false

end Go.Proofs.Ytdhnegcblnpmfaa.SumsW
