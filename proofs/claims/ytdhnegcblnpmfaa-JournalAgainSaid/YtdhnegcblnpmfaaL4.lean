/-
  Merged: Contracts: frame.numbers, frame.sum, frame.Put.; Contracts of muster/pack.TakeTexts and its inner function, and of musterref03.TakeTexts, Texts, Same.; Contracts of musterref03.Texts, TakeTexts, Same.; Contracts: frame.Put; musterref24: four, number, Put.; Contract: frame.Get.; Contracts: journal.Need, number, read.; Contract of musterref03.Same, and slices of texts in one word.
-/
import Derived.Test.YtdhnegcblnpmfaaL1
import Derived.Test.YtdhnegcblnpmfaaL2
import Derived.Test.YtdhnegcblnpmfaaL3
import Derived.Deep.RegionHeld3
import Derived.Deep.QuietTactic
import Derived.BigQuiet
namespace Go.Proofs.Ytdhnegcblnpmfaa.FrameW
open Go.RowKit Mem Frm PackW
set_option linter.unusedVariables false
set_option linter.unusedSimpArgs false

theorem flat_len_be (k : Int) (l : List Int) : (l.flatMap (fun n => Pack.be k.toNat n.toNat)).length = l.length * k.toNat := by
  induction l with
  | nil => simp
  | cons x r ih => simp only [List.flatMap_cons, List.length_append, ih, Pack.be_length, List.length_cons, Nat.add_mul, Nat.one_mul]; omega
def NumsRel (w : World) (k : Int) (l : List Int) (i : Value) (wr : World) : Prop :=
  ∃ j : Nat, j ≤ l.length ∧ i = .int .i64 j ∧ (l.take j).all (fun n => Pack.fitB n k) = true ∧ Lib.IsBuilder 108 5 w.heap.size w.heap.size (Lib.byteCells ((l.take j).flatMap (fun n => Pack.be k.toNat n.toNat))) wr ∧ Below w.heap.size w wr
set_option maxHeartbeats 1000000 in
set_option maxRecDepth 100000 in
theorem nums_any (k : Int) (A : Option Addr) (n c : Nat) (l : List Int) (w : World) (h : Ints w A n l) (h0 : 0 < n) (hn : n ≤ 1000) (hk : Pack.isW k = true) (hi : ∀ x ∈ l, -9223372036854775808 ≤ x ∧ x ≤ 9223372036854775807) :
    Calls Try.prog 60 #[.int .i64 k, .slice A n c] w (Ret (.tuple #[.string (str (nums k l).1), .bool (nums k l).2]) w) := by
  have hl := h.len
  subst hl
  have hkb := Pack.isW_bd hk
  have hbld := Lib.fresh_isBuilder 108 5 w
  have hb0 := (Below.refl w.heap.size w).alloc (Nat.le_refl _) (.cells #[.pointer none, .slice none 0 0] 108)
  have HH := Lib.hid h
  have HI := Lib.hid hi
  clear h hi hk
  go_enter Try.func60, Try.ntmps60
  go_wp2_with fail
  go_loopw [13] (fun i wr => NumsRel w k l i wr) (fun i _ => l.length - (intOf i).toNat)
  case atStart => exact ⟨0, by omega, rfl, by simp, hbld, hb0⟩
  case round =>
    clear hbld hb0
    obtain ⟨j, hj, rfl, hall, hbld, hbel⟩ := hrel
    have HA := Lib.hid hall
    clear hall
    by_cases hlt : j < l.length
    · obtain ⟨b, off, x, rfl, hbl, hx, d0⟩ := Lst.int (HH.out.below hbel) hlt
      obtain ⟨i0, i1⟩ := HI.out x (mem_of_at hx)
      have HN := Lib.hid (number_any x k wr i0 i1)
      have hts := take_snoc_some hx
      cases hf : Pack.fitB x k
      · have hx2 : Pack.number x k = ([], 2) := by simp [Pack.number, hf]
        rw [hx2] at HN
        have HT : Hid (nums k l = ([], false)) := nums_no (by rw [List.all_eq_false]; exact ⟨x, mem_of_at hx, by simp [hf]⟩)
        clear hx hx2 hts hf hbld
        go_wp2_with fail
        refine HN.out.mono ?_
        rintro e w1 ⟨rfl, b1⟩
        go_wp2_with fail
        go_ret2
        exact ⟨by rw [HT.out]; rfl, below_step hbel b1⟩
      · have hx2 : Pack.number x k = (Pack.be k.toNat x.toNat, 0) := by simp [Pack.number, hf]
        rw [hx2] at HN
        have HAn : Hid ((l.take (j + 1)).all (fun n => Pack.fitB n k) = true) := by show _ = _; rw [hts, List.all_append, HA.out]; simp [hf]
        have HF : Hid ((l.take (j + 1)).flatMap (fun n => Pack.be k.toNat n.toNat) = (l.take j).flatMap (fun n => Pack.be k.toNat n.toNat) ++ Pack.be k.toNat x.toNat) := by
          show _ = _
          rw [hts, List.flatMap_append]
          simp
        have hfl := flat_len_be k (l.take j)
        have hfl2 : (l.take j).length ≤ 1000 := by rw [List.length_take]; omega
        have hfl3 : (l.take j).length * k.toNat ≤ 1000 * 8 := Nat.mul_le_mul hfl2 (by omega)
        obtain ⟨M, hM⟩ : ∃ M, M = (l.take j).flatMap (fun n => Pack.be k.toNat n.toNat) := ⟨_, rfl⟩
        rw [← hM] at hbld hfl HF
        have hMl : M.length ≤ 8000 := by omega
        clear hx hx2 hts hf hM hfl hfl3 hfl2
        go_wp2_with fail
        refine HN.out.mono ?_
        rintro e w1 ⟨rfl, b1⟩
        have hbld1 := isbld_below hbld b1
        have hb4 := below_step hbel b1
        clear hbld b1 hbel
        go_wp2_with fail
        refine (BldW.writeString w.heap.size w.heap.size _ _ _ hbld1 (by rw [Lib.byteCells_length, str_size]; simp [Pack.be_length]; omega) hb4.size).mono ?_
        rintro e w4 ⟨rfl, hbld4, hb5⟩
        go_wp2_with fail
        refine ⟨⟨j + 1, by omega, by go_num, HAn.out, .inr ?_, hb4.trans hb5⟩, by simp [intOf]; omega⟩
        rw [HF.out]
        rw [strCells_str, byteCells_app] at hbld4
        exact hbld4
    · obtain rfl : j = l.length := by omega
      have HT : Hid (nums k l = (l.flatMap (fun n => Pack.be k.toNat n.toNat), true)) := nums_yes (by have := HA.out; rwa [List.take_length] at this)
      rw [List.take_length] at hbld
      have hfl := flat_len_be k l
      have hne : l.flatMap (fun n => Pack.be k.toNat n.toNat) ≠ [] := by
        intro e
        rw [e] at hfl
        have : 1 * 1 ≤ l.length * k.toNat := Nat.mul_le_mul (by omega) (by omega)
        simp at hfl
        omega
      obtain ⟨M, hM⟩ : ∃ M, M = l.flatMap (fun n => Pack.be k.toNat n.toNat) := ⟨_, rfl⟩
      rw [← hM] at HT hne hbld
      have HS := Lib.hid (BldW.string_some w.heap.size w.heap.size M wr hbld hne)
      clear hbld hne hfl hM
      go_wp2_with fail
      refine HS.out.mono ?_
      rintro e w5 ⟨rfl, hb5⟩
      go_wp2_with fail
      go_ret2
      exact ⟨by rw [HT.out]; rfl, hbel.trans hb5⟩
theorem nums_is (r : List UInt8) (v : Bool) (k : Int) (A : Option Addr) (n c : Nat) (l : List Int) (w : World) (hr : nums k l = (r, v)) (h : Ints w A n l) (h0 : 0 < n) (hn : n ≤ 1000) (hk : Pack.isW k = true) (hi : ∀ x ∈ l, -9223372036854775808 ≤ x ∧ x ≤ 9223372036854775807) :
    Calls Try.prog 60 #[.int .i64 k, .slice A n c] w (Ret (.tuple #[.string (str r), .bool v]) w) := by
  have := nums_any k A n c l w h h0 hn hk hi
  rw [hr] at this
  exact this
theorem lit_1 (w : World) (x : Int) : Ints (w.alloc (.cells #[.int .i64 x] 3)) (some ⟨w.heap.size, 0, none⟩) 1 [x] := by
  have h : Blk (w.alloc (.cells #[.int .i64 x] 3)) w.heap.size 3 #[.int .i64 x] := Blk.new _ _ _
  exact ints_blk (l := [x]) h rfl
theorem lit_2 (w : World) (x y : Int) : Ints (w.alloc (.cells #[.int .i64 x, .int .i64 y] 3)) (some ⟨w.heap.size, 0, none⟩) 2 [x, y] := by
  have h : Blk (w.alloc (.cells #[.int .i64 x, .int .i64 y] 3)) w.heap.size 3 #[.int .i64 x, .int .i64 y] := Blk.new _ _ _
  exact ints_blk (l := [x, y]) h rfl
theorem lit_3 (w : World) (x y z : Int) : Ints (w.alloc (.cells #[.int .i64 x, .int .i64 y, .int .i64 z] 3)) (some ⟨w.heap.size, 0, none⟩) 3 [x, y, z] := by
  have h : Blk (w.alloc (.cells #[.int .i64 x, .int .i64 y, .int .i64 z] 3)) w.heap.size 3 #[.int .i64 x, .int .i64 y, .int .i64 z] := Blk.new _ _ _
  exact ints_blk (l := [x, y, z]) h rfl
theorem new_1 (w : World) (o : Obj) : Below w.heap.size w (w.alloc o) := (Below.refl _ _).alloc (Nat.le_refl _) _
theorem sum1 (s : List UInt8) : Sums.sum 1 [s] = Sums.more 1 s := rfl
set_option maxHeartbeats 1000000 in
theorem sum_any (s : ByteArray) (w : World) (hs : s.size ≤ maxLen) : Calls Try.prog 61 #[.string s] w (Ret (.string (str (sumL s.data.toList))) w) := by
  have HS : Hid (∀ w', Strs w' (some ⟨w.heap.size, 0, none⟩) 1 [s] → Calls Try.prog 69 #[.slice (some ⟨w.heap.size, 0, none⟩) 1 1] w' (Ret (.int .u32 (Sums.more 1 s.data.toList)) w')) := fun w' h => SumsW.sum_is _ _ _ _ [s] w' h rfl (by unfold maxLen; omega) (by simpa using hs)
  have hbd := Sums.more_bd 1 s.data.toList
  have HR : Hid (str (sumL s.data.toList) = str (Pack.be 4 (Sums.more 1 s.data.toList).toNat)) := rfl
  obtain ⟨m, hm⟩ : ∃ m, m = Sums.more 1 s.data.toList := ⟨_, rfl⟩
  rw [← hm] at HS hbd HR
  have HN := Lib.hid (nums_yes (w := 4) (l := [m]) (by simp [Pack.fitB, Pack.isW]; omega))
  have hw : IntKind.i64.wrap m = m := IntWalk.i64_in _ (by omega)
  rw [HR.out]
  clear hm
  go_enter Try.func61, Try.ntmps61
  go_wp2_with fail
  refine (HS.out _ (SumsW.strs_new1 w s _)).mono ?_
  rintro e w1 ⟨rfl, b1⟩
  go_wp2_with fail
  refine (nums_is _ _ 4 _ 1 1 [m] _ HN.out (lit_1 w1 m) (by omega) (by omega) rfl (by intro x hx; simp at hx; omega)).mono ?_
  rintro e w2 ⟨rfl, b2⟩
  go_wp2_with fail
  go_ret
  exact ⟨by simp, below_step (below_step (new_1 w _) b1) (below_step (new_1 w1 _) b2)⟩
end Go.Proofs.Ytdhnegcblnpmfaa.FrameW

namespace Go.Proofs.Ytdhnegcblnpmfaa.PackW
open Go.RowKit Mem
set_option linter.unusedVariables false

theorem strInfo : (Try.prog.info? 9).map (fun i => (i.zero, i.size, i.bytes)) = some (some (.string ByteArray.empty), 1, 16) := by kernel_rfl

/-- texts as cells -/
def sv (l : List (List UInt8)) : List Value := l.map fun x => .string (str x)
theorem sv_length (l : List (List UInt8)) : (sv l).length = l.length := by simp [sv]
theorem sv_snoc (l : List (List UInt8)) (x : List UInt8) : sv (l ++ [x]) = sv l ++ [.string (str x)] := by simp [sv]

/-- the four variables of TakeTexts, and what was taken so far -/
structure TT (b0 b1 b2 b3 : Nat) (s : ByteArray) (toX9 e : Int) (l : List (List UInt8)) (A : Option Addr) (c : Nat) (w : World) : Prop where
  k0 : Blk w b0 9 #[.string s]
  k1 : Blk w b1 3 #[.int .i64 toX9]
  k2 : Blk w b2 28 #[.int .i64 e]
  k3 : Blk w b3 34 #[.slice A l.length c]
  own : w.ownsRow (b3 + 1) 9 1 (.slice A l.length c) l.length (sv l)

def NextPost (b0 b1 b2 b3 : Nat) (s : ByteArray) (toX9 e : Int) (l : List (List UInt8)) (r : Bool) (w : World) (x : Ending) (w' : World) : Prop :=
  ∃ A c, x = .returned (.bool r) ∧ TT b0 b1 b2 b3 s toX9 e l A c w' ∧ Below b1 w w'

theorem own_mono {w : World} {base base' : Nat} {e : TypeId} {size : Nat} {v : Value} {n : Nat} {xs : List Value} (h : w.ownsRow base e size v n xs) (hb : base' ≤ base) : w.ownsRow base' e size v n xs := by
  refine ⟨h.1, h.2.imp id ?_⟩
  rintro ⟨g, cap, cur, hv, hg, r⟩
  exact ⟨g, cap, cur, hv, by omega, r⟩

/-- a slice of texts of the call's own, with a place and an error -/
def GotTexts (base : Nat) (l : List (List UInt8)) (toX9 e : Int) (w : World) (x : Ending) (w' : World) : Prop :=
  ∃ A c, x = .returned (.tuple #[.slice A l.length c, .int .i64 toX9, .int .i64 e]) ∧ w'.ownsRow base 9 1 (.slice A l.length c) l.length (sv l) ∧ Below w.heap.size w w'

def TakeTextsRel (w : World) (s : ByteArray) (N : Nat) (to0 : Int) (i : Value) (wr : World) : Prop :=
  ∃ (k : Nat) (toX9 : Int) (l : List (List UInt8)) (A : Option Addr) (c : Nat), k ≤ N ∧ i = .int .i64 k ∧ l.length = k ∧ Pack.takeFold s.data.toList N to0 [] = Pack.takeFold s.data.toList (N - k) toX9 l ∧
    TT w.heap.size (w.heap.size + 1) (w.heap.size + 1 + 1) (w.heap.size + 1 + 1 + 1) s toX9 0 l A c wr ∧ Below w.heap.size w wr

end Go.Proofs.Ytdhnegcblnpmfaa.PackW

namespace Go.Proofs.Ytdhnegcblnpmfaa.PackW
open Go.RowKit Mem
set_option linter.unusedVariables false

theorem bytes_bv (s : ByteArray) : Go.byteCells s = bv s.data.toList := rfl

def RTextsRel (w : World) (l : List ByteArray) (o i : Value) (wr : World) : Prop :=
  ∃ (k : Nat) (A : Option Addr) (c : Nat), k ≤ l.length ∧ i = .int .i64 k ∧ o = .slice A (Pack.be 2 l.length ++ Pack.flat ((l.take k).map (·.data.toList))).length c ∧
    ((l.take k).map (·.data.toList)).any (fun s => decide (65535 < s.length)) = false ∧
    OwnC wr w.heap.size 1 A (Pack.be 2 l.length ++ Pack.flat ((l.take k).map (·.data.toList))).length c (bv (Pack.be 2 l.length ++ Pack.flat ((l.take k).map (·.data.toList)))) ∧ Below w.heap.size w wr

/-- the state of the document's taking: all is well so far, or it has failed -/
def RTakeTextsRel (w : World) (s : ByteArray) (N : Nat) (to0 : Int) (t e o i : Value) (wr : World) : Prop :=
  Below w.heap.size w wr ∧ ∃ (k : Nat), k ≤ N ∧ i = .int .i64 k ∧
    ((∃ (toX9 : Int) (l : List (List UInt8)) (A : Option Addr) (c : Nat), t = .int .i64 toX9 ∧ e = .int .i64 0 ∧ o = .slice A l.length c ∧ l.length = k ∧ Pack.takeFold s.data.toList N to0 [] = Pack.takeFold s.data.toList (N - k) toX9 l ∧
        OwnC wr w.heap.size 1 A l.length c (sv l)) ∨
     (∃ x : Int, x ≠ 0 ∧ e = .int .i64 x ∧ Pack.takeFold s.data.toList N to0 [] = ([], 0, x)))

/-- a slice of texts of the call's own, with a place and an error (told by its cells) -/
def GotTextsC (base : Nat) (l : List (List UInt8)) (toX9 e : Int) (w : World) (x : Ending) (w' : World) : Prop :=
  ∃ A c, x = .returned (.tuple #[.slice A l.length c, .int .i64 toX9, .int .i64 e]) ∧ OwnC w' base 1 A l.length c (sv l) ∧ Below w.heap.size w w'

end Go.Proofs.Ytdhnegcblnpmfaa.PackW

namespace Go.Proofs.Ytdhnegcblnpmfaa.FrameW
open Go.RowKit Mem Frm PackW
set_option linter.unusedVariables false
set_option linter.unusedSimpArgs false

theorem pair_of {α β : Type} (p : α × β) : ∃ a b, p = (a, b) := ⟨p.1, p.2, rfl⟩
theorem nums3 (n life seq : Int) : nums 4 [n, life, seq] = if (Pack.fitB n 4 && Pack.fitB life 4 && Pack.fitB seq 4) = true then (four n ++ four life ++ four seq, true) else ([], false) := by
  unfold nums
  simp [four, and_assoc]
theorem nums2 (life seq : Int) : nums 4 [life, seq] = if (Pack.fitB life 4 && Pack.fitB seq 4) = true then (four life ++ four seq, true) else ([], false) := by
  unfold nums
  simp [four]
theorem hd_str (r : List UInt8) (s : ByteArray) (life seq : Int) (hr : r = four (s.data.toList.length) ++ four life ++ four seq) : (⟨#[77]⟩ ++ str r ++ s : ByteArray) = str (hd life seq s.data.toList) := by
  subst hr
  apply ByteArray.ext
  simp [str, hd]
set_option maxHeartbeats 1000000 in
set_option maxRecDepth 100000 in
theorem put_big_any (life seq : Int) (s : ByteArray) (w : World) (hs : s.size ≤ maxLen) (hbig : 200000 < s.size) (l0 : -9223372036854775808 ≤ life ∧ life ≤ 9223372036854775807) (q0 : -9223372036854775808 ≤ seq ∧ seq ≤ 9223372036854775807) :
    Calls Try.prog 56 #[.int .i64 life, .int .i64 seq, .string s] w (Ret (.tuple #[.string (str (put life seq s.data.toList).1), .int .i64 (put life seq s.data.toList).2]) w) := by
  have hsl : s.data.toList.length = s.size := by simp
  have hs2 : s.size ≤ 9223372036854775807 := by unfold maxLen at hs; omega
  clear hs
  obtain ⟨r, v, hr⟩ : ∃ r v, nums 4 [(s.size : Int), life, seq] = (r, v) := pair_of _
  have HR := Lib.hid hr
  have T1 : Hid (decide ((s.size : Int) ≤ 200000) = false) := decide_eq_false (by omega)
  have T2 : Hid (decide ((200000 : Int) < (s.size : Int)) = true) := decide_eq_true (by omega)
  clear hr
  cases hf : (Pack.fitB life 4 && Pack.fitB seq 4)
  · have HP : Hid (put life seq s.data.toList = ([], 2)) := put_arg hf
    have HN2 : Hid (nums 4 [life, seq] = ([], false)) := by show _ = _; rw [nums2, if_neg (by simp [hf])]
    clear hf hsl hbig
    cases v
    all_goals
      go_enter Try.func56, Try.ntmps56
      go_wp2_with fail
      refine (nums_is _ _ 4 _ 3 3 _ _ HR.out (lit_3 w _ _ _) (by omega) (by omega) rfl (by intro x hx; simp at hx; omega)).mono ?_
      rintro e w1 ⟨rfl, b1⟩
      go_upto_if 22 with fail
      try rw [T1.out]
      go_upto_if 30 with fail
      rw [T2.out]
      go_wp2_with fail
      refine (nums_is _ _ 4 _ 2 2 _ _ HN2.out (lit_2 w1 _ _) (by omega) (by omega) rfl (by intro x hx; simp at hx; omega)).mono ?_
      rintro e w2 ⟨rfl, b2⟩
      go_wp2_with fail
      go_ret2
      exact ⟨by rw [HP.out]; rfl, below_step (below_step (new_1 w _) b1) (below_step (new_1 w1 _) b2)⟩
  · have HP : Hid (put life seq s.data.toList = ([], 3)) := put_big hf (Nat.lt_of_lt_of_eq hbig hsl.symm)
    have HN2 : Hid (nums 4 [life, seq] = (four life ++ four seq, true)) := by show _ = _; rw [nums2, if_pos hf]
    clear hf hsl hbig
    cases v
    all_goals
      go_enter Try.func56, Try.ntmps56
      go_wp2_with fail
      refine (nums_is _ _ 4 _ 3 3 _ _ HR.out (lit_3 w _ _ _) (by omega) (by omega) rfl (by intro x hx; simp at hx; omega)).mono ?_
      rintro e w1 ⟨rfl, b1⟩
      go_upto_if 22 with fail
      try rw [T1.out]
      go_upto_if 30 with fail
      rw [T2.out]
      go_wp2_with fail
      refine (nums_is _ _ 4 _ 2 2 _ _ HN2.out (lit_2 w1 _ _) (by omega) (by omega) rfl (by intro x hx; simp at hx; omega)).mono ?_
      rintro e w2 ⟨rfl, b2⟩
      go_wp2_with fail
      go_ret2
      exact ⟨by rw [HP.out]; rfl, below_step (below_step (new_1 w _) b1) (below_step (new_1 w1 _) b2)⟩
set_option maxHeartbeats 1000000 in
set_option maxRecDepth 100000 in
theorem put_small_any (life seq : Int) (s : ByteArray) (w : World) (hbig : ¬ 200000 < s.size) (l0 : -9223372036854775808 ≤ life ∧ life ≤ 9223372036854775807) (q0 : -9223372036854775808 ≤ seq ∧ seq ≤ 9223372036854775807) :
    Calls Try.prog 56 #[.int .i64 life, .int .i64 seq, .string s] w (Ret (.tuple #[.string (str (put life seq s.data.toList).1), .int .i64 (put life seq s.data.toList).2]) w) := by
  have hsl : s.data.toList.length = s.size := by simp
  have hfl : Pack.fitB (s.size : Int) 4 = true := by rw [fit4]; omega
  have t1 : decide ((s.size : Int) ≤ 200000) = true := decide_eq_true (by omega)
  have t2 : decide ((200000 : Int) < (s.size : Int)) = false := decide_eq_false (by omega)
  have hs : s.size ≤ 9223372036854775000 := by omega
  cases hf : (Pack.fitB life 4 && Pack.fitB seq 4)
  · have HP : Hid (put life seq s.data.toList = ([], 2)) := put_arg hf
    have HN3 : Hid (nums 4 [(s.size : Int), life, seq] = ([], false)) := by show _ = _; rw [nums3, if_neg (by rw [hfl, Bool.true_and, hf]; simp)]
    clear hf hsl hfl hbig
    go_enter Try.func56, Try.ntmps56
    go_wp2_with fail
    refine (nums_is _ _ 4 _ 3 3 _ _ HN3.out (lit_3 w _ _ _) (by omega) (by omega) rfl (by intro x hx; simp at hx; omega)).mono ?_
    rintro e w1 ⟨rfl, b1⟩
    go_wp2_with fail
    go_ret2
    exact ⟨by rw [HP.out]; rfl, below_step (new_1 w _) b1⟩
  · have HP : Hid (put life seq s.data.toList = (hd life seq s.data.toList ++ sumL (hd life seq s.data.toList), 0)) := put_ok hf (by omega)
    obtain ⟨r, hr⟩ : ∃ r, r = four (s.size : Int) ++ four life ++ four seq := ⟨_, rfl⟩
    have HN3 : Hid (nums 4 [(s.size : Int), life, seq] = (r, true)) := by show _ = _; rw [nums3, if_pos (by rw [hfl, Bool.true_and, hf]), hr]
    have HD := Lib.hid (hd_str r s life seq (by rw [hr, hsl]))
    have hrl : r.length = 12 := by rw [hr]; simp [four_len]
    have hz1 : (str r).size ≤ 12 := by rw [str_size, hrl]; omega
    have HZ : Hid ((⟨#[77]⟩ ++ str r ++ s : ByteArray).size ≤ maxLen) := by
      show _ ≤ _
      unfold maxLen
      have : (⟨#[77]⟩ : ByteArray).size = 1 := rfl
      simp only [ByteArray.size_append]
      omega
    have HA : Hid (∀ b : ByteArray, b = str (hd life seq s.data.toList) → (b ++ str (sumL b.data.toList) : ByteArray) = str (hd life seq s.data.toList ++ sumL (hd life seq s.data.toList))) := fun b e => by rw [e, str_app]; rfl
    have hz2 : ∀ b : ByteArray, (str (sumL b.data.toList)).size ≤ 4 := fun b => by rw [str_size, sumL_len]; omega
    have hz3 := hz2 (⟨#[77]⟩ ++ str r ++ s : ByteArray)
    obtain ⟨t, ht⟩ : ∃ t, t = str (sumL (⟨#[77]⟩ ++ str r ++ s : ByteArray).data.toList) := ⟨_, rfl⟩
    have HSm := Lib.hid fun w => sum_any (⟨#[77]⟩ ++ str r ++ s) w HZ.out
    rw [← ht] at HSm hz3
    have HT := Lib.hid ht
    clear hf hsl hfl hbig hr hrl hz2 ht
    go_enter Try.func56, Try.ntmps56
    go_wp2_with fail
    refine (nums_is _ _ 4 _ 3 3 _ _ HN3.out (lit_3 w _ _ _) (by omega) (by omega) rfl (by intro x hx; simp at hx; omega)).mono ?_
    rintro e w1 ⟨rfl, b1⟩
    go_wp2_with fail
    refine (HSm.out _).mono ?_
    rintro e w2 ⟨rfl, b2⟩
    go_wp2_with fail
    go_ret2
    exact ⟨by rw [HP.out, HT.out]; exact ret2 (congrArg Value.string (HA.out _ HD.out)) rfl, below_step (below_step (new_1 w _) b1) b2⟩
theorem put_any (life seq : Int) (s : ByteArray) (w : World) (hs : s.size ≤ maxLen) (l0 : -9223372036854775808 ≤ life ∧ life ≤ 9223372036854775807) (q0 : -9223372036854775808 ≤ seq ∧ seq ≤ 9223372036854775807) :
    Calls Try.prog 56 #[.int .i64 life, .int .i64 seq, .string s] w (Ret (.tuple #[.string (str (put life seq s.data.toList).1), .int .i64 (put life seq s.data.toList).2]) w) := by
  by_cases h : 200000 < s.size
  · exact put_big_any life seq s w hs h l0 q0
  · exact put_small_any life seq s w h l0 q0
theorem num_yes {n : Int} (h : Pack.fitB n 4 = true) : (Pack.number n 4).1 = four n := by simp [Pack.number, h, four]
theorem num_no {n : Int} (h : Pack.fitB n 4 = false) : (Pack.number n 4).1 = [] := by simp [Pack.number, h]
theorem str_nonempty {r : List UInt8} (h : r ≠ []) : (str r).toList.isEmpty = false := by
  rw [ByteArray.toList_eq]
  cases r with
  | nil => exact absurd rfl h
  | cons a r => rfl
theorem str_nonnil {r : List UInt8} (h : r ≠ []) : ¬ (str r).toList = [] := by
  rw [ByteArray.toList_eq]
  exact h
theorem str_nil : (str []).toList.isEmpty = true := by
  rw [ByteArray.toList_eq]
  rfl
theorem four_ne (n : Int) : four n ≠ [] := by
  intro e
  have := congrArg List.length e
  rw [four_len] at this
  cases this
theorem hd_str4 (s : ByteArray) (life seq : Int) : (((⟨#[77]⟩ ++ str (four (s.data.toList.length)) : ByteArray) ++ str (four life)) ++ str (four seq)) ++ s = str (hd life seq s.data.toList) := by
  apply ByteArray.ext
  simp [str, hd]
end Go.Proofs.Ytdhnegcblnpmfaa.FrameW

namespace Go.Proofs.Ytdhnegcblnpmfaa.FrameW
open Go.RowKit Mem Frm PackW
set_option linter.unusedVariables false
set_option linter.unusedSimpArgs false

theorem results_five {fn : Func} {t u v x y : Tmp} (h : fn.results = #[.tmp t, .tmp u, .tmp v, .tmp x, .tmp y]) (tmps : Array Value) (P : Program) (w : World) :
    (results fn tmps).run P w = .ok (.tuple #[tmps.getD t undef, tmps.getD u undef, tmps.getD v undef, tmps.getD x undef, tmps.getD y undef]) w := by
  simp [results, h]
theorem sum_cmp (T : ByteArray) (z : Nat) (h : 17 + z ≤ T.size) : ((str (sumL (T.extract 0 (13 + z)).data.toList)).toList == (T.extract (13 + z) (13 + z + 4)).toList) = decide (Sums.more 1 (T.data.toList.take (13 + z)) = ((n4 T.data.toList (13 + z) : Nat) : Int)) := by
  rw [ByteArray.toList_eq, ByteArray.toList_eq, extract_str, extract_str, str_data, str_data, str_data, List.drop_zero, Nat.sub_zero, Nat.add_sub_cancel_left]
  have hl : ((T.data.toList.drop (13 + z)).take 4).length = 4 := by simp; omega
  have := sumL_eq (s := T.data.toList.take (13 + z)) hl
  unfold n4
  rw [Bool.eq_iff_iff, beq_iff_eq, decide_eq_true_eq]
  exact this
theorem ret5 {a b c d e a' b' c' d' e' : Value} (h : a = a') (k : b = b') (l : c = c') (m : d = d') (n : e = e') : Ending.returned (.tuple #[a, b, c, d, e]) = .returned (.tuple #[a', b', c', d', e']) := by rw [h, k, l, m, n]
abbrev gotV (g : Got) : Value := .tuple #[.int .i64 g.1, .int .i64 g.2.1, .string (str g.2.2.1), .int .i64 g.2.2.2.1, .int .i64 g.2.2.2.2]
theorem take4_is (T : ByteArray) (k : Nat) (a : Int) (w : World) (ha : a = (k : Int)) (h : k + 4 ≤ T.size) (hT : T.size ≤ maxLen) :
    Calls Try.prog 79 #[.string T, .int .i64 a, .int .i64 4] w fun e w' => e = .returned (.tuple #[.int .i64 ((n4 T.data.toList k : Nat) : Int), .int .i64 (a + 4), .int .i64 0]) ∧ w = w' :=
  takeNum_is _ _ _ T a 4 w (take4 ha (by simpa using h)) hT
theorem sign_no {T : ByteArray} (h1 : T.data.toList[0]? ≠ some 77) : ((T.extract 0 1).toList == [77]) = false := by
  rw [ByteArray.toList_eq, extract_str, str_data, beq_eq_false_iff_ne]
  intro e
  apply h1
  have := congrArg (fun l => l[0]?) e
  simpa using this
theorem sign_yes {T : ByteArray} (h1 : T.data.toList[0]? = some 77) : ((T.extract 0 1).toList == [77]) = true := by
  rw [ByteArray.toList_eq, extract_str, str_data, beq_iff_eq]
  cases hl : T.data.toList with
  | nil => rw [hl] at h1; cases h1
  | cons a r => rw [hl] at h1; simp at h1; simp [h1]

set_option maxHeartbeats 4000000 in
set_option maxRecDepth 100000 in
theorem get_any (s : ByteArray) (a : Int) (w : World) (hs : s.size ≤ maxLen) :
    Calls Try.prog 87 #[.string s, .int .i64 a] w (Ret (gotV (get s.data.toList a)) w) := by
  have hsl : s.data.toList.length = s.size := by simp
  have hs2 : s.size ≤ 9223372036854775807 := by unfold maxLen at hs; omega
  by_cases h1 : a < 0
  · have HG : Hid (get s.data.toList a = bad 2) := get_arg (.inl h1)
    rw [HG.out]
    clear hsl
    go_enter Try.func87, Try.ntmps87
    go_wp2_with fail
    (try simp only [Exit.inBlock, Exit.then]); refine bodyPost_ret (results_five rfl _ _ _) rfl ?_
    exact ⟨rfl, Below.refl _ _⟩
  have h1' : 0 ≤ a := by omega
  by_cases h2 : (s.size : Int) < a
  · have HG : Hid (get s.data.toList a = bad 2) := get_arg (.inr (by omega))
    rw [HG.out]
    clear hsl h1
    go_enter Try.func87, Try.ntmps87
    go_wp2_with fail
    (try simp only [Exit.inBlock, Exit.then]); refine bodyPost_ret (results_five rfl _ _ _) rfl ?_
    exact ⟨rfl, Below.refl _ _⟩
  obtain ⟨k, rfl⟩ : ∃ k : Nat, a = (k : Int) := ⟨a.toNat, by omega⟩
  have hk : k ≤ s.size := by omega
  have hk2 : decide ((k : Int) < 0) = false := decide_eq_false (by omega)
  have hk3 : decide (s.size < k) = false := decide_eq_false (by omega)
  have HG : Hid (get s.data.toList (k : Int) = getT (s.data.toList.drop k) (k : Int)) := get_in (by omega)
  obtain ⟨T, hT⟩ : ∃ T, T = s.extract k s.size := ⟨_, rfl⟩
  have hTd : T.data.toList = s.data.toList.drop k := by rw [hT]; exact Lib.extract_to_end _ _
  have hTs : k + T.size = s.size := by
    have := congrArg List.length hTd
    simp at this
    omega
  have hTl : T.data.toList.length = T.size := by simp
  have hTm : T.size ≤ maxLen := by omega
  rw [← hTd] at HG
  have HT := Lib.hid hT
  have HTm := Lib.hid hTm
  rw [HG.out]
  have hT2 : T.size ≤ 9223372036854775807 := by omega
  have HTl := Lib.hid hTl
  have HTs := Lib.hid hTs
  have hs3 : k + T.size ≤ s.size := by omega
  clear hTd hsl h1 h2 h1' hT hTm hTl hTs hs
  by_cases h3 : T.size < 13
  · have HG : Hid (getT T.data.toList k = bad 30) := getT_short (by rw [HTl.out]; exact h3)
    rw [HG.out]
    go_enter Try.func87, Try.ntmps87
    go_upto_region 4 with fail
    rw [← HT.out]
    go_wp2_with fail
    (try simp only [Exit.inBlock, Exit.then]); refine bodyPost_ret (results_five rfl _ _ _) rfl ?_
    exact ⟨rfl, Below.refl _ _⟩
  have h3' : 13 ≤ T.size := by omega
  have h3L : 13 ≤ T.data.toList.length := by rw [HTl.out]; exact h3'
  have HN1 := Lib.hid fun w => take4_is T 1 1 w rfl (by omega) HTm.out
  have hz := n4_lt T.data.toList 1
  have HN2 := Lib.hid fun w => take4_is T 5 5 w rfl (by omega) HTm.out
  have HN3 := Lib.hid fun w => take4_is T 9 9 w rfl (by omega) HTm.out
  obtain ⟨z, hzz⟩ : ∃ z, z = n4 T.data.toList 1 := ⟨_, rfl⟩
  rw [← hzz] at HN1 hz
  have HZ := Lib.hid hzz
  have H3L := Lib.hid h3L
  clear hzz h3 h3L
  by_cases h4 : T.data.toList[0]? = some 77
  case neg =>
    have HG : Hid (getT T.data.toList k = bad 241) := getT_sign H3L.out h4
    rw [HG.out]
    have e1 := sign_no h4
    clear h4
    go_enter Try.func87, Try.ntmps87
    go_upto_region 4 with fail
    rw [← HT.out]
    go_wp2_with fail
    refine (HN1.out _).mono ?_
    rintro e w1 ⟨rfl, rfl⟩
    go_wp2_with fail
    (try simp only [Exit.inBlock, Exit.then]); refine bodyPost_ret (results_five rfl _ _ _) rfl ?_
    exact ⟨rfl, Below.refl _ _⟩
  have e1 := sign_yes h4
  have H4 := Lib.hid h4
  clear h4
  by_cases h5 : 200000 < z
  · have HG : Hid (getT T.data.toList k = bad 3) := getT_big H3L.out H4.out (by rw [← HZ.out]; exact h5)
    rw [HG.out]
    have t1 : decide ((200000 : Int) < (z : Int)) = true := decide_eq_true (by omega)
    clear h5
    go_enter Try.func87, Try.ntmps87
    go_upto_region 4 with fail
    rw [← HT.out]
    go_wp2_with fail
    refine (HN1.out _).mono ?_
    rintro e w1 ⟨rfl, rfl⟩
    go_wp2_with fail
    (try simp only [Exit.inBlock, Exit.then]); refine bodyPost_ret (results_five rfl _ _ _) rfl ?_
    exact ⟨rfl, Below.refl _ _⟩
  have t1 : decide ((200000 : Int) < (z : Int)) = false := decide_eq_false (by omega)
  have h5' : z ≤ 200000 := by omega
  have H5 : Hid (n4 T.data.toList 1 ≤ 200000) := by show _ ≤ _; rw [← HZ.out]; exact h5'
  have hz2 : z ≤ 1000000 := by omega
  by_cases h6 : T.size < 17 + z
  · have HG : Hid (getT T.data.toList k = bad 30) := getT_short2 H3L.out H4.out H5.out (by rw [← HZ.out, HTl.out]; exact h6)
    rw [HG.out]
    have t2 : decide ((T.size : Int) - 13 < (z : Int) + 4) = true := decide_eq_true (by omega)
    clear h5 h5'
    go_enter Try.func87, Try.ntmps87
    go_upto_region 4 with fail
    rw [← HT.out]
    go_wp2_with fail
    refine (HN1.out _).mono ?_
    rintro e w1 ⟨rfl, rfl⟩
    go_wp2_with fail
    (try simp only [Exit.inBlock, Exit.then]); refine bodyPost_ret (results_five rfl _ _ _) rfl ?_
    exact ⟨rfl, Below.refl _ _⟩
  have h6' : 17 + z ≤ T.size := by omega
  have H6 : Hid (17 + n4 T.data.toList 1 ≤ T.data.toList.length) := by show _ ≤ _; rw [← HZ.out, HTl.out]; exact h6'
  have t2 : decide ((T.size : Int) - 13 < (z : Int) + 4) = false := decide_eq_false (by omega)
  have HSm : Hid (∀ w, Calls Try.prog 61 #[.string (T.extract 0 (13 + z))] w (fun e w' => e = .returned (.string (str (sumL (T.extract 0 (13 + z)).data.toList))) ∧ Below w.heap.size w w')) := fun w => sum_any (T.extract 0 (13 + z)) w (by rw [extract_str, str_size]; have := HTm.out; simp; omega)
  clear h5 h5' h6
  have g1 : (0 : Int) ≤ (13 : Int) + (z : Int) := by omega
  have g2 : (13 : Int) + (z : Int) ≤ (T.size : Int) := by omega
  have g3 : (13 : Int) + (z : Int) + 4 ≤ (T.size : Int) := by omega
  have g4 : (13 : Int) + (z : Int) ≤ (13 : Int) + (z : Int) + 4 := by omega
  have g5 : (0 : Int) ≤ (13 : Int) + (z : Int) + 4 := by omega
  have w1 : IntKind.i64.wrap ((13 : Int) + (z : Int)) = (13 : Int) + (z : Int) := IntWalk.i64_in _ (by omega)
  have w2 : IntKind.i64.wrap ((13 : Int) + (z : Int) + 4) = (13 : Int) + (z : Int) + 4 := IntWalk.i64_in _ (by omega)
  have v1 : ((13 : Int) + (z : Int)).toNat = 13 + z := by omega
  have v2 : ((13 : Int) + (z : Int) + 4).toNat = 13 + z + 4 := by omega
  have HQ := Lib.hid (sum_cmp T z (by omega))
  obtain ⟨X, hX⟩ : ∃ X, X = str (sumL (T.extract 0 (13 + z)).data.toList) := ⟨_, rfl⟩
  rw [← hX] at HSm HQ
  clear hX
  by_cases h7 : Sums.more 1 (T.data.toList.take (13 + z)) = ((n4 T.data.toList (13 + z) : Nat) : Int)
  case neg =>
    have HG : Hid (getT T.data.toList k = bad 240) := getT_sum H3L.out H4.out H5.out H6.out (by rw [← HZ.out]; exact h7)
    rw [HG.out]
    have e7 : (X.toList == (T.extract (13 + z) (13 + z + 4)).toList) = false := by rw [HQ.out]; exact decide_eq_false h7
    clear h7
    go_enter Try.func87, Try.ntmps87
    go_upto_region 4 with fail
    rw [← HT.out]
    go_wp2_with fail
    refine (HN1.out _).mono ?_
    rintro e w1 ⟨rfl, rfl⟩
    go_wp2_with fail
    go_region_held3 (fun _ => True) (exact trivial) ((go_at_call 61; with_reducible refine (HSm.out _).mono ?_; rintro e w2 ⟨rfl, b2⟩))
    go_wp2_with fail
    (try simp only [Exit.inBlock, Exit.then]); refine bodyPost_ret (results_five rfl _ _ _) rfl ?_
    exact ⟨rfl, below_step (below_drewN (Below.refl _ _) 1) b2⟩
  have HG : Hid (getT T.data.toList k = (((n4 T.data.toList 5 : Nat) : Int), ((n4 T.data.toList 9 : Nat) : Int), (T.data.toList.drop 13).take z, (k : Int) + ((17 + z : Nat) : Int), 0)) := by
    show _ = _
    rw [getT_ok H3L.out H4.out H5.out H6.out (by rw [← HZ.out]; exact h7), ← HZ.out]
  rw [HG.out]
  have e7 : (X.toList == (T.extract (13 + z) (13 + z + 4)).toList) = true := by rw [HQ.out]; exact decide_eq_true h7
  have w3 : IntKind.i64.wrap ((k : Int) + 13) = (k : Int) + 13 := IntWalk.i64_in _ (by omega)
  have w4 : IntKind.i64.wrap ((k : Int) + 13 + z) = (k : Int) + 13 + z := IntWalk.i64_in _ (by omega)
  have w5 : IntKind.i64.wrap ((k : Int) + 13 + z + 4) = (k : Int) + 13 + z + 4 := IntWalk.i64_in _ (by omega)
  have HB : Hid (str ((T.data.toList.drop 13).take z) = T.extract 13 (13 + z)) := by show _ = _; rw [extract_str, Nat.add_sub_cancel_left]
  have g6 : (13 : Int) ≤ (13 : Int) + (z : Int) := by omega
  clear h7
  go_enter Try.func87, Try.ntmps87
  go_upto_region 4 with fail
  rw [← HT.out]
  go_wp2_with fail
  refine (HN1.out _).mono ?_
  rintro e w1 ⟨rfl, rfl⟩
  go_wp2_with fail
  go_region_held3 (fun _ => True) (exact trivial) ((go_at_call 61; with_reducible refine (HSm.out _).mono ?_; rintro e w2 ⟨rfl, b2⟩))
  go_wp2_with fail
  refine (HN2.out _).mono ?_
  rintro e w3 ⟨rfl, rfl⟩
  go_wp2_with fail
  refine (HN3.out _).mono ?_
  rintro e w4 ⟨rfl, rfl⟩
  go_wp2_with fail
  go_quiet (fail)
  go_wp2_with fail
  (try simp only [Exit.inBlock, Exit.then]); refine bodyPost_ret (results_five rfl _ _ _) rfl ?_
  exact ⟨ret5 rfl rfl (congrArg Value.string HB.out.symm) (congrArg (Value.int .i64) (by simp only; omega)) rfl, below_drewN (below_step (below_drewN (Below.refl _ _) 1) b2) _⟩
end Go.Proofs.Ytdhnegcblnpmfaa.FrameW

namespace Go.Proofs.Ytdhnegcblnpmfaa.JrnW
open Go.RowKit Mem Jrn PackW FrameW
set_option linter.unusedVariables false
set_option linter.unusedSimpArgs false

theorem need_eq (s : ByteArray) : need s.data.toList = ((s.size : Int) + 17 + 240 - 1) / 240 := by
  have hsl : s.data.toList.length = s.size := by simp
  unfold need
  rw [hsl]
theorem need_any (s : ByteArray) (w : World) (hs : s.size ≤ 1000000000) : Calls Try.prog 55 #[.string s] w fun e w' => e = .returned (.int .i64 (need s.data.toList)) ∧ w = w' := by
  have HN := Lib.hid (need_eq s)
  go_enter Try.func55, Try.ntmps55
  go_wp2_with fail
  go_ret
  exact ⟨ret_int HN.out.symm, rfl⟩
theorem jnum_any (s : ByteArray) (a k : Int) (w : World) (hs : s.size ≤ maxLen) : Calls Try.prog 68 #[.string s, .int .i64 a, .int .i64 k] w fun e w' => e = .returned (.int .i64 (numAt s.data.toList a k)) ∧ w' = w := by
  have HT := Lib.hid (takeNum_any s a k w hs)
  have HN : Hid (numAt s.data.toList a k = (Pack.takeNum s.data.toList a k).1) := rfl
  rw [HN.out]
  go_enter Try.func68, Try.ntmps68
  go_wp2_with fail
  refine HT.out.mono ?_
  rintro e w1 ⟨rfl, rfl⟩
  go_wp2_with fail
  go_ret
  exact ⟨rfl, rfl⟩
abbrev bkC (b : Bk) : Array Value := #[.int .i64 b.stamp, .int .i64 b.part, .int .i64 b.id, .bool b.last, .string (str b.bytes)]
abbrev bkV (b : Bk) : Value := .agg (bkC b)
abbrev bk0C : Array Value := #[.int .i64 0, .int .i64 0, .int .i64 0, .bool false, .string ⟨#[]⟩]
def rdV (s : List UInt8) : Value := match readB s with
  | some b => .tuple #[bkV b, .bool true]
  | none => .tuple #[.agg bk0C, .bool false]
theorem rdV_no {s : List UInt8} (h : readB s = none) : rdV s = .tuple #[.agg bk0C, .bool false] := by rw [rdV, h]
theorem rdV_yes {s : List UInt8} {b : Bk} (h : readB s = some b) : rdV s = .tuple #[bkV b, .bool true] := by rw [rdV, h]
theorem blk5' {w : World} {g : Nat} {t : TypeId} {v0 v1 v2 v3 v4 : Value} (h : Blk w g t #[v0, v1, v2, v3, v4]) : w.cell? ⟨g, 0, none⟩ = some v0 ∧ w.cell? ⟨g, 1, none⟩ = some v1 ∧ w.cell? ⟨g, 2, none⟩ = some v2 ∧ w.cell? ⟨g, 3, none⟩ = some v3 ∧ w.cell? ⟨g, 4, none⟩ = some v4 := ⟨h.cell 0, h.cell 1, h.cell 2, h.cell 3, h.cell 4⟩
abbrev st5 (w : World) (B : Nat) (v0 v1 v2 v3 v4 : Value) : World := ((((w.setCell ⟨B, 0, none⟩ v0).setCell ⟨B, 1, none⟩ v1).setCell ⟨B, 2, none⟩ v2).setCell ⟨B, 3, none⟩ v3).setCell ⟨B, 4, none⟩ v4
theorem st5_blk {w : World} {B : Nat} {t : TypeId} {u0 u1 u2 u3 u4 : Value} (h : Blk w B t #[u0, u1, u2, u3, u4]) (v0 v1 v2 v3 v4 : Value) : Blk (st5 w B v0 v1 v2 v3 v4) B t #[v0, v1, v2, v3, v4] := ((((h.set 0 v0).set 1 v1).set 2 v2).set 3 v3).set 4 v4
theorem st5_below {w0 w : World} {base B : Nat} (h : Below base w0 w) (hB : base ≤ B) (v0 v1 v2 v3 v4 : Value) : Below base w0 (st5 w B v0 v1 v2 v3 v4) := ((((h.setCell (p := ⟨B, 0, none⟩) hB v0).setCell (p := ⟨B, 1, none⟩) hB v1).setCell (p := ⟨B, 2, none⟩) hB v2).setCell (p := ⟨B, 3, none⟩) hB v3).setCell (p := ⟨B, 4, none⟩) hB v4
set_option maxHeartbeats 4000000 in
set_option maxRecDepth 100000 in
theorem read_any (s : ByteArray) (w : World) (hs : s.size ≤ maxLen) : Calls Try.prog 86 #[.string s] w (Ret (rdV s.data.toList) w) := by
  have hsl : s.data.toList.length = s.size := by simp
  have HS := Lib.hid hs
  have kZ : Blk (w.alloc (.cells bk0C 100)) w.heap.size 100 bk0C := Blk.new _ _ _
  by_cases h256 : s.size = 256
  case neg =>
    have HR := Lib.hid (rdV_no (readB_len (s := s.data.toList) (by rw [hsl]; exact h256)))
    rw [HR.out]
    have e1 : ((s.size : Int) != 256) = true := by rw [bne_iff_ne]; omega
    have e2 : (s.size != 256) = true := by rw [bne_iff_ne]; exact h256
    obtain ⟨z0, z1, z2, z3, z4⟩ := blk5' kZ
    have f0 := kZ.frozen 0
    have f1 := kZ.frozen 1
    have f2 := kZ.frozen 2
    have f3 := kZ.frozen 3
    have f4 := kZ.frozen 4
    clear h256 hsl hs kZ
    go_enter Try.func86, Try.ntmps86
    go_wp2_with fail
    refine bodyPost_ret (v := .tuple #[.agg bk0C, .bool false]) (by simp [results, Try.results86, go_sem, z0, z1, z2, z3, z4]) rfl ⟨rfl, new_1 w _⟩
  have e1 : ((s.size : Int) != 256) = false := by rw [h256]; rfl
  have HJ := Lib.hid fun a k w => jnum_any s a k w hs
  obtain ⟨V, hV⟩ : ∃ V, V = (w.alloc (.cells bk0C 100)).alloc (.cells #[.int .i64 (numAt s.data.toList 0 4), .int .i64 (numAt s.data.toList 4 1), .int .i64 (numAt s.data.toList 8 4), .bool false, .string ⟨#[]⟩] 100) := ⟨_, rfl⟩
  have bV : Below w.heap.size w V := by rw [hV]; exact ((Below.refl _ _).alloc (Nat.le_refl _) _).alloc (by simp) _
  have kZ2 : Blk V w.heap.size 100 bk0C := by rw [hV]; exact kZ.alloc _
  have kE : Blk V (w.heap.size + 1) 100 #[.int .i64 (numAt s.data.toList 0 4), .int .i64 (numAt s.data.toList 4 1), .int .i64 (numAt s.data.toList 8 4), .bool false, .string ⟨#[]⟩] := by
    rw [hV]
    have := Blk.new (w.alloc (.cells bk0C 100)) 100 #[.int .i64 (numAt s.data.toList 0 4), .int .i64 (numAt s.data.toList 4 1), .int .i64 (numAt s.data.toList 8 4), .bool false, .string ⟨#[]⟩]
    simpa using this
  have hz2 : 0 ≤ numAt s.data.toList 6 2 ∧ numAt s.data.toList 6 2 ≤ 65535 := by
    have h1 := takeNum2_bd s.data.toList 6
    have h2 := takeNum_bd s.data.toList 6 2 (by rw [hsl]; unfold maxLen at hs; omega)
    exact ⟨h2.1, h1⟩
  have HNo : Hid (readOk s.data.toList = false → rdV s.data.toList = .tuple #[.agg bk0C, .bool false]) := fun h => rdV_no (readB_no h)
  have HYes : Hid (readOk s.data.toList = true → rdV s.data.toList = .tuple #[bkV (readV s.data.toList), .bool true]) := fun h => rdV_yes (readB_yes (by rw [hsl]; exact h256) h)
  have HOk : Hid (readOk s.data.toList = (!(numAt s.data.toList 0 4 == 0) && !(numAt s.data.toList 252 4 != numAt s.data.toList 0 4) && !(decide (1 < numAt s.data.toList 5 1)) && !(decide (240 < numAt s.data.toList 6 2)))) := rfl
  have HRv : Hid (readV s.data.toList = ⟨numAt s.data.toList 0 4, numAt s.data.toList 4 1, numAt s.data.toList 8 4, numAt s.data.toList 5 1 == 1, (s.data.toList.drop 12).take (numAt s.data.toList 6 2).toNat⟩) := rfl
  have J0 := Lib.hid fun w => HJ.out 0 4 w
  have J4 := Lib.hid fun w => HJ.out 4 1 w
  have J8 := Lib.hid fun w => HJ.out 8 4 w
  have J5 := Lib.hid fun w => HJ.out 5 1 w
  have J6 := Lib.hid fun w => HJ.out 6 2 w
  have JE := Lib.hid fun w => HJ.out 252 4 w
  obtain ⟨st, hst⟩ : ∃ x, x = numAt s.data.toList 0 4 := ⟨_, rfl⟩
  obtain ⟨pt, hpt⟩ : ∃ x, x = numAt s.data.toList 4 1 := ⟨_, rfl⟩
  obtain ⟨id, hid⟩ : ∃ x, x = numAt s.data.toList 8 4 := ⟨_, rfl⟩
  obtain ⟨la, hla⟩ : ∃ x, x = numAt s.data.toList 5 1 := ⟨_, rfl⟩
  obtain ⟨sz, hsz⟩ : ∃ x, x = numAt s.data.toList 6 2 := ⟨_, rfl⟩
  obtain ⟨en, hen⟩ : ∃ x, x = numAt s.data.toList 252 4 := ⟨_, rfl⟩
  rw [← hst] at J0 hV kE HOk HRv
  rw [← hpt] at J4 hV kE HRv
  rw [← hid] at J8 hV kE HRv
  rw [← hla] at J5 HOk HRv
  rw [← hsz] at J6 HOk HRv hz2
  rw [← hen] at JE HOk
  obtain ⟨x0, x1, x2, x3, x4⟩ := blk5' kE
  have h2562 := Lib.hid h256
  clear hst hpt hid hla hsz hen HJ h256 hsl kZ
  by_cases c0 : st = 0
  · have HF := Lib.hid (HNo.out (by rw [HOk.out, c0]; rfl))
    have d0 : (st == 0) = true := by simp [c0]
    clear c0
    rw [HF.out]
    obtain ⟨z0, z1, z2, z3, z4⟩ := blk5' kZ2
    have f0 := kZ2.frozen 0
    have f1 := kZ2.frozen 1
    have f2 := kZ2.frozen 2
    have f3 := kZ2.frozen 3
    have f4 := kZ2.frozen 4
    go_enter Try.func86, Try.ntmps86
    go_wp2_with fail
    refine (J0.out _).mono ?_
    rintro e w1 ⟨rfl, rfl⟩
    go_wp2_with fail
    refine (J4.out _).mono ?_
    rintro e w1 ⟨rfl, rfl⟩
    go_wp2_with fail
    refine (J8.out _).mono ?_
    rintro e w1 ⟨rfl, rfl⟩
    go_upto_region 4 with fail
    rw [← hV]
    clear hV
    go_wp2_with fail
    refine (J5.out _).mono ?_
    rintro e w1 ⟨rfl, hw1⟩
    subst hw1
    go_wp2_with fail
    refine (J6.out _).mono ?_
    rintro e w1 ⟨rfl, hw1⟩
    subst hw1
    go_wp2_with fail
    go_quiet ((go_at_call 68; exact Calls.quiet_of_same (JE.out _)))
    go_wp2_with fail
    obtain ⟨y0, y1, y2, y3, y4⟩ := blk5' (st5_blk (kZ2.drewN nq) (.int .i64 0) (.int .i64 0) (.int .i64 0) (.bool false) (.string ⟨#[]⟩))
    refine bodyPost_ret (v := .tuple #[.agg bk0C, .bool false]) (by simp [results, Try.results86, go_sem, y0, y1, y2, y3, y4]) rfl ⟨rfl, st5_below (below_drewN bV nq) (Nat.le_refl _) _ _ _ _ _⟩
  have d0 : (st == 0) = false := by simpa using c0
  by_cases c1 : en = st
  case neg =>
    have d1 : (en != st) = true := by simpa using c1
    have HF := Lib.hid (HNo.out (by rw [HOk.out, d0, d1]; rfl))
    clear c0 c1
    rw [HF.out]
    obtain ⟨z0, z1, z2, z3, z4⟩ := blk5' kZ2
    have f0 := kZ2.frozen 0
    have f1 := kZ2.frozen 1
    have f2 := kZ2.frozen 2
    have f3 := kZ2.frozen 3
    have f4 := kZ2.frozen 4
    go_enter Try.func86, Try.ntmps86
    go_wp2_with fail
    refine (J0.out _).mono ?_
    rintro e w1 ⟨rfl, rfl⟩
    go_wp2_with fail
    refine (J4.out _).mono ?_
    rintro e w1 ⟨rfl, rfl⟩
    go_wp2_with fail
    refine (J8.out _).mono ?_
    rintro e w1 ⟨rfl, rfl⟩
    go_upto_region 4 with fail
    rw [← hV]
    clear hV
    go_wp2_with fail
    refine (J5.out _).mono ?_
    rintro e w1 ⟨rfl, hw1⟩
    subst hw1
    go_wp2_with fail
    refine (J6.out _).mono ?_
    rintro e w1 ⟨rfl, hw1⟩
    subst hw1
    go_wp2_with fail
    go_quiet ((go_at_call 68; exact Calls.quiet_of_same (JE.out _)))
    go_wp2_with fail
    obtain ⟨y0, y1, y2, y3, y4⟩ := blk5' (st5_blk (kZ2.drewN nq) (.int .i64 0) (.int .i64 0) (.int .i64 0) (.bool false) (.string ⟨#[]⟩))
    refine bodyPost_ret (v := .tuple #[.agg bk0C, .bool false]) (by simp [results, Try.results86, go_sem, y0, y1, y2, y3, y4]) rfl ⟨rfl, st5_below (below_drewN bV nq) (Nat.le_refl _) _ _ _ _ _⟩
  have d1 : (en != st) = false := by simp [c1]
  by_cases c2 : 1 < la
  · have HF := Lib.hid (HNo.out (by rw [HOk.out, d0, d1]; simp [c2]))
    have d2 : decide (1 < la) = true := decide_eq_true c2
    clear c0 c1
    rw [HF.out]
    obtain ⟨z0, z1, z2, z3, z4⟩ := blk5' kZ2
    have f0 := kZ2.frozen 0
    have f1 := kZ2.frozen 1
    have f2 := kZ2.frozen 2
    have f3 := kZ2.frozen 3
    have f4 := kZ2.frozen 4
    go_enter Try.func86, Try.ntmps86
    go_wp2_with fail
    refine (J0.out _).mono ?_
    rintro e w1 ⟨rfl, rfl⟩
    go_wp2_with fail
    refine (J4.out _).mono ?_
    rintro e w1 ⟨rfl, rfl⟩
    go_wp2_with fail
    refine (J8.out _).mono ?_
    rintro e w1 ⟨rfl, rfl⟩
    go_upto_region 4 with fail
    rw [← hV]
    clear hV
    go_wp2_with fail
    refine (J5.out _).mono ?_
    rintro e w1 ⟨rfl, hw1⟩
    subst hw1
    go_wp2_with fail
    refine (J6.out _).mono ?_
    rintro e w1 ⟨rfl, hw1⟩
    subst hw1
    go_wp2_with fail
    go_quiet ((go_at_call 68; exact Calls.quiet_of_same (JE.out _)))
    go_wp2_with fail
    obtain ⟨y0, y1, y2, y3, y4⟩ := blk5' (st5_blk (kZ2.drewN nq) (.int .i64 0) (.int .i64 0) (.int .i64 0) (.bool false) (.string ⟨#[]⟩))
    refine bodyPost_ret (v := .tuple #[.agg bk0C, .bool false]) (by simp [results, Try.results86, go_sem, y0, y1, y2, y3, y4]) rfl ⟨rfl, st5_below (below_drewN bV nq) (Nat.le_refl _) _ _ _ _ _⟩
  have d2 : decide (1 < la) = false := decide_eq_false c2
  by_cases c3 : 240 < sz
  · have HF := Lib.hid (HNo.out (by rw [HOk.out, d0, d1, d2]; simp [c3]))
    have d3 : decide (240 < sz) = true := decide_eq_true c3
    clear c0 c1 c2
    rw [HF.out]
    obtain ⟨z0, z1, z2, z3, z4⟩ := blk5' kZ2
    have f0 := kZ2.frozen 0
    have f1 := kZ2.frozen 1
    have f2 := kZ2.frozen 2
    have f3 := kZ2.frozen 3
    have f4 := kZ2.frozen 4
    go_enter Try.func86, Try.ntmps86
    go_wp2_with fail
    refine (J0.out _).mono ?_
    rintro e w1 ⟨rfl, rfl⟩
    go_wp2_with fail
    refine (J4.out _).mono ?_
    rintro e w1 ⟨rfl, rfl⟩
    go_wp2_with fail
    refine (J8.out _).mono ?_
    rintro e w1 ⟨rfl, rfl⟩
    go_upto_region 4 with fail
    rw [← hV]
    clear hV
    go_wp2_with fail
    refine (J5.out _).mono ?_
    rintro e w1 ⟨rfl, hw1⟩
    subst hw1
    go_wp2_with fail
    refine (J6.out _).mono ?_
    rintro e w1 ⟨rfl, hw1⟩
    subst hw1
    go_wp2_with fail
    go_quiet ((go_at_call 68; exact Calls.quiet_of_same (JE.out _)))
    go_wp2_with fail
    obtain ⟨y0, y1, y2, y3, y4⟩ := blk5' (st5_blk (kZ2.drewN nq) (.int .i64 0) (.int .i64 0) (.int .i64 0) (.bool false) (.string ⟨#[]⟩))
    refine bodyPost_ret (v := .tuple #[.agg bk0C, .bool false]) (by simp [results, Try.results86, go_sem, y0, y1, y2, y3, y4]) rfl ⟨rfl, st5_below (below_drewN bV nq) (Nat.le_refl _) _ _ _ _ _⟩
  have d3 : decide (240 < sz) = false := decide_eq_false c3
  have HF := Lib.hid (HYes.out (by rw [HOk.out, d0, d1, d2, d3]; rfl))
  obtain ⟨Z, rfl⟩ : ∃ Z : Nat, sz = (Z : Int) := ⟨sz.toNat, by omega⟩
  have hZ : Z ≤ 240 := by omega
  have hs6 := h2562.out
  have w12 : IntKind.i64.wrap ((12 : Int) + (Z : Int)) = (12 : Int) + (Z : Int) := IntWalk.i64_in _ (by omega)
  have v12 : ((12 : Int) + (Z : Int)).toNat = 12 + Z := by omega
  have g1 : (0 : Int) ≤ (12 : Int) + (Z : Int) := by omega
  have g2 : (12 : Int) + (Z : Int) ≤ (s.size : Int) := by omega
  have g3 : (12 : Int) ≤ (12 : Int) + (Z : Int) := by omega
  have HX : Hid (str ((s.data.toList.drop 12).take (Z : Int).toNat) = s.extract 12 (12 + Z)) := by
    show _ = _
    rw [extract_str, Int.toNat_natCast, Nat.add_sub_cancel_left]
  rw [HF.out, HRv.out]
  simp only [bkV, bkC]
  rw [HX.out]
  obtain ⟨q, hq⟩ : ∃ q, q = (la == 1) := ⟨_, rfl⟩
  rw [← hq]
  have hq2 : (la == 1) = q := hq.symm
  have hz : s.size ≤ 256 := by omega
  have hz' : 256 ≤ s.size := by omega
  obtain ⟨z0, z1, z2, z3, z4⟩ := blk5' kZ2
  have f0 := kZ2.frozen 0
  have f1 := kZ2.frozen 1
  have f2 := kZ2.frozen 2
  have f3 := kZ2.frozen 3
  have f4 := kZ2.frozen 4
  have p3 := kE.frozen 3
  have p4 := kE.frozen 4
  clear c0 c1 c2 c3 hs6 hq HNo HYes HOk HRv HF HX
  go_enter Try.func86, Try.ntmps86
  go_wp2_with fail
  refine (J0.out _).mono ?_
  rintro e w1 ⟨rfl, rfl⟩
  go_wp2_with fail
  refine (J4.out _).mono ?_
  rintro e w1 ⟨rfl, rfl⟩
  go_wp2_with fail
  refine (J8.out _).mono ?_
  rintro e w1 ⟨rfl, rfl⟩
  go_upto_region 4 with fail
  rw [← hV]
  clear hV
  go_wp2_with fail
  refine (J5.out _).mono ?_
  rintro e w1 ⟨rfl, hw1⟩
  subst hw1
  go_wp2_with fail
  refine (J6.out _).mono ?_
  rintro e w1 ⟨rfl, hw1⟩
  subst hw1
  go_wp2_with fail
  go_quiet ((go_at_call 68; exact Calls.quiet_of_same (JE.out _)))
  go_wp2_with fail
  go_region
  all_goals go_wp2_with fail
  obtain ⟨y0, y1, y2, y3, y4⟩ := blk5' (st5_blk (((kZ2.drewN (nq + 1)).far (p := ⟨w.heap.size + 1, 3, none⟩) (by simp) (.bool q)).far (p := ⟨w.heap.size + 1, 4, none⟩) (by simp) (.string (s.extract 12 (12 + Z)))) (.int .i64 st) (.int .i64 pt) (.int .i64 id) (.bool q) (.string (s.extract 12 (12 + Z))))
  refine bodyPost_ret (v := .tuple #[.agg #[.int .i64 st, .int .i64 pt, .int .i64 id, .bool q, .string (s.extract 12 (12 + Z))], .bool true]) (by simp [results, Try.results86, go_sem, y0, y1, y2, y3, y4]) rfl ⟨rfl, st5_below (((below_drewN bV (nq + 1)).setCell (p := ⟨w.heap.size + 1, 3, none⟩) (by simp) _).setCell (p := ⟨w.heap.size + 1, 4, none⟩) (by simp) _) (Nat.le_refl _) _ _ _ _ _⟩
end Go.Proofs.Ytdhnegcblnpmfaa.JrnW

namespace Go.Proofs.Ytdhnegcblnpmfaa.PackW
open Go.RowKit Mem
set_option linter.unusedVariables false

/-- a slice that reads as texts -/
def Txs (w : World) (A : Option Addr) (n : Nat) (l : List (List UInt8)) : Prop := Row w A n (sv l)
theorem Txs.len {w : World} {A : Option Addr} {n : Nat} {l : List (List UInt8)} (h : Txs w A n l) : l.length = n := by have := h.1; rwa [sv_length] at this
theorem Txs.below {w w' : World} {A : Option Addr} {n : Nat} {l : List (List UInt8)} (h : Txs w A n l) (hb : Below w.heap.size w w') : Txs w' A n l := Row.below h hb
theorem Txs.at_ {w : World} {A : Option Addr} {n : Nat} {l : List (List UInt8)} (h : Txs w A n l) {k : Nat} (hk : k < n) : ∃ b off s, A = some ⟨b, off, none⟩ ∧ b < w.heap.size ∧ l[k]? = some s ∧ w.cell? ⟨b, off + k, none⟩ = some (.string (str s)) := by
  obtain ⟨b, off, v, e, hlt, hv, hc⟩ := Row.at_ h hk
  rw [sv, List.getElem?_map] at hv
  cases hs : l[k]? with
  | none => rw [hs] at hv; cases hv
  | some s => rw [hs] at hv; injection hv with hv; subst hv; exact ⟨b, off, s, e, hlt, rfl, hc⟩
theorem Txs.of_strs {w : World} {A : Option Addr} {n : Nat} {l : List ByteArray} (h : Strs w A n l) : Txs w A n (l.map (·.data.toList)) := by
  have e : sv (l.map (·.data.toList)) = l.map Value.string := by
    simp only [sv, List.map_map]
    exact List.map_congr_left fun s _ => by simp [str_of]
  unfold Txs
  rw [e]
  exact h
theorem Txs.of_ownc {w : World} {base : Nat} {A : Option Addr} {n c : Nat} {l : List (List UInt8)} (h : OwnC w base 1 A n c (sv l)) : Txs w A n l := by
  have hl := h.len
  rw [Nat.mul_one] at hl
  refine ⟨hl, fun hn => ?_⟩
  obtain ⟨g, hA, _, hlt, h1, _⟩ := h.room (by have := h.le; omega)
  exact ⟨g, 0, hA, hlt, fun i v hv => by rw [Nat.zero_add, h1 i (by rw [Nat.mul_one, ← hl]; exact (List.getElem?_eq_some_iff.1 hv).1), hv]⟩
theorem Txs.nil (w : World) (A : Option Addr) : Txs w A 0 [] := Row.nil w A

/-- where two lists of one length begin toX9 differ -/
theorem differ {l m : List (List UInt8)} {k : Nat} {x y : List UInt8} (hx : l[k]? = some x) (hy : m[k]? = some y) (h : x ≠ y) : l ≠ m := by
  intro e
  rw [e, hy] at hx
  injection hx with hx
  exact h hx.symm

theorem str_list (x : List UInt8) : (str x).toList = x := by rw [ByteArray.toList_eq, str_data]
theorem str_ne {x y : List UInt8} (h : x ≠ y) : ((str x).toList == (str y).toList) = false := by
  rw [str_list, str_list, beq_eq_false_iff_ne]; exact h

def SameRel (w : World) (l m : List (List UInt8)) (i : Value) (wr : World) : Prop := ∃ k d : Nat, k ≤ l.length ∧ i = .int .i64 k ∧ l.take k = m.take k ∧ wr = w.drewN d

def SamePost (r : Bool) (w : World) (e : Ending) (w' : World) : Prop := e = .returned (.bool r) ∧ ∃ d, w' = w.drewN d

set_option maxHeartbeats 1000000 in
set_option maxRecDepth 100000 in
theorem same_any (A B : Option Addr) (n m c d : Nat) (l k : List (List UInt8)) (w : World) (h : Txs w A n l) (g : Txs w B m k) (hn : n ≤ maxLen) (hm : m ≤ maxLen) :
    Calls Try.prog 25 #[.slice A n c, .slice B m d] w (SamePost (decide (l = k)) w) := by
  unfold maxLen at hn hm
  have hl := h.len
  have hk := g.len
  subst hl hk
  by_cases hlen : l.length = k.length
  · have hne : ((l.length : Int) != (k.length : Int)) = false := by simp [hlen]
    have hne' : (l.length != k.length) = false := by simp [hlen]
    have HL := Lib.hid hlen
    have hle : l.length ≤ k.length := by omega
    have hle' : k.length ≤ l.length := by omega
    clear hlen
    go_enter Try.func25, Try.ntmps25
    go_wp2_with fail
    go_loopw [5] (fun i wr => SameRel w l k i wr) (fun i _ => l.length - (intOf i).toNat)
    case atStart => exact ⟨0, 0, by omega, rfl, by simp, rfl⟩
    case round =>
      obtain ⟨j, dd, hj, rfl, htk, rfl⟩ := hrel
      have HTK := Lib.hid htk
      clear htk
      by_cases hlt : j < l.length
      · obtain ⟨b1, o1, x, rfl, _, hx, hc1⟩ := h.at_ hlt
        obtain ⟨b2, o2, y, rfl, _, hy, hc2⟩ := g.at_ (show j < k.length by omega)
        by_cases hxy : x = y
        · subst hxy
          have HT : Hid (l.take (j + 1) = k.take (j + 1)) := by
            show _ = _
            rw [take_snoc_some hx, take_snoc_some hy, HTK.out]
          clear hx hy h g
          go_wp2_with fail
          go_quiet (fail)
          go_wp2_with fail
          exact ⟨⟨j + 1, _, by omega, by go_num, HT.out, rfl⟩, by simp [intOf]; omega⟩
        · have HN : Hid (decide (l = k) = false) := by
            show _ = _
            simpa using differ hx hy hxy
          have hsne := str_ne hxy
          clear hx hy h g hxy
          go_wp2_with fail
          go_quiet (fail)
          go_wp2_with fail
          go_ret
          exact ⟨ret_bool HN.out.symm, _, by rw [World.drewN_drewN]⟩
      · go_wp2_with fail
        go_ret
        refine ⟨ret_bool ?_, dd, rfl⟩
        have e : l = k := by
          have := HTK.out
          rwa [List.take_of_length_le (by omega), List.take_of_length_le (by omega)] at this
        simp [e]
  · have hne : ((l.length : Int) != (k.length : Int)) = true := by rw [bne_iff_ne]; omega
    have hne' : (l.length != k.length) = true := by rw [bne_iff_ne]; omega
    have HN : Hid (decide (l = k) = false) := by
      show _ = _
      rw [decide_eq_false_iff_not]
      exact fun e => hlen (by rw [e])
    clear hlen
    go_enter Try.func25, Try.ntmps25
    go_wp2_with fail
    go_ret
    exact ⟨ret_bool HN.out.symm, 0, rfl⟩

theorem same_yes (A B : Option Addr) (n m c d : Nat) (l k : List (List UInt8)) (w : World) (h : Txs w A n l) (g : Txs w B m k) (hn : n ≤ maxLen) (hm : m ≤ maxLen) (e : l = k) :
    Calls Try.prog 25 #[.slice A n c, .slice B m d] w (SamePost true w) := by
  have := same_any A B n m c d l k w h g hn hm
  simpa [e] using this
theorem drewN_below (w : World) (d : Nat) : Below w.heap.size w (w.drewN d) := below_drewN (Below.refl _ _) d
end Go.Proofs.Ytdhnegcblnpmfaa.PackW
