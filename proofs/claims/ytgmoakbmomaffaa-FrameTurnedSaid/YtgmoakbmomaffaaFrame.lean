/-
  Contracts: frame.numbers, frame.sum, frame.Put.
-/
import Derived.Test.YtgmoakbmomaffaaFramePlain
import Derived.Test.YtgmoakbmomaffaaPackLaw
import Derived.Test.YtgmoakbmomaffaaPackTexts
import Derived.Test.YtgmoakbmomaffaaSumsLaw
import Derived.Test.YtgmoakbmomaffaaWord
namespace Go.Proofs.Ytgmoakbmomaffaa.FrameW
open Go.RowKit Mem Frm PackW
set_option linter.unusedVariables false
set_option linter.unusedSimpArgs false

theorem flat_len_be (k : Int) (l : List Int) : (l.flatMap (fun n => Pack.be k.toNat n.toNat)).length = l.length * k.toNat := by
  induction l with
  | nil => simp
  | cons x r ih => simp only [List.flatMap_cons, List.length_append, ih, Pack.be_length, List.length_cons, Nat.add_mul, Nat.one_mul]; omega
def NumsRel (w : World) (k : Int) (l : List Int) (i : Value) (wr : World) : Prop :=
  ∃ j : Nat, j ≤ l.length ∧ i = .int .i64 j ∧ (l.take j).all (fun n => Pack.fitB n k) = true ∧ Lib.IsBuilder 89 5 w.heap.size w.heap.size (Lib.byteCells ((l.take j).flatMap (fun n => Pack.be k.toNat n.toNat))) wr ∧ Below w.heap.size w wr
set_option maxHeartbeats 1000000 in
set_option maxRecDepth 100000 in
theorem nums_any (k : Int) (A : Option Addr) (n c : Nat) (l : List Int) (w : World) (h : Ints w A n l) (h0 : 0 < n) (hn : n ≤ 1000) (hk : Pack.isW k = true) (hi : ∀ x ∈ l, -9223372036854775808 ≤ x ∧ x ≤ 9223372036854775807) :
    Calls Try.prog 56 #[.int .i64 k, .slice A n c] w (Ret (.tuple #[.string (str (nums k l).1), .bool (nums k l).2]) w) := by
  have hl := h.len
  subst hl
  have hkb := Pack.isW_bd hk
  have hbld := Lib.fresh_isBuilder 89 5 w
  have hb0 := (Below.refl w.heap.size w).alloc (Nat.le_refl _) (.cells #[.pointer none, .slice none 0 0] 89)
  have HH := Lib.hid h
  have HI := Lib.hid hi
  clear h hi hk
  go_enter Try.func56, Try.ntmps56
  go_wp2_with fail
  go_loopw [13] (fun i wr => NumsRel w k l i wr) (fun i _ => l.length - (intOf i).toNat)
  case atStart => exact ⟨0, by omega, rfl, by simp, hbld, hb0⟩
  case round =>
    clear hbld hb0
    obtain ⟨j, hj, rfl, hall, hbld, hbel⟩ := hrel
    have HA := Lib.hid hall
    clear hall
    by_cases hlt : j < l.length
    · obtain ⟨b, off, x, rfl, hbl, hx, d0⟩ := Lst.int (HH.out.below hbel) hlt
      obtain ⟨i0, i1⟩ := HI.out x (mem_of_at hx)
      have HN := Lib.hid (number_any x k wr i0 i1)
      have hts := take_snoc_some hx
      cases hf : Pack.fitB x k
      · have hx2 : Pack.number x k = ([], 2) := by simp [Pack.number, hf]
        rw [hx2] at HN
        have HT : Hid (nums k l = ([], false)) := nums_no (by rw [List.all_eq_false]; exact ⟨x, mem_of_at hx, by simp [hf]⟩)
        clear hx hx2 hts hf hbld
        go_wp2_with fail
        refine HN.out.mono ?_
        rintro e w1 ⟨rfl, b1⟩
        go_wp2_with fail
        go_ret2
        exact ⟨by rw [HT.out]; rfl, below_step hbel b1⟩
      · have hx2 : Pack.number x k = (Pack.be k.toNat x.toNat, 0) := by simp [Pack.number, hf]
        rw [hx2] at HN
        have HAn : Hid ((l.take (j + 1)).all (fun n => Pack.fitB n k) = true) := by show _ = _; rw [hts, List.all_append, HA.out]; simp [hf]
        have HF : Hid ((l.take (j + 1)).flatMap (fun n => Pack.be k.toNat n.toNat) = (l.take j).flatMap (fun n => Pack.be k.toNat n.toNat) ++ Pack.be k.toNat x.toNat) := by
          show _ = _
          rw [hts, List.flatMap_append]
          simp
        have hfl := flat_len_be k (l.take j)
        have hfl2 : (l.take j).length ≤ 1000 := by rw [List.length_take]; omega
        have hfl3 : (l.take j).length * k.toNat ≤ 1000 * 8 := Nat.mul_le_mul hfl2 (by omega)
        obtain ⟨M, hM⟩ : ∃ M, M = (l.take j).flatMap (fun n => Pack.be k.toNat n.toNat) := ⟨_, rfl⟩
        rw [← hM] at hbld hfl HF
        have hMl : M.length ≤ 8000 := by omega
        clear hx hx2 hts hf hM hfl hfl3 hfl2
        go_wp2_with fail
        refine HN.out.mono ?_
        rintro e w1 ⟨rfl, b1⟩
        have hbld1 := isbld_below hbld b1
        have hb4 := below_step hbel b1
        clear hbld b1 hbel
        go_wp2_with fail
        refine (BldW.writeString w.heap.size w.heap.size _ _ _ hbld1 (by rw [Lib.byteCells_length, str_size]; simp [Pack.be_length]; omega) hb4.size).mono ?_
        rintro e w4 ⟨rfl, hbld4, hb5⟩
        go_wp2_with fail
        refine ⟨⟨j + 1, by omega, by go_num, HAn.out, .inr ?_, hb4.trans hb5⟩, by simp [intOf]; omega⟩
        rw [HF.out]
        rw [strCells_str, byteCells_app] at hbld4
        exact hbld4
    · obtain rfl : j = l.length := by omega
      have HT : Hid (nums k l = (l.flatMap (fun n => Pack.be k.toNat n.toNat), true)) := nums_yes (by have := HA.out; rwa [List.take_length] at this)
      rw [List.take_length] at hbld
      have hfl := flat_len_be k l
      have hne : l.flatMap (fun n => Pack.be k.toNat n.toNat) ≠ [] := by
        intro e
        rw [e] at hfl
        have : 1 * 1 ≤ l.length * k.toNat := Nat.mul_le_mul (by omega) (by omega)
        simp at hfl
        omega
      obtain ⟨M, hM⟩ : ∃ M, M = l.flatMap (fun n => Pack.be k.toNat n.toNat) := ⟨_, rfl⟩
      rw [← hM] at HT hne hbld
      have HS := Lib.hid (BldW.string_some w.heap.size w.heap.size M wr hbld hne)
      clear hbld hne hfl hM
      go_wp2_with fail
      refine HS.out.mono ?_
      rintro e w5 ⟨rfl, hb5⟩
      go_wp2_with fail
      go_ret2
      exact ⟨by rw [HT.out]; rfl, hbel.trans hb5⟩
theorem nums_is (r : List UInt8) (v : Bool) (k : Int) (A : Option Addr) (n c : Nat) (l : List Int) (w : World) (hr : nums k l = (r, v)) (h : Ints w A n l) (h0 : 0 < n) (hn : n ≤ 1000) (hk : Pack.isW k = true) (hi : ∀ x ∈ l, -9223372036854775808 ≤ x ∧ x ≤ 9223372036854775807) :
    Calls Try.prog 56 #[.int .i64 k, .slice A n c] w (Ret (.tuple #[.string (str r), .bool v]) w) := by
  have := nums_any k A n c l w h h0 hn hk hi
  rw [hr] at this
  exact this
theorem lit_1 (w : World) (x : Int) : Ints (w.alloc (.cells #[.int .i64 x] 3)) (some ⟨w.heap.size, 0, none⟩) 1 [x] := by
  have h : Blk (w.alloc (.cells #[.int .i64 x] 3)) w.heap.size 3 #[.int .i64 x] := Blk.new _ _ _
  exact ints_blk (l := [x]) h rfl
theorem lit_2 (w : World) (x y : Int) : Ints (w.alloc (.cells #[.int .i64 x, .int .i64 y] 3)) (some ⟨w.heap.size, 0, none⟩) 2 [x, y] := by
  have h : Blk (w.alloc (.cells #[.int .i64 x, .int .i64 y] 3)) w.heap.size 3 #[.int .i64 x, .int .i64 y] := Blk.new _ _ _
  exact ints_blk (l := [x, y]) h rfl
theorem lit_3 (w : World) (x y z : Int) : Ints (w.alloc (.cells #[.int .i64 x, .int .i64 y, .int .i64 z] 3)) (some ⟨w.heap.size, 0, none⟩) 3 [x, y, z] := by
  have h : Blk (w.alloc (.cells #[.int .i64 x, .int .i64 y, .int .i64 z] 3)) w.heap.size 3 #[.int .i64 x, .int .i64 y, .int .i64 z] := Blk.new _ _ _
  exact ints_blk (l := [x, y, z]) h rfl
theorem new_1 (w : World) (o : Obj) : Below w.heap.size w (w.alloc o) := (Below.refl _ _).alloc (Nat.le_refl _) _
theorem sum1 (s : List UInt8) : Sums.sum 1 [s] = Sums.more 1 s := rfl
set_option maxHeartbeats 1000000 in
theorem sum_any (s : ByteArray) (w : World) (hs : s.size ≤ maxLen) : Calls Try.prog 57 #[.string s] w (Ret (.string (str (sumL s.data.toList))) w) := by
  have HS : Hid (∀ w', Strs w' (some ⟨w.heap.size, 0, none⟩) 1 [s] → Calls Try.prog 17 #[.slice (some ⟨w.heap.size, 0, none⟩) 1 1] w' (Ret (.int .u32 (Sums.more 1 s.data.toList)) w')) := fun w' h => SumsW.sum_is _ _ _ _ [s] w' h rfl (by unfold maxLen; omega) (by simpa using hs)
  have hbd := Sums.more_bd 1 s.data.toList
  have HR : Hid (str (sumL s.data.toList) = str (Pack.be 4 (Sums.more 1 s.data.toList).toNat)) := rfl
  obtain ⟨m, hm⟩ : ∃ m, m = Sums.more 1 s.data.toList := ⟨_, rfl⟩
  rw [← hm] at HS hbd HR
  have HN := Lib.hid (nums_yes (w := 4) (l := [m]) (by simp [Pack.fitB, Pack.isW]; omega))
  have hw : IntKind.i64.wrap m = m := IntWalk.i64_in _ (by omega)
  rw [HR.out]
  clear hm
  go_enter Try.func57, Try.ntmps57
  go_wp2_with fail
  refine (HS.out _ (SumsW.strs_new1 w s _)).mono ?_
  rintro e w1 ⟨rfl, b1⟩
  go_wp2_with fail
  refine (nums_is _ _ 4 _ 1 1 [m] _ HN.out (lit_1 w1 m) (by omega) (by omega) rfl (by intro x hx; simp at hx; omega)).mono ?_
  rintro e w2 ⟨rfl, b2⟩
  go_wp2_with fail
  go_ret
  exact ⟨by simp, below_step (below_step (new_1 w _) b1) (below_step (new_1 w1 _) b2)⟩
end Go.Proofs.Ytgmoakbmomaffaa.FrameW
