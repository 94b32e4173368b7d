/-
  Contracts of muster/sums: split, whole, More, Sum, Join, for every argument.
-/
import Derived.Test.YtgmoakbmomaffaaRows
import Derived.Test.YtgmoakbmomaffaaSumsPlain
import Derived.Test.YtgmoakbmomaffaaMem
import Derived.WalkKit
import Derived.WalkSpells
import Derived.WalkLawsBesides
import Derived.RegionTactic
import Derived.Deep.QuietTactic
import Derived.BigQuiet
import Derived.LoopTactic
import Derived.Outline
import Derived.Below
import Derived.Lib.Hide
import Derived.OneCell
import Derived.Lib.IndexBytes
namespace Go.Proofs.Ytgmoakbmomaffaa.SumsW
open Go.RowKit Mem
set_option linter.unusedVariables false

theorem and16 (s : Int) (h0 : 0 ≤ s) (h1 : s < 4294967296) : bits BinOp.and IntKind.u32 s 65535 = s % 65536 := by
  rw [u32_and s 65535 h0 h1 (by omega) (by omega), show (65535 : Int).toNat = 65535 from rfl, nat_mask16]
  omega

theorem split_any (s : Int) (w : World) (h0 : 0 ≤ s) (h1 : s < 4294967296) :
    Calls Try.prog 47 #[.int .u32 s] w fun e w' => e = .returned (.agg #[.int .u32 (Sums.lo s % 65521), .int .u32 (Sums.hi s % 65521)]) ∧ Below w.heap.size w w' := by
  have hand := and16 s h0 h1
  go_enter Try.func47, Try.ntmps47
  go_wp2
  refine bodyPost_ret (v := .agg #[.int .u32 (Sums.lo s % 65521), .int .u32 (Sums.hi s % 65521)]) (by simp [results, Try.results47, go_sem, Sums.lo, Sums.hi]) rfl ⟨rfl, ?_⟩
  exact (Below.refl _ _).alloc (Nat.le_refl _) _

theorem or16 (a b : Int) (h0 : 0 ≤ a) (h1 : a < 65536) (h2 : 0 ≤ b) (h3 : b < 65536) : bits BinOp.or IntKind.u32 (b * 65536) a = b * 65536 + a := by
  rw [u32_or (b * 65536) a (by omega) (by omega) h0 (by omega), nat_join 16 _ _ (by omega) (by omega)]
  omega

theorem whole_any (a b : Int) (w : World) (h0 : 0 ≤ a) (h1 : a < 65536) (h2 : 0 ≤ b) (h3 : b < 65536) :
    Calls Try.prog 48 #[.agg #[.int .u32 a, .int .u32 b]] w fun e w' => e = .returned (.int .u32 (b * 65536 + a)) ∧ Below w.heap.size w w' := by
  go_enter Try.func48, Try.ntmps48
  go_wp2
  go_ret
  exact ⟨ret_int (or16 a b h0 h1 h2 h3), (Below.refl _ _).alloc (Nat.le_refl _) _⟩

def strLen : Value → Nat | .string r => r.size | _ => 0
def MoreRel (w : World) (B : Nat) (s : ByteArray) (a b : Int) (v : Value) (wr : World) : Prop :=
  ∃ (r : ByteArray) (pre : List UInt8), v = .string r ∧ s.data.toList = pre ++ r.data.toList ∧ Blk wr B 79 #[.int .u32 (Sums.AA a pre % 65521), .int .u32 (Sums.BB a b pre % 65521)] ∧ Below w.heap.size w wr

def InRel (w : World) (B : Nat) (r : ByteArray) (a b : Int) (v : Value) (wr : World) : Prop :=
  ∃ k : Nat, k ≤ r.size ∧ k ≤ 5000 ∧ v = .int .i64 k ∧ Blk wr B 79 #[.int .u32 (Sums.AA a (r.data.toList.take k)), .int .u32 (Sums.BB a b (r.data.toList.take k))] ∧ Below w.heap.size w wr

theorem more_round (w : World) (s r r' : ByteArray) (pre : List UInt8) (a b : Int) (k B : Nat) (x y : Int) (wr : World) (hp : s.data.toList = pre ++ r.data.toList)
    (hx : x = Sums.AA a (pre ++ r.data.toList.take k) % 65521) (hy : y = Sums.BB a b (pre ++ r.data.toList.take k) % 65521)
    (hb : Blk wr B 79 #[.int .u32 x, .int .u32 y]) (hbel : Below w.heap.size w wr) (hk : 0 < k ∧ k ≤ r.size)
    (hr : (k = r.size ∧ r' = ByteArray.empty) ∨ r' = r.extract k r.size) : MoreRel w B s a b (.string r') wr ∧ strLen (.string r') < strLen (.string r) := by
  have hd : r'.data.toList = r.data.toList.drop k := by
    rcases hr with ⟨h, rfl⟩ | rfl
    · rw [List.drop_of_length_le (by simp; omega)]; rfl
    · rw [Lib.extract_to_end]
  have hl : r'.size = r.size - k := by
    have := congrArg List.length hd
    simpa using this
  refine ⟨⟨r', pre ++ r.data.toList.take k, rfl, ?_, by rw [← hx, ← hy]; exact hb, hbel⟩, ?_⟩
  · rw [hd, List.append_assoc, List.take_append_drop, hp]
  · show r'.size < r.size
    omega

set_option maxHeartbeats 400000 in
set_option maxRecDepth 100000 in
theorem more_any (sum : Int) (s : ByteArray) (w : World) (h0 : 0 ≤ sum) (h1 : sum < 4294967296) (hs : s.size ≤ maxLen) :
    Calls Try.prog 19 #[.int .u32 sum, .string s] w fun e w' => e = .returned (.int .u32 (Sums.more sum s.data.toList)) ∧ Below w.heap.size w w' := by
  unfold maxLen at hs
  obtain ⟨a, ha⟩ : ∃ a, a = Sums.lo sum := ⟨_, rfl⟩
  obtain ⟨b, hb⟩ : ∃ b, b = Sums.hi sum := ⟨_, rfl⟩
  have HM : Hid (Sums.more sum s.data.toList = Sums.pk (Sums.AA a s.data.toList) (Sums.BB a b s.data.toList)) := by unfold Sums.more; rw [ha, hb]; exact rfl
  have hsp := split_any sum w h0 h1
  rw [← ha, ← hb] at hsp
  have HS := Lib.hid hsp
  clear hsp ha hb
  go_enter Try.func19, Try.ntmps19
  go_wp2_with fail
  refine HS.out.mono ?_
  rintro e w1 ⟨rfl, hb1⟩
  go_wp2_with fail
  have hlt1 : w.heap.size ≤ w1.heap.size := hb1.size
  go_loopw [1] (fun v wr => MoreRel w w1.heap.size s a b v wr) (fun v _ => strLen v)
  case atStart => exact ⟨s, [], rfl, rfl, by rw [Sums.AA_nil, Sums.BB_nil]; exact Blk.new _ _ _, hb1.alloc hlt1 _⟩
  case round =>
    obtain ⟨r, pre, rfl, hpre, hblk, hbel⟩ := hrel
    have hsz : r.size ≤ s.size := by
      have := congrArg List.length hpre
      simp at this
      omega
    have HP := Lib.hid hpre
    clear hpre
    have hB := hblk.lt
    obtain ⟨a', ha'⟩ : ∃ a', a' = Sums.AA a pre % 65521 := ⟨_, rfl⟩
    obtain ⟨b', hb'⟩ : ∃ b', b' = Sums.BB a b pre % 65521 := ⟨_, rfl⟩
    rw [← ha', ← hb'] at hblk
    have a0 : 0 ≤ a' := by omega
    have a1 : a' < 65521 := by omega
    have b0 : 0 ≤ b' := by omega
    have b1 : b' < 65521 := by omega
    have HA := Lib.hid ha'
    have HB := Lib.hid hb'
    clear ha' hb'
    by_cases hr : 0 < r.size
    · by_cases h5 : r.size ≤ 5000
      all_goals
        go_wp2_with fail
        go_loopw [7] (fun i wr2 => InRel w w1.heap.size r a' b' i wr2) (fun i _ => r.size - (intOf i).toNat)
        case atStart => exact ⟨0, by omega, by omega, rfl, by rw [List.take_zero, Sums.AA_nil, Sums.BB_nil]; exact hblk, hbel⟩
        case round =>
          clear hblk hbel hB
          obtain ⟨k, hk, hk5, rfl, hblk2, hbel2⟩ := hrel
          by_cases hlt : k < r.size ∧ k < 5000
          · obtain ⟨hlt, hlt5⟩ := hlt
            have hle := Sums.AA_le a' (r.data.toList.take k)
            have hbd := Sums.BB_le a' b' (r.data.toList.take (k + 1)) a0 a1 b0 b1 (by have := List.length_take_le (k + 1) r.data.toList; omega)
            have hbd0 := Sums.BB_le a' b' (r.data.toList.take k) a0 a1 b0 b1 (by have := List.length_take_le k r.data.toList; omega)
            have hll : (r.data.toList.take k).length ≤ k := List.length_take_le k r.data.toList
            have hts := take_snoc r k hlt
            rw [hts, Sums.BB_snoc] at hbd
            obtain ⟨x, hx⟩ : ∃ x, x = Sums.AA a' (r.data.toList.take k) := ⟨_, rfl⟩
            obtain ⟨y, hy⟩ : ∃ y, y = Sums.BB a' b' (r.data.toList.take k) := ⟨_, rfl⟩
            have HX : Hid (Sums.AA a' (r.data.toList.take (k + 1)) = x + (r[k].toNat : Int)) := by rw [hts, Sums.AA_snoc, hx]; exact rfl
            have HY : Hid (Sums.BB a' b' (r.data.toList.take (k + 1)) = y + (x + (r[k].toNat : Int))) := by rw [hts, Sums.BB_snoc, hx, hy]; exact rfl
            rw [← hx, ← hy] at hblk2 hbd
            rw [← hx] at hle
            rw [← hy] at hbd0
            have hcb : (r[k].toNat : Int) < 256 := by have := r[k].toNat_lt; omega
            clear hts hx hy
            have hc0 : wr.cell? ⟨w1.heap.size, 0, none⟩ = some (.int .u32 x) := by simpa using hblk2.cell 0
            have hc1 : wr.cell? ⟨w1.heap.size, 1, none⟩ = some (.int .u32 y) := by simpa using hblk2.cell 1
            have hf0 := hblk2.frozen 0
            have hf1 := hblk2.frozen 1
            go_wp2_with fail
            go_region
            go_wp2_with fail
            refine ⟨⟨k + 1, by omega, by omega, by go_num, ?_, (((hbel2.setCell (p := ⟨w1.heap.size, 0, none⟩) hlt1 _).setCell (p := ⟨w1.heap.size, 1, none⟩) hlt1 _).drew)⟩, by simp [intOf]; omega⟩
            rw [HX.out, HY.out]
            exact (((hblk2.set 0 _).set 1 _).drew)
          · have hle := Sums.AA_le a' (r.data.toList.take k)
            have hbd0 := Sums.BB_le a' b' (r.data.toList.take k) a0 a1 b0 b1 (by have := List.length_take_le k r.data.toList; omega)
            obtain ⟨x, hx⟩ : ∃ x, x = Sums.AA a' (r.data.toList.take k) := ⟨_, rfl⟩
            obtain ⟨y, hy⟩ : ∃ y, y = Sums.BB a' b' (r.data.toList.take k) := ⟨_, rfl⟩
            rw [← hx, ← hy] at hblk2
            have x0 : 0 ≤ x := by omega
            have y0 : 0 ≤ y := by omega
            have HX := Lib.hid hx
            have HY := Lib.hid hy
            clear hx hy hle hbd0
            have hc0 : wr.cell? ⟨w1.heap.size, 0, none⟩ = some (.int .u32 x) := by simpa using hblk2.cell 0
            have hc1 : wr.cell? ⟨w1.heap.size, 1, none⟩ = some (.int .u32 y) := by simpa using hblk2.cell 1
            have hf0 := hblk2.frozen 0
            have hf1 := hblk2.frozen 1
            go_wp2_with fail
            have hx' : x % 65521 = Sums.AA a (pre ++ r.data.toList.take k) % 65521 := by rw [HX.out, HA.out, Sums.AA_mod, Sums.AA_append]
            have hy' : y % 65521 = Sums.BB a b (pre ++ r.data.toList.take k) % 65521 := by rw [HY.out, HA.out, HB.out, Sums.BB_mod, Sums.BB_append]
            have hblk3 := (hblk2.set 0 (.int .u32 (x % 65521))).set 1 (.int .u32 (y % 65521))
            have hbel3 := (hbel2.setCell (p := ⟨w1.heap.size, 0, none⟩) hlt1 (.int .u32 (x % 65521))).setCell (p := ⟨w1.heap.size, 1, none⟩) hlt1 (.int .u32 (y % 65521))
            have hblk4 : Blk ((wr.setCell ⟨w1.heap.size, 0, none⟩ (.int .u32 (x % 65521))).setCell ⟨w1.heap.size, 1, none⟩ (.int .u32 (y % 65521))) w1.heap.size 79 #[.int .u32 (x % 65521), .int .u32 (y % 65521)] := hblk3
            have hk0 : 0 < k ∧ k ≤ r.size := by omega
            first
              | ((with_reducible refine more_round w s r ByteArray.empty pre a b k w1.heap.size (x % 65521) (y % 65521) _ HP.out hx' hy' hblk4 hbel3 hk0 ?_); exact .inl ⟨by omega, rfl⟩)
              | ((with_reducible refine more_round w s r (r.extract 5000 r.size) pre a b k w1.heap.size (x % 65521) (y % 65521) _ HP.out hx' hy' hblk4 hbel3 hk0 ?_); exact .inr (by rw [show k = 5000 by omega]))
    · have hc0 : wr.cell? ⟨w1.heap.size, 0, none⟩ = some (.int .u32 a') := by simpa using hblk.cell 0
      have hc1 : wr.cell? ⟨w1.heap.size, 1, none⟩ = some (.int .u32 b') := by simpa using hblk.cell 1
      go_wp2_with fail
      refine (whole_any _ _ _ (by omega) (by omega) (by omega) (by omega)).mono ?_
      rintro e w2 ⟨rfl, hb2⟩
      go_wp2_with fail
      go_ret
      refine ⟨ret_int ?_, hbel.trans (hb2.mono (by omega))⟩
      rw [HM.out, HA.out, HB.out]
      have hn : r.data.toList = [] := by
        apply List.eq_nil_of_length_eq_zero
        show r.data.size = 0
        have : r.data.size = r.size := rfl
        omega
      have hp := HP.out
      rw [hn, List.append_nil] at hp
      rw [hp]
      exact rfl

def SumRel (w : World) (l : List ByteArray) (t i : Value) (wr : World) : Prop :=
  ∃ k : Nat, k ≤ l.length ∧ i = .int .i64 k ∧ t = .int .u32 (Sums.sum 1 ((l.take k).map (·.data.toList))) ∧ Below w.heap.size w wr

set_option maxHeartbeats 400000 in
theorem sum_any (A : Option Addr) (n c : Nat) (l : List ByteArray) (w : World) (h : Strs w A n l) (hn : n ≤ maxLen) (hs : ∀ s ∈ l, s.size ≤ maxLen) :
    Calls Try.prog 17 #[.slice A n c] w fun e w' => e = .returned (.int .u32 (Sums.sum 1 (l.map (·.data.toList)))) ∧ Below w.heap.size w w' := by
  unfold maxLen at hn
  have hl := h.len
  subst hl
  go_enter Try.func17, Try.ntmps17
  go_wp2_with fail
  go_loopw [3, 8] (fun t i wr => SumRel w l t i wr) (fun _ i _ => l.length - (intOf i).toNat)
  case atStart => exact ⟨0, by omega, rfl, rfl, Below.refl _ _⟩
  case round =>
    obtain ⟨k, hk, rfl, rfl, hb⟩ := hrel
    by_cases hlt : k < l.length
    · obtain ⟨b, off, s, rfl, hbl, hsk, hc⟩ := (h.below hb).at_ hlt
      have hbd := Sums.sum_bd 1 ((l.take k).map (·.data.toList)) (by omega)
      have hm := more_any (Sums.sum 1 ((l.take k).map (·.data.toList))) s wr hbd.1 hbd.2 (hs s (mem_of_at hsk))
      have HT : Hid (Sums.sum 1 ((l.take (k + 1)).map (·.data.toList)) = Sums.more (Sums.sum 1 ((l.take k).map (·.data.toList))) s.data.toList) := by
        rw [take_snoc_some hsk, List.map_append, List.map_cons, List.map_nil, Sums.sum_snoc]; exact rfl
      generalize Sums.sum 1 ((l.take k).map (·.data.toList)) = x at *
      have HM := Lib.hid hm
      clear hm hsk hs h
      go_wp2_with fail
      refine HM.out.mono ?_
      rintro e w2 ⟨rfl, hb2⟩
      go_wp2_with fail
      exact ⟨⟨k + 1, by omega, by go_num, by rw [HT.out], below_step hb hb2⟩, by simp [intOf]; omega⟩
    · go_wp2_with fail
      go_ret
      exact ⟨ret_int (by rw [List.take_of_length_le (by omega)]), hb⟩
end Go.Proofs.Ytgmoakbmomaffaa.SumsW
