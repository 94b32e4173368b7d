/-
  Contracts: frame.frames and its iterator.
-/
import Derived.Test.YtgmoakbmomaffaaFrameRGet
import Derived.Test.YtgmoakbmomaffaaSeq
import Derived.RangeFuncNested
import Derived.RangeFuncBound
import Derived.RangeFuncCalls
import Derived.RangeFuncLeaves
import Derived.RangeFuncBox
import Derived.Shelf.Abstract
import Derived.Shelf.RegionOpen
import Derived.WalkKit
import Derived.OwnWalkIn
import Derived.TacticsInMore
import Derived.LoopNIn
import Derived.LoopIn
namespace Go.Proofs.Ytgmoakbmomaffaa.FrameW
open Go.RowKit Go.Shelf Mem Frm PackW
set_option linter.unusedVariables false
set_option linter.unusedSimpArgs false
attribute [local go_sem] Oper.semAt_some

theorem frames_any (s : ByteArray) (w : World) : Calls Try.prog 60 #[.string s] w fun e w' => e = .returned (.func (.func 63) #[] #[.pointer (some ⟨w.heap.size, 0, none⟩)]) ∧ w' = w.alloc (.cells #[.string s] 9) := by
  go_enter Try.func60, Try.ntmps60
  go_wp2_with fail
  go_ret
  exact ⟨rfl, rfl⟩
def Keep1 (b : Nat) (W W' : World) : Prop := W'.heap[b]? = W.heap[b]?
abbrev pairV (x : List UInt8 × Int) : Array Value := #[.string (str x.1), .int .i64 x.2]
set_option maxRecDepth 100000 in
set_option maxHeartbeats 1000000 in
theorem frames1_in (n : Nat) (hn : 1 ≤ n) (l Bs : Nat) (s : ByteArray) (hs : s.size ≤ maxLen) (J Jx : List (List UInt8 × Int) → World → Prop) (W : World) (hJ : AbidesFrom W.heap.size J)
    (hY : ∀ pre x W, J pre W → pre.length < (all s.data.toList).length → YieldAt Fence.wide (n - 1) Try.prog l (pairV x) W fun e W' =>
      (e = .returned (.bool true) ∧ J (pre ++ [x]) W' ∧ Keep1 Bs W W') ∨ (e = .returned (.bool false) ∧ Jx (pre ++ [x]) W'))
    (hBs : Blk W Bs 9 #[.string s]) (h0 : J [] W) :
    CallsIn Fence.wide n Try.prog 63 #[.func (.yield l) #[] #[], .pointer (some ⟨Bs, 0, none⟩)] W fun e W' => (∃ v, e = .returned v) ∧
      ((∃ ys, ys = all s.data.toList ∧ J ys W') ∨ (∃ pre, pre <+: all s.data.toList ∧ Jx pre W')) := by
  refine callsIn_of_wp Try.func63 rfl trivial ?_ rfl
  simp only [Try.ntmps63, List.size_toArray, List.length_cons, List.length_nil, Nat.reduceAdd, Nat.reduceSub, Array.replicate_succ, Array.replicate_zero, List.push_toArray, List.append_toArray, List.nil_append, List.cons_append]
  have hsl : s.data.toList.length = s.size := by simp
  have HSl := Lib.hid hsl
  have HS := Lib.hid hs
  have HJ := Lib.hid hJ
  clear hsl hs hJ
  gi_wp2_with fail
  gi_loopw [3] (fun p wr => ∃ (k a : Nat), p = .int .i64 a ∧ At s.data.toList k a ∧ Blk wr Bs 9 #[.string s] ∧ J ((all s.data.toList).take k) wr)
    (fun p _ => s.size + 1 - (intOf p).toNat)
  case atStart => exact ⟨0, 0, rfl, at_start _, hBs, by simpa using h0⟩
  case round =>
    obtain ⟨k, a, rfl, hat, hbs, hJs⟩ := hrel
    have x1 := blk1 hbs
    have hto := hat.to
    rw [HSl.out] at hto
    have HG := Lib.hid (get_any s (a : Int) wr HS.out)
    have HAt := Lib.hid hat
    have HBs := Lib.hid hbs
    have hbd := get_bd s.data.toList (a : Int)
    have HStep := Lib.hid fun h0 => at_step hat h0
    have HEnd := Lib.hid fun h0 => at_end hat h0
    have HOn := Lib.hid fun h0 => get_on (s := s.data.toList) (a := a) h0
    obtain ⟨r, hr⟩ : ∃ r, r = get s.data.toList (a : Int) := ⟨_, rfl⟩
    rw [← hr] at HG HStep HEnd hbd HOn
    obtain ⟨r1, r2, r3, r4, r5⟩ := r
    have hlenJ : ((all s.data.toList).take k).length ≤ k := List.length_take_le _ _
    clear hat hbs hr
    by_cases h5 : r5 = 0
    · obtain ⟨hlt, hx, hnext⟩ := HStep.out h5
      obtain ⟨on1, on2⟩ := HOn.out h5
      subst h5
      simp only at hx hnext on1 on2 hbd
      obtain ⟨t, rfl⟩ : ∃ t : Nat, r4 = (t : Int) := ⟨r4.toNat, by omega⟩
      rw [Int.toNat_natCast] at hnext
      have HX := Lib.hid hx
      have HNx := Lib.hid hnext
      clear hx hnext
      gi_wp2_with fail
      refine ⟨trivial, ?_⟩
      refine (callsIn_wide.2 HG.out).mono ?_
      rintro e w1 ⟨rfl, b1⟩
      have hJ1 := HJ.out _ _ _ none hJs (grown_of b1) (fun r h => by cases h)
      obtain ⟨fn, tmps, assign, body, hy, hR⟩ := hY _ (r3, (t : Int)) w1 hJ1 (by omega)
      have HBs1 := Lib.hid (HBs.out.below b1 HBs.out.lt)
      gi_wp2_with fail
      refine hR.mono ?_
      rintro e W3 (⟨rfl, hJ3, hk3⟩ | ⟨rfl, hJx3⟩)
      · have hbs3 : Blk W3 Bs 9 #[.string s] := hk3.trans HBs1.out
        gi_wp2_with fail
        go_roundw
        case rel => exact ⟨k + 1, t, rfl, HNx.out, hbs3, by rw [take_snoc_some HX.out]; exact hJ3⟩
        case measure => simp [intOf]; rw [HSl.out] at on2; omega
      · gi_wp2_with fail
        refine bodyPost_ret (results_none rfl _ _ _) rfl ?_
        exact ⟨⟨_, rfl⟩, .inr ⟨_, by rw [← take_snoc_some HX.out]; exact List.take_prefix _ _, hJx3⟩⟩
    · obtain ⟨hke, hlast⟩ := HEnd.out h5
      have e5 : (r5 != 0) = true := by simpa using h5
      have HKe := Lib.hid hke
      clear h5 hke hlast
      gi_wp2_with fail
      refine ⟨trivial, ?_⟩
      refine (callsIn_wide.2 HG.out).mono ?_
      rintro e w1 ⟨rfl, b1⟩
      have hJ1 := HJ.out _ _ _ none hJs (grown_of b1) (fun r h => by cases h)
      gi_wp2_with fail
      refine ⟨fun _ h => (by cases h), ?_⟩
      gi_wp2_with fail
      refine bodyPost_ret (results_none rfl _ _ _) rfl ?_
      rw [HKe.out, List.take_length] at hJ1
      exact ⟨⟨_, rfl⟩, .inl ⟨_, rfl, hJ1⟩⟩
theorem frames_stops (n : Nat) (hn : 1 ≤ n) (Bs : Nat) (s : ByteArray) (hs : s.size ≤ maxLen) (w : World) (hBs : Blk w Bs 9 #[.string s]) :
    SeqStopsK Fence.wide n Try.prog 63 #[.pointer (some ⟨Bs, 0, none⟩)] pairV (Keep1 Bs) (fun ys => ys = all s.data.toList) (fun pre => pre <+: all s.data.toList) (all s.data.toList).length w := fun l J Jx W hW hJ _ hY h0 =>
  frames1_in n hn l Bs s hs J Jx W hJ hY (hBs.below hW hBs.lt) h0
end Go.Proofs.Ytgmoakbmomaffaa.FrameW
