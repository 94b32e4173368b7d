/-
  Merged: Contracts: journal.records and its iterator.; A slice of texts that the call made.; A drawn region of loads, stores and addresses inside a round goes as one outside it (nothing of the program).
-/
import Derived.Test.YtdhnegcblnpmfaaL7
import Derived.Test.YtdhnegcblnpmfaaL4
import Derived.Test.YtdhnegcblnpmfaaL3
import Derived.RangeFuncNested
import Derived.RangeFuncBound
import Derived.RangeFuncCalls
import Derived.RangeFuncLeaves
import Derived.RangeFuncBox
import Derived.Shelf.Abstract
import Derived.Shelf.RegionOpen
import Derived.WalkKit
import Derived.OwnWalkIn
import Derived.TacticsInMore
import Derived.LoopNIn
import Derived.LoopIn
import Derived.RegionIn
namespace Go.Proofs.Ytdhnegcblnpmfaa.JrnW
open Go.RowKit Go.Shelf Mem Jrn PackW FrameW
set_option linter.unusedVariables false
set_option linter.unusedSimpArgs false
attribute [local go_sem] Oper.semAt_some

def RecsW (w : World) (A : Option Addr) (n c : Nat) (area H : Int) : World := ((w.alloc (.cells #[.slice A n c] 34)).alloc (.cells #[.int .i64 area] 3)).alloc (.cells #[.int .i64 H] 3)
theorem records_any (A : Option Addr) (n c : Nat) (area : Int) (w : World) (hn : n ≤ 1000) : Calls Try.prog 67 #[.slice A n c, .int .i64 area] w fun e w' => e = .returned (.func (.func 77) #[] #[.pointer (some ⟨w.heap.size + 1, 0, none⟩), .pointer (some ⟨w.heap.size + 2, 0, none⟩), .pointer (some ⟨w.heap.size, 0, none⟩)]) ∧ w' = RecsW w A n c area ((n / 2 : Nat) : Int) := by
  have h2 : Int.tdiv (n : Int) 2 = ((n / 2 : Nat) : Int) := rfl
  have HR : Hid (RecsW w A n c area ((n / 2 : Nat) : Int) = ((w.alloc (.cells #[.slice A n c] 34)).alloc (.cells #[.int .i64 area] 3)).alloc (.cells #[.int .i64 ((n / 2 : Nat) : Int)] 3)) := rfl
  rw [HR.out]
  go_enter Try.func67, Try.ntmps67
  go_wp2_with fail
  go_ret
  exact ⟨rfl, rfl⟩
/-- blocks that do not begin with a text stay, but for one; and so does one row of texts -/
def KeepF (A : Option Addr) (F : Nat) (W W' : World) : Prop := (∀ (k : Nat) (cs : Array Value) (t : TypeId) (fr : Nat × Nat), k ≠ F → (∀ s, cs[0]? ≠ some (.string s)) → W.heap[k]? = some (.cells cs t fr) → W'.heap[k]? = some (.cells cs t fr)) ∧ ∀ b off, A = some ⟨b, off, none⟩ → W'.heap[b]? = W.heap[b]?
theorem KeepF.trans {A : Option Addr} {F : Nat} {a b c : World} (h : KeepF A F a b) (k : KeepF A F b c) : KeepF A F a c := ⟨fun n cs t fr h1 h2 h3 => k.1 n cs t fr h1 h2 (h.1 n cs t fr h1 h2 h3), fun x off e => (k.2 x off e).trans (h.2 x off e)⟩
theorem KeepF.blk {A : Option Addr} {F : Nat} {w w' : World} {g : Nat} {t : TypeId} {cs : Array Value} (h : KeepF A F w w') (hb : Blk w g t cs) (h1 : g ≠ F) (h2 : ∀ s, cs[0]? ≠ some (.string s)) : Blk w' g t cs := h.1 g cs t (0, 0) h1 h2 hb
theorem keepF_put {A : Option Addr} {F : Nat} {w : World} (hA : ∀ b off, A = some ⟨b, off, none⟩ → b < w.heap.size) (W : World) (l : Nat) (o o' : Obj) (hl : w.heap.size ≤ l) (h : W.heap[l]? = some o) (hc : o.isCells = false) (_ : o.isWalk = false) : KeepF A F W (W.putObj l o') := by
  refine ⟨fun k cs t fr _ _ hk => ?_, fun b off e => World.putObj_heap_other (fun e2 => by have := hA b off e; omega)⟩
  rw [World.putObj_heap_other (fun e => by subst e; rw [h] at hk; injection hk with hk; subst hk; cases hc)]
  exact hk
theorem cell_same {W W' : World} {b i : Nat} (h : W'.heap[b]? = W.heap[b]?) : W'.cell? ⟨b, i, none⟩ = W.cell? ⟨b, i, none⟩ := by
  unfold World.cell?
  rw [h]
theorem Txs.keepF {w w' : World} {A : Option Addr} {F : Nat} {n : Nat} {l : List (List UInt8)} (h : Txs w A n l) (hk : KeepF A F w w') : Txs w' A n l := by
  refine ⟨h.1, fun hn => ?_⟩
  obtain ⟨b, off, e, hlt, hc⟩ := h.2 hn
  have hb := hk.2 b off e
  refine ⟨b, off, e, ?_, fun i v hv => (cell_same hb).trans (hc i v hv)⟩
  have : w'.heap[b]? = some (w.heap[b]'hlt) := by rw [hb]; exact Array.getElem?_eq_getElem hlt
  exact (Array.getElem?_eq_some_iff.1 this).1
theorem take_some_any {A : Option Addr} {n c a e : Nat} {l : List (List UInt8)} {w : World} {r : Rc} (h : Txs w A n l) (hw : ∀ s ∈ l, s.length = 256) (hn : n ≤ 1000) (he : e ≤ n) (ha : a ≤ n) (hr : takeR l a e = some r) :
    Calls Try.prog 78 #[.slice A n c, .int .i64 a, .int .i64 e] w fun x w' => x = .returned (.tuple #[.agg (recC r), .bool true]) ∧ Below w.heap.size w w' := by
  refine (take_any A n c a e l w h hw hn he ha).mono ?_
  rintro x w' ⟨v0, v1, v2, v3, rfl, h2, hb⟩
  rw [hr] at h2 ⊢
  rw [h2 r rfl]
  exact ⟨rfl, hb⟩
theorem txs_lt {w : World} {A : Option Addr} {n : Nat} {l : List (List UInt8)} {b off : Nat} (h : Txs w A n l) (hn : 0 < n) (e : A = some ⟨b, off, none⟩) : b < w.heap.size := by
  obtain ⟨b', off', e', hlt, _⟩ := h.2 hn
  rw [e'] at e
  injection e with e
  injection e with e
  omega
theorem keepF_below {A : Option Addr} {F : Nat} {w w' : World} (hb : Below w.heap.size w w') (hA : ∀ b off, A = some ⟨b, off, none⟩ → b < w.heap.size) : KeepF A F w w' := ⟨fun k cs t fr _ _ h => (hb.block k (lt_of_block h)).trans h, fun b off e => hb.block b (hA b off e)⟩
def TakeNo (w : World) (x : Ending) (w' : World) : Prop := ∃ (v0 v1 : Int) (v2 : ByteArray) (v3 : Int), x = .returned (.tuple #[.agg #[.int .i64 v0, .int .i64 v1, .string v2, .int .i64 v3], .bool false]) ∧ Below w.heap.size w w'
theorem take_none_any {A : Option Addr} {n c a e : Nat} {l : List (List UInt8)} {w : World} (h : Txs w A n l) (hw : ∀ s ∈ l, s.length = 256) (hn : n ≤ 1000) (he : e ≤ n) (ha : a ≤ n) (hr : takeR l a e = none) :
    Calls Try.prog 78 #[.slice A n c, .int .i64 a, .int .i64 e] w (TakeNo w) := by
  refine (take_any A n c a e l w h hw hn he ha).mono ?_
  rintro x w' ⟨v0, v1, v2, v3, rfl, h2, hb⟩
  rw [hr]
  exact ⟨v0, v1, v2, v3, rfl, hb⟩
abbrev rcV (r : Rc) : Array Value := #[.agg (recC r)]
set_option maxRecDepth 100000 in
set_option maxHeartbeats 4000000 in
theorem records1_in (N : Nat) (hN : 1 ≤ N) (y B1 B2 B3 F : Nat) (A : Option Addr) (n c area : Nat) (l : List (List UInt8)) (hw : ∀ s ∈ l, s.length = 256) (hn0 : 1 ≤ n) (hn : n ≤ 1000) (har : area ≤ 1) (J Jx : List Rc → World → Prop) (W : World) (hJ : AbidesFrom W.heap.size J)
    (hY : ∀ pre x W, J pre W → pre.length < (recs l area).length → YieldAt Fence.wide (N - 1) Try.prog y (rcV x) W fun e W' =>
      (e = .returned (.bool true) ∧ J (pre ++ [x]) W' ∧ KeepF A F W W') ∨ (e = .returned (.bool false) ∧ Jx (pre ++ [x]) W'))
    (h1 : Blk W B1 34 #[.slice A n c]) (h2 : Blk W B2 3 #[.int .i64 area]) (h3 : Blk W B3 3 #[.int .i64 ((n / 2 : Nat) : Int)]) (hT : Txs W A n l) (g1 : F < B1) (g2 : F < B2) (g3 : F < B3) (h0 : J [] W) :
    CallsIn Fence.wide N Try.prog 77 #[.func (.yield y) #[] #[], .pointer (some ⟨B2, 0, none⟩), .pointer (some ⟨B3, 0, none⟩), .pointer (some ⟨B1, 0, none⟩)] W fun e W' => (∃ v, e = .returned v) ∧
      ((∃ ys, ys = recs l area ∧ J ys W') ∨ (∃ pre, pre <+: recs l area ∧ Jx pre W')) := by
  refine callsIn_of_wp Try.func77 rfl trivial ?_ rfl
  simp only [Try.ntmps77, List.size_toArray, List.length_cons, List.length_nil, Nat.reduceAdd, Nat.reduceSub, Array.replicate_succ, Array.replicate_zero, List.push_toArray, List.append_toArray, List.nil_append, List.cons_append]
  have hl := hT.len
  subst hl
  have HW := Lib.hid hw
  have HJ := Lib.hid hJ
  have x1 := blk1 h1
  have x2 := blk1 h2
  have x3 := blk1 h3
  obtain ⟨H, hH⟩ : ∃ H, H = l.length / 2 := ⟨_, rfl⟩
  have hH1 : 2 * H ≤ l.length := by omega
  have HRs : Hid (∀ k a life, RAt l area k a life → a ≤ l.length) := fun k a life h => by
    have := h.hi
    rw [← hH] at this
    have h5 : (area + 1) * H ≤ 2 * H := Nat.mul_le_mul_right _ (by omega)
    omega
  have HRL : Hid (∀ k a life, RAt l area k a life → k ≤ l.length) := fun k a life h => by have := h.few; omega
  have HEnd : Hid ((area + 1) * (l.length / 2) ≤ l.length) := by
    show _ ≤ _
    rw [← hH]
    have h5 : (area + 1) * H ≤ 2 * H := Nat.mul_le_mul_right _ (by omega)
    omega
  have HSt := Lib.hid (rat_start l area)
  rw [← hH] at HSt HEnd h3 x3
  have HH := Lib.hid hH
  have m1 : area * H ≤ 1 * H := Nat.mul_le_mul_right _ har
  have m2 : (area + 1) * H ≤ 2 * H := Nat.mul_le_mul_right _ (by omega)
  have c1 : ((area * H : Nat) : Int) = (area : Int) * (H : Int) := by simp
  have c2 : (((area + 1) * H : Nat) : Int) = ((area : Int) + 1) * (H : Int) := by simp
  have w1 : IntKind.i64.wrap ((area : Int) * (H : Int)) = ((area * H : Nat) : Int) := by rw [← c1]; exact IntWalk.i64_in _ (by omega)
  have w2 : IntKind.i64.wrap (((area : Int) + 1) * (H : Int)) = (((area + 1) * H : Nat) : Int) := by rw [← c2]; exact IntWalk.i64_in _ (by omega)
  obtain ⟨E, hE⟩ : ∃ E, E = (area + 1) * H := ⟨_, rfl⟩
  rw [← hE] at w2 HEnd m2
  obtain ⟨S0, hS0⟩ : ∃ S0, S0 = area * H := ⟨_, rfl⟩
  rw [← hS0] at w1 HSt m1
  have HE := Lib.hid hE
  have hlen := HEnd.out
  clear hw hJ hH c1 c2 hE hS0
  gi_wp2_with fail
  gi_loopw [5, 6, 7] (fun p q r wr => ∃ (k a : Nat) (life : Int), p = .int .i64 a ∧ q = .int .i64 life ∧ r = .int .i64 k ∧ RAt l area k a life ∧ KeepF A F W wr ∧ J ((recs l area).take k) wr)
    (fun _ _ r _ => l.length + 1 - (intOf r).toNat)
  case atStart => exact ⟨0, S0, 0, rfl, rfl, rfl, HSt.out, ⟨fun _ _ _ _ _ _ h => h, fun _ _ _ => rfl⟩, by simpa using h0⟩
  case round =>
    obtain ⟨k, a, life, rfl, rfl, rfl, hat, hkf, hJs⟩ := hrel
    have hal := HRs.out _ _ _ hat
    have hkl := HRL.out _ _ _ hat
    have k1 := hkf.blk h1 (by omega) (by simp)
    have k2 := hkf.blk h2 (by omega) (by simp)
    have k3 := hkf.blk h3 (by omega) (by simp)
    have kT := Txs.keepF hT hkf
    have z1 := blk1 k1
    have z2 := blk1 k2
    have z3 := blk1 k3
    have HAt := Lib.hid hat
    have HKf := Lib.hid hkf
    have HFw : Hid (F < wr.heap.size) := Nat.lt_trans g1 k1.lt
    have hlenJ : ((recs l area).take k).length ≤ k := List.length_take_le _ _
    have HEq : Hid (takeR l a E = takeR l a ((area + 1) * (l.length / 2))) := by show _ = _; rw [HE.out, ← HH.out]
    have h1l := (Array.getElem?_eq_some_iff.1 h1).1
    clear hat hkf x1 x2 x3
    cases hr : takeR l a E with
    | none =>
      have HG := Lib.hid (take_none_any (c := c) kT HW.out hn hlen hal hr)
      have HK := Lib.hid (rat_none HAt.out (HEq.out.symm.trans hr))
      clear hr
      by_cases hk0 : k = 0
      · have e0 : ((k : Int) == 0) = true := by rw [hk0]; rfl
        clear hk0
        gi_wp2_with fail
        refine ⟨trivial, ?_⟩
        refine (callsIn_wide.2 HG.out).mono ?_
        rintro e w1 ⟨v0, v1, v2, v3, rfl, b1⟩
        have hJ1 := HJ.out _ _ _ none hJs (grown_of ((b1).alloc b1.size (.cells #[.int .i64 v0, .int .i64 v1, .string v2, .int .i64 v3] 120))) (fun r h => by cases h)
        gi_wp2_with fail
        refine ⟨fun _ h => (by cases h), ?_⟩
        gi_wp2_with fail
        refine bodyPost_ret (results_none rfl _ _ _) rfl ?_
        rw [HK.out, List.take_length] at hJ1
        exact ⟨⟨_, rfl⟩, .inl ⟨_, rfl, hJ1⟩⟩
      · have e0 : ((k : Int) == 0) = false := by rw [beq_eq_false_iff_ne]; omega
        clear hk0
        gi_wp2_with fail
        refine ⟨trivial, ?_⟩
        refine (callsIn_wide.2 HG.out).mono ?_
        rintro e w1 ⟨v0, v1, v2, v3, rfl, b1⟩
        have hJ1 := HJ.out _ _ _ none hJs (grown_of ((b1).alloc b1.size (.cells #[.int .i64 v0, .int .i64 v1, .string v2, .int .i64 v3] 120))) (fun r h => by cases h)
        gi_wp2_with fail
        refine ⟨fun _ h => (by cases h), ?_⟩
        gi_wp2_with fail
        refine bodyPost_ret (results_none rfl _ _ _) rfl ?_
        rw [HK.out, List.take_length] at hJ1
        exact ⟨⟨_, rfl⟩, .inl ⟨_, rfl, hJ1⟩⟩
    | some r =>
      have HG := Lib.hid (take_some_any (c := c) kT HW.out hn hlen hal hr)
      have hr' := HEq.out.symm.trans hr
      have hbd := take_body hr
      have hloc := take_local hr
      have HStep := Lib.hid fun h1 h2 => rat_step HAt.out hr' h1 h2
      have HOther := Lib.hid fun h => rat_other HAt.out hr' h
      clear hr hr'
      obtain ⟨rl, rs, rb, rn⟩ := r
      simp only at hbd hloc HStep HOther
      obtain ⟨hloc1, hloc2, _⟩ := hloc
      have hrn : rn ≤ 1000 := by omega
      by_cases hk0 : k = 0
      case pos =>
        have e0 : ((k : Int) == 0) = true := by rw [hk0]; rfl
        have i0 : (if k = 0 then rl else life) = rl := by rw [if_pos hk0]
        rw [i0] at HStep HOther
        clear i0 hk0
        by_cases q0 : rs = (k : Int)
        case neg =>
          have q1 : (rs != (k : Int)) = true := by simpa using q0
          have HK := Lib.hid (HOther.out (fun h => q0 h.1))
          clear HStep HOther q0
          gi_wp2_with fail
          refine ⟨trivial, ?_⟩
          refine (callsIn_wide.2 HG.out).mono ?_
          rintro e w1 ⟨rfl, b1⟩
          obtain ⟨V, hV⟩ : ∃ V, V = w1.alloc (.cells (recC ⟨rl, rs, rb, rn⟩) 120) := ⟨_, rfl⟩
          have hVc : w1.alloc (.cells #[.int .i64 rl, .int .i64 rs, .string (str rb), .int .i64 (rn : Int)] 120) = V := hV.symm
          have bV : Below wr.heap.size wr V := by rw [hV]; exact b1.alloc b1.size _
          have kV : Blk V w1.heap.size 120 (recC ⟨rl, rs, rb, rn⟩) := by rw [hV]; exact Blk.new _ _ _
          have hJ1 := HJ.out _ _ _ none hJs (grown_of bV) (fun r h => by cases h)
          obtain ⟨x0, x1, x2, x3⟩ := blk4' kV
          have HF1 : Hid (w1.heap.size ≠ F) := by show _ ≠ _; have := b1.size; have := HFw.out; omega
          have HKv := Lib.hid (keepF_below (A := A) (F := F) bV (fun b off e => txs_lt kT (by omega) e))
          clear hV
          gi_wp2_with fail
          refine ⟨fun _ h => (by cases h), ?_⟩
          gi_wp2_with fail
          refine bodyPost_ret (results_none rfl _ _ _) rfl ?_
          rw [HK.out, List.take_length] at hJ1
          exact ⟨⟨_, rfl⟩, .inl ⟨_, rfl, hJ1⟩⟩
        have q1 : (rs != (k : Int)) = false := by simpa using q0
        have q2 : (rl != rl) = false := by simp
        obtain ⟨hlt, hx, hnext⟩ := HStep.out q0 rfl
        have HX := Lib.hid hx
        have HNx := Lib.hid hnext
        clear HStep HOther q0 hx hnext
        gi_wp2_with fail
        refine ⟨trivial, ?_⟩
        refine (callsIn_wide.2 HG.out).mono ?_
        rintro e w1 ⟨rfl, b1⟩
        obtain ⟨V, hV⟩ : ∃ V, V = w1.alloc (.cells (recC ⟨rl, rs, rb, rn⟩) 120) := ⟨_, rfl⟩
        have hVc : w1.alloc (.cells #[.int .i64 rl, .int .i64 rs, .string (str rb), .int .i64 (rn : Int)] 120) = V := hV.symm
        have bV : Below wr.heap.size wr V := by rw [hV]; exact b1.alloc b1.size _
        have kV : Blk V w1.heap.size 120 (recC ⟨rl, rs, rb, rn⟩) := by rw [hV]; exact Blk.new _ _ _
        have hJ1 := HJ.out _ _ _ none hJs (grown_of bV) (fun r h => by cases h)
        obtain ⟨x0, x1, x2, x3⟩ := blk4' kV
        have HF1 : Hid (w1.heap.size ≠ F) := by show _ ≠ _; have := b1.size; have := HFw.out; omega
        have HKv := Lib.hid (keepF_below (A := A) (F := F) bV (fun b off e => txs_lt kT (by omega) e))
        clear hV
        obtain ⟨fn, tmps, assign, body, hy, hR⟩ := hY _ ⟨rl, rs, rb, rn⟩ V hJ1 (by omega)
        gi_wp2_with fail
        refine hR.mono ?_
        rintro e W3 (⟨rfl, hJ3, hk3⟩ | ⟨rfl, hJx3⟩)
        · have kV3 := hk3.blk kV HF1.out (by simp)
          clear x0 x1 x2 x3
          obtain ⟨x0, x1, x2, x3⟩ := blk4' kV3
          gi_wp2_with fail
          refine ⟨⟨k + 1, rn, rl, rfl, rfl, by go_num, HNx.out, HKf.out.trans (HKv.out.trans hk3), by rw [take_snoc_some HX.out]; exact hJ3⟩, by simp [intOf]; omega⟩
        · gi_wp2_with fail
          refine bodyPost_ret (results_none rfl _ _ _) rfl ?_
          exact ⟨⟨_, rfl⟩, .inr ⟨_, by rw [← take_snoc_some HX.out]; exact List.take_prefix _ _, hJx3⟩⟩
      case neg =>
        have e0 : ((k : Int) == 0) = false := by rw [beq_eq_false_iff_ne]; omega
        have i0 : (if k = 0 then rl else life) = life := by rw [if_neg hk0]
        rw [i0] at HStep HOther
        clear i0 hk0
        by_cases q0 : rs = (k : Int)
        case neg =>
          have q1 : (rs != (k : Int)) = true := by simpa using q0
          have HK := Lib.hid (HOther.out (fun h => q0 h.1))
          clear HStep HOther q0
          gi_wp2_with fail
          refine ⟨trivial, ?_⟩
          refine (callsIn_wide.2 HG.out).mono ?_
          rintro e w1 ⟨rfl, b1⟩
          obtain ⟨V, hV⟩ : ∃ V, V = w1.alloc (.cells (recC ⟨rl, rs, rb, rn⟩) 120) := ⟨_, rfl⟩
          have hVc : w1.alloc (.cells #[.int .i64 rl, .int .i64 rs, .string (str rb), .int .i64 (rn : Int)] 120) = V := hV.symm
          have bV : Below wr.heap.size wr V := by rw [hV]; exact b1.alloc b1.size _
          have kV : Blk V w1.heap.size 120 (recC ⟨rl, rs, rb, rn⟩) := by rw [hV]; exact Blk.new _ _ _
          have hJ1 := HJ.out _ _ _ none hJs (grown_of bV) (fun r h => by cases h)
          obtain ⟨x0, x1, x2, x3⟩ := blk4' kV
          have HF1 : Hid (w1.heap.size ≠ F) := by show _ ≠ _; have := b1.size; have := HFw.out; omega
          have HKv := Lib.hid (keepF_below (A := A) (F := F) bV (fun b off e => txs_lt kT (by omega) e))
          clear hV
          gi_wp2_with fail
          refine ⟨fun _ h => (by cases h), ?_⟩
          gi_wp2_with fail
          refine bodyPost_ret (results_none rfl _ _ _) rfl ?_
          rw [HK.out, List.take_length] at hJ1
          exact ⟨⟨_, rfl⟩, .inl ⟨_, rfl, hJ1⟩⟩
        by_cases p2 : rl = life
        case neg =>
          have q1 : (rs != (k : Int)) = false := by simpa using q0
          have q2 : (rl != life) = true := by simpa using p2
          have HK := Lib.hid (HOther.out (fun h => p2 h.2))
          clear HStep HOther q0 p2
          gi_wp2_with fail
          refine ⟨trivial, ?_⟩
          refine (callsIn_wide.2 HG.out).mono ?_
          rintro e w1 ⟨rfl, b1⟩
          obtain ⟨V, hV⟩ : ∃ V, V = w1.alloc (.cells (recC ⟨rl, rs, rb, rn⟩) 120) := ⟨_, rfl⟩
          have hVc : w1.alloc (.cells #[.int .i64 rl, .int .i64 rs, .string (str rb), .int .i64 (rn : Int)] 120) = V := hV.symm
          have bV : Below wr.heap.size wr V := by rw [hV]; exact b1.alloc b1.size _
          have kV : Blk V w1.heap.size 120 (recC ⟨rl, rs, rb, rn⟩) := by rw [hV]; exact Blk.new _ _ _
          have hJ1 := HJ.out _ _ _ none hJs (grown_of bV) (fun r h => by cases h)
          obtain ⟨x0, x1, x2, x3⟩ := blk4' kV
          have HF1 : Hid (w1.heap.size ≠ F) := by show _ ≠ _; have := b1.size; have := HFw.out; omega
          have HKv := Lib.hid (keepF_below (A := A) (F := F) bV (fun b off e => txs_lt kT (by omega) e))
          clear hV
          gi_wp2_with fail
          refine ⟨fun _ h => (by cases h), ?_⟩
          gi_wp2_with fail
          refine bodyPost_ret (results_none rfl _ _ _) rfl ?_
          rw [HK.out, List.take_length] at hJ1
          exact ⟨⟨_, rfl⟩, .inl ⟨_, rfl, hJ1⟩⟩
        have q1 : (rs != (k : Int)) = false := by simpa using q0
        have q2 : (rl != life) = false := by simpa using p2
        obtain ⟨hlt, hx, hnext⟩ := HStep.out q0 p2
        subst p2
        have HX := Lib.hid hx
        have HNx := Lib.hid hnext
        clear HStep HOther q0 hx hnext
        gi_wp2_with fail
        refine ⟨trivial, ?_⟩
        refine (callsIn_wide.2 HG.out).mono ?_
        rintro e w1 ⟨rfl, b1⟩
        obtain ⟨V, hV⟩ : ∃ V, V = w1.alloc (.cells (recC ⟨rl, rs, rb, rn⟩) 120) := ⟨_, rfl⟩
        have hVc : w1.alloc (.cells #[.int .i64 rl, .int .i64 rs, .string (str rb), .int .i64 (rn : Int)] 120) = V := hV.symm
        have bV : Below wr.heap.size wr V := by rw [hV]; exact b1.alloc b1.size _
        have kV : Blk V w1.heap.size 120 (recC ⟨rl, rs, rb, rn⟩) := by rw [hV]; exact Blk.new _ _ _
        have hJ1 := HJ.out _ _ _ none hJs (grown_of bV) (fun r h => by cases h)
        obtain ⟨x0, x1, x2, x3⟩ := blk4' kV
        have HF1 : Hid (w1.heap.size ≠ F) := by show _ ≠ _; have := b1.size; have := HFw.out; omega
        have HKv := Lib.hid (keepF_below (A := A) (F := F) bV (fun b off e => txs_lt kT (by omega) e))
        clear hV
        obtain ⟨fn, tmps, assign, body, hy, hR⟩ := hY _ ⟨rl, rs, rb, rn⟩ V hJ1 (by omega)
        gi_wp2_with fail
        refine hR.mono ?_
        rintro e W3 (⟨rfl, hJ3, hk3⟩ | ⟨rfl, hJx3⟩)
        · have kV3 := hk3.blk kV HF1.out (by simp)
          clear x0 x1 x2 x3
          obtain ⟨x0, x1, x2, x3⟩ := blk4' kV3
          gi_wp2_with fail
          refine ⟨⟨k + 1, rn, rl, rfl, rfl, by go_num, HNx.out, HKf.out.trans (HKv.out.trans hk3), by rw [take_snoc_some HX.out]; exact hJ3⟩, by simp [intOf]; omega⟩
        · gi_wp2_with fail
          refine bodyPost_ret (results_none rfl _ _ _) rfl ?_
          exact ⟨⟨_, rfl⟩, .inr ⟨_, by rw [← take_snoc_some HX.out]; exact List.take_prefix _ _, hJx3⟩⟩
theorem records_stops (N : Nat) (hN : 1 ≤ N) (B1 B2 B3 F : Nat) (A : Option Addr) (n c area : Nat) (l : List (List UInt8)) (hw : ∀ s ∈ l, s.length = 256) (hn0 : 1 ≤ n) (hn : n ≤ 1000) (har : area ≤ 1) (w : World)
    (h1 : Blk w B1 34 #[.slice A n c]) (h2 : Blk w B2 3 #[.int .i64 area]) (h3 : Blk w B3 3 #[.int .i64 ((n / 2 : Nat) : Int)]) (hT : Txs w A n l) (g1 : F < B1) (g2 : F < B2) (g3 : F < B3) :
    SeqStopsK Fence.wide N Try.prog 77 #[.pointer (some ⟨B2, 0, none⟩), .pointer (some ⟨B3, 0, none⟩), .pointer (some ⟨B1, 0, none⟩)] rcV (KeepF A F) (fun ys => ys = recs l area) (fun pre => pre <+: recs l area) (recs l area).length w := fun y J Jx W hW hJ _ hY h0 =>
  records1_in N hN y B1 B2 B3 F A n c area l hw hn0 hn har J Jx W hJ hY (h1.below hW h1.lt) (h2.below hW h2.lt) (h3.below hW h3.lt) (hT.below hW) g1 g2 g3 h0
end Go.Proofs.Ytdhnegcblnpmfaa.JrnW

namespace Go.Proofs.Ytdhnegcblnpmfaa.JrnW
open Go.RowKit Mem PackW
set_option linter.unusedVariables false

def strRow (x : List UInt8) : List Value := [.string (str x)]
theorem layX : Lay strRow 1 := ⟨fun _ => rfl, fun x u hu => by simp [strRow] at hu; subst hu; rfl, by omega⟩
theorem flat_sv (l : List (List UInt8)) : l.flatMap strRow = sv l := by
  induction l with
  | nil => rfl
  | cons x r ih => rw [List.flatMap_cons, ih]; rfl
abbrev TxO := SOwn strRow 1
theorem TxO.txs {w : World} {base : Nat} {A : Option Addr} {n c : Nat} {l : List (List UInt8)} (h : TxO w base A n c l) : Txs w A n l := Txs.of_ownc (by have := h.2; rwa [flat_sv] at this)
theorem lit_t (w : World) (x : List UInt8) : Lst strRow 1 (w.alloc (.cells #[.string (str x)] 9)) (some ⟨w.heap.size, 0, none⟩) 1 [x] := Lst.new layX w x #[.string (str x)] 9 rfl
theorem strInfo : (Try.prog.info? 9).map (fun i => (i.zero, i.size, i.bytes)) = some (some (.string ⟨#[]⟩), 1, 16) := by kernel_rfl
end Go.Proofs.Ytdhnegcblnpmfaa.JrnW

namespace Go.Proofs.Ytdhnegcblnpmfaa.Mem
open Go
set_option linter.unusedVariables false

/-- an operation that ends with a value, or with none -/
def Pl (o : Oper) : Prop := (∀ c, o.op ≠ .defer c) ∧ ∀ (P : Program) (ρ : Operand → Value) (w : World) (x : Next) (w' : World), (execOp ρ o).run P w = .ok x w' → (∃ v, x = .value v) ∨ x = .skip
theorem pl_value {s : Sem Value} {P : Program} {w w' : World} {x : Next} (h : (do let a ← s; pure (Next.value a) : Sem Next).run P w = .ok x w') : ∃ v, x = .value v := by
  simp only [Sem.run_bind] at h
  cases hr : s.run P w with
  | ok v w1 =>
    rw [hr] at h
    simp only [Result.andThen, Sem.run_pure] at h
    injection h with h1 h2
    exact ⟨v, h1.symm⟩
  | halt e w1 => rw [hr] at h; cases h
theorem pl_skip {s : Sem Unit} {P : Program} {w w' : World} {x : Next} (h : (do s; pure Next.skip : Sem Next).run P w = .ok x w') : x = .skip := by
  simp only [Sem.run_bind] at h
  cases hr : s.run P w with
  | ok v w1 =>
    rw [hr] at h
    simp only [Result.andThen, Sem.run_pure] at h
    injection h with h1 h2
    exact h1.symm
  | halt e w1 => rw [hr] at h; cases h
theorem pl_load {o : Oper} {t : TypeId} {a : Operand} (h : o.op = .load t a) : Pl o := ⟨fun c e => (by rw [h] at e; cases e), fun P ρ w x w' hr => by
  unfold execOp at hr
  rw [h] at hr
  exact .inl (pl_value hr)⟩
theorem pl_field {o : Oper} {t : TypeId} {a : Operand} {f : Nat} (h : o.op = .fieldAddr t a f) : Pl o := ⟨fun c e => (by rw [h] at e; cases e), fun P ρ w x w' hr => by
  unfold execOp at hr
  rw [h] at hr
  exact .inl (pl_value hr)⟩
theorem pl_store {o : Oper} {t : TypeId} {a b : Operand} (h : o.op = .store t a b) : Pl o := ⟨fun c e => (by rw [h] at e; cases e), fun P ρ w x w' hr => by
  unfold execOp at hr
  rw [h] at hr
  exact .inr (pl_skip hr)⟩
def plB (o : Oper) : Bool := match o.op with
  | .load _ _ => true
  | .fieldAddr _ _ _ => true
  | .store _ _ _ => true
  | _ => false
theorem plB_pl {o : Oper} (h : plB o = true) : Pl o := by
  unfold plB at h
  split at h
  · next e => exact pl_load e
  · next e => exact pl_field e
  · next e => exact pl_store e
  · cases h
theorem pl_round {o : Oper} {l n : Nat} {P : Program} {a : Act} {w : World} {K : Act → World → Prop} {Q : Exit → Act → World → Prop} (hp : Pl o) (h : o.wpIn Fence.wide n P a w K Q) : o.wpIn (Fence.wide.inRound l) n P a w K Q := by
  refine ⟨fun _ _ => trivial, ?_⟩
  have h2 := h.2
  have e1 : o.semAt Fence.wide.round a.eval = execOp a.eval o := Oper.semAt_none _ _
  have e2 : o.semAt (Fence.wide.inRound l).round a.eval = execOp a.eval o := Oper.semAt_some l _ _ hp.1
  rw [e1] at h2
  rw [e2]
  cases hr : (execOp a.eval o).run P w with
  | ok x w' =>
    rw [hr] at h2
    rcases hp.2 _ _ _ _ _ hr with ⟨v, rfl⟩ | rfl
    · exact h2
    · exact h2
  | halt e w' =>
    rw [hr] at h2
    cases e <;> exact h2
theorem any_round {l n : Nat} {P : Program} {md : Region.Mode} {ops : Array Oper} {Q : Exit → Act → World → Prop} (hall : ops.toList.all plB = true) : ∀ (fuel : Nat) (listed : Array Bool) (a : Act) (w : World), wpAnyIn Fence.wide n P md ops Q fuel listed a w → wpAnyIn (Fence.wide.inRound l) n P md ops Q fuel listed a w := by
  have hp : ∀ (i : Nat) (o : Oper), ops[i]? = some o → Pl o := fun i o ho => plB_pl (List.all_eq_true.1 hall o (List.mem_of_getElem? (by rw [Array.getElem?_toList]; exact ho)))
  intro fuel
  induction fuel with
  | zero => intro listed a w h; exact h
  | succ fuel ih =>
    intro listed a w h
    refine ⟨h.1, fun i hi => ?_⟩
    have h2 := h.2 i hi
    unfold wpOpIn at h2 ⊢
    cases ho : ops[i]? with
    | none => simp only [ho] at h2 ⊢; exact ih _ _ _ h2
    | some o =>
      simp only [ho] at h2 ⊢
      split at h2
      · next c =>
        rw [if_pos c]
        exact pl_round (hp i o ho) (Oper.wpIn_mono (fun a w => ih _ a w) h2)
      · next c =>
        rw [if_neg c]
        exact ⟨fun _ _ => trivial, ih _ _ _ h2.2⟩
end Go.Proofs.Ytdhnegcblnpmfaa.Mem
