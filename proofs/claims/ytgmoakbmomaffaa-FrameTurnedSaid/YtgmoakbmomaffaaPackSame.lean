/-
  Contract of musterref03.Same, and slices of texts in one word.
-/
import Derived.Test.YtgmoakbmomaffaaPackRef3
namespace Go.Proofs.Ytgmoakbmomaffaa.PackW
open Go.RowKit Mem
set_option linter.unusedVariables false

/-- a slice that reads as texts -/
def Txs (w : World) (A : Option Addr) (n : Nat) (l : List (List UInt8)) : Prop := Row w A n (sv l)
theorem Txs.len {w : World} {A : Option Addr} {n : Nat} {l : List (List UInt8)} (h : Txs w A n l) : l.length = n := by have := h.1; rwa [sv_length] at this
theorem Txs.below {w w' : World} {A : Option Addr} {n : Nat} {l : List (List UInt8)} (h : Txs w A n l) (hb : Below w.heap.size w w') : Txs w' A n l := Row.below h hb
theorem Txs.at_ {w : World} {A : Option Addr} {n : Nat} {l : List (List UInt8)} (h : Txs w A n l) {k : Nat} (hk : k < n) : ∃ b off s, A = some ⟨b, off, none⟩ ∧ b < w.heap.size ∧ l[k]? = some s ∧ w.cell? ⟨b, off + k, none⟩ = some (.string (str s)) := by
  obtain ⟨b, off, v, e, hlt, hv, hc⟩ := Row.at_ h hk
  rw [sv, List.getElem?_map] at hv
  cases hs : l[k]? with
  | none => rw [hs] at hv; cases hv
  | some s => rw [hs] at hv; injection hv with hv; subst hv; exact ⟨b, off, s, e, hlt, rfl, hc⟩
theorem Txs.of_strs {w : World} {A : Option Addr} {n : Nat} {l : List ByteArray} (h : Strs w A n l) : Txs w A n (l.map (·.data.toList)) := by
  have e : sv (l.map (·.data.toList)) = l.map Value.string := by
    simp only [sv, List.map_map]
    exact List.map_congr_left fun s _ => by simp [str_of]
  unfold Txs
  rw [e]
  exact h
theorem Txs.of_ownc {w : World} {base : Nat} {A : Option Addr} {n c : Nat} {l : List (List UInt8)} (h : OwnC w base 1 A n c (sv l)) : Txs w A n l := by
  have hl := h.len
  rw [Nat.mul_one] at hl
  refine ⟨hl, fun hn => ?_⟩
  obtain ⟨g, hA, _, hlt, h1, _⟩ := h.room (by have := h.le; omega)
  exact ⟨g, 0, hA, hlt, fun i v hv => by rw [Nat.zero_add, h1 i (by rw [Nat.mul_one, ← hl]; exact (List.getElem?_eq_some_iff.1 hv).1), hv]⟩
theorem Txs.nil (w : World) (A : Option Addr) : Txs w A 0 [] := Row.nil w A

/-- where two lists of one length begin to differ -/
theorem differ {l m : List (List UInt8)} {k : Nat} {x y : List UInt8} (hx : l[k]? = some x) (hy : m[k]? = some y) (h : x ≠ y) : l ≠ m := by
  intro e
  rw [e, hy] at hx
  injection hx with hx
  exact h hx.symm

theorem str_list (x : List UInt8) : (str x).toList = x := by rw [ByteArray.toList_eq, str_data]
theorem str_ne {x y : List UInt8} (h : x ≠ y) : ((str x).toList == (str y).toList) = false := by
  rw [str_list, str_list, beq_eq_false_iff_ne]; exact h

def SameRel (w : World) (l m : List (List UInt8)) (i : Value) (wr : World) : Prop := ∃ k d : Nat, k ≤ l.length ∧ i = .int .i64 k ∧ l.take k = m.take k ∧ wr = w.drewN d

def SamePost (r : Bool) (w : World) (e : Ending) (w' : World) : Prop := e = .returned (.bool r) ∧ ∃ d, w' = w.drewN d

set_option maxHeartbeats 1000000 in
set_option maxRecDepth 100000 in
theorem same_any (A B : Option Addr) (n m c d : Nat) (l k : List (List UInt8)) (w : World) (h : Txs w A n l) (g : Txs w B m k) (hn : n ≤ maxLen) (hm : m ≤ maxLen) :
    Calls Try.prog 36 #[.slice A n c, .slice B m d] w (SamePost (decide (l = k)) w) := by
  unfold maxLen at hn hm
  have hl := h.len
  have hk := g.len
  subst hl hk
  by_cases hlen : l.length = k.length
  · have hne : ((l.length : Int) != (k.length : Int)) = false := by simp [hlen]
    have hne' : (l.length != k.length) = false := by simp [hlen]
    have HL := Lib.hid hlen
    have hle : l.length ≤ k.length := by omega
    have hle' : k.length ≤ l.length := by omega
    clear hlen
    go_enter Try.func36, Try.ntmps36
    go_wp2_with fail
    go_loopw [5] (fun i wr => SameRel w l k i wr) (fun i _ => l.length - (intOf i).toNat)
    case atStart => exact ⟨0, 0, by omega, rfl, by simp, rfl⟩
    case round =>
      obtain ⟨j, dd, hj, rfl, htk, rfl⟩ := hrel
      have HTK := Lib.hid htk
      clear htk
      by_cases hlt : j < l.length
      · obtain ⟨b1, o1, x, rfl, _, hx, hc1⟩ := h.at_ hlt
        obtain ⟨b2, o2, y, rfl, _, hy, hc2⟩ := g.at_ (show j < k.length by omega)
        by_cases hxy : x = y
        · subst hxy
          have HT : Hid (l.take (j + 1) = k.take (j + 1)) := by
            show _ = _
            rw [take_snoc_some hx, take_snoc_some hy, HTK.out]
          clear hx hy h g
          go_wp2_with fail
          go_quiet (fail)
          go_wp2_with fail
          exact ⟨⟨j + 1, _, by omega, by go_num, HT.out, rfl⟩, by simp [intOf]; omega⟩
        · have HN : Hid (decide (l = k) = false) := by
            show _ = _
            simpa using differ hx hy hxy
          have hsne := str_ne hxy
          clear hx hy h g hxy
          go_wp2_with fail
          go_quiet (fail)
          go_wp2_with fail
          go_ret
          exact ⟨ret_bool HN.out.symm, _, by rw [World.drewN_drewN]⟩
      · go_wp2_with fail
        go_ret
        refine ⟨ret_bool ?_, dd, rfl⟩
        have e : l = k := by
          have := HTK.out
          rwa [List.take_of_length_le (by omega), List.take_of_length_le (by omega)] at this
        simp [e]
  · have hne : ((l.length : Int) != (k.length : Int)) = true := by rw [bne_iff_ne]; omega
    have hne' : (l.length != k.length) = true := by rw [bne_iff_ne]; omega
    have HN : Hid (decide (l = k) = false) := by
      show _ = _
      rw [decide_eq_false_iff_not]
      exact fun e => hlen (by rw [e])
    clear hlen
    go_enter Try.func36, Try.ntmps36
    go_wp2_with fail
    go_ret
    exact ⟨ret_bool HN.out.symm, 0, rfl⟩

theorem same_yes (A B : Option Addr) (n m c d : Nat) (l k : List (List UInt8)) (w : World) (h : Txs w A n l) (g : Txs w B m k) (hn : n ≤ maxLen) (hm : m ≤ maxLen) (e : l = k) :
    Calls Try.prog 36 #[.slice A n c, .slice B m d] w (SamePost true w) := by
  have := same_any A B n m c d l k w h g hn hm
  simpa [e] using this
theorem drewN_below (w : World) (d : Nat) : Below w.heap.size w (w.drewN d) := below_drewN (Below.refl _ _) d
end Go.Proofs.Ytgmoakbmomaffaa.PackW
