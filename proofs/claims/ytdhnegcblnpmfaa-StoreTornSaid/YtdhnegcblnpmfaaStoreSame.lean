/-
  Contract of musterref03.Same (over the store's seat).
-/
import Derived.Test.YtdhnegcblnpmfaaStoreText
namespace Go.Proofs.Ytdhnegcblnpmfaa.StorW
open Go.RowKit Mem Stor
set_option linter.unusedVariables false

/-- where two lists of one length begin to differ -/
theorem differ {l m : List (List UInt8)} {k : Nat} {x y : List UInt8} (hx : l[k]? = some x) (hy : m[k]? = some y) (h : x ≠ y) : l ≠ m := by
  intro e
  rw [e, hy] at hx
  injection hx with hx
  exact h hx.symm

def SameRel (w : World) (l m : List (List UInt8)) (i : Value) (wr : World) : Prop := ∃ k d : Nat, k ≤ l.length ∧ i = .int .i64 k ∧ l.take k = m.take k ∧ wr = w.drewN d

def SamePost (r : Bool) (w : World) (e : Ending) (w' : World) : Prop := e = .returned (.bool r) ∧ ∃ d, w' = w.drewN d

set_option maxHeartbeats 1000000 in
set_option maxRecDepth 100000 in
theorem same_any (A B : Option Addr) (n m c d : Nat) (l k : List (List UInt8)) (w : World) (h : Txs w A n l) (g : Txs w B m k) (hn : n ≤ maxLen) (hm : m ≤ maxLen) :
    Calls Try.prog 25 #[.slice A n c, .slice B m d] w (SamePost (decide (l = k)) w) := by
  unfold maxLen at hn hm
  have hl := h.len
  have hk := g.len
  subst hl hk
  by_cases hlen : l.length = k.length
  · have hne : ((l.length : Int) != (k.length : Int)) = false := by simp [hlen]
    have hne' : (l.length != k.length) = false := by simp [hlen]
    have HL := Lib.hid hlen
    have hle : l.length ≤ k.length := by omega
    have hle' : k.length ≤ l.length := by omega
    clear hlen
    go_enter Try.func25, Try.ntmps25
    go_wp2_with fail
    go_loopw [5] (fun i wr => SameRel w l k i wr) (fun i _ => l.length - (intOf i).toNat)
    case atStart => exact ⟨0, 0, by omega, rfl, by simp, rfl⟩
    case round =>
      obtain ⟨j, dd, hj, rfl, htk, rfl⟩ := hrel
      have HTK := Lib.hid htk
      clear htk
      by_cases hlt : j < l.length
      · obtain ⟨b1, o1, x, rfl, _, hx, hc1⟩ := h.at_ hlt
        obtain ⟨b2, o2, y, rfl, _, hy, hc2⟩ := g.at_ (show j < k.length by omega)
        by_cases hxy : x = y
        · subst hxy
          have HT : Hid (l.take (j + 1) = k.take (j + 1)) := by
            show _ = _
            rw [take_snoc_some hx, take_snoc_some hy, HTK.out]
          clear hx hy h g
          go_wp2_with fail
          go_quiet (fail)
          go_wp2_with fail
          exact ⟨⟨j + 1, _, by omega, by go_num, HT.out, rfl⟩, by simp [intOf]; omega⟩
        · have HN : Hid (decide (l = k) = false) := by
            show _ = _
            simpa using differ hx hy hxy
          have hsne := str_ne hxy
          clear hx hy h g hxy
          go_wp2_with fail
          go_quiet (fail)
          go_wp2_with fail
          go_ret
          exact ⟨ret_bool HN.out.symm, _, by rw [World.drewN_drewN]⟩
      · go_wp2_with fail
        go_ret
        refine ⟨ret_bool ?_, dd, rfl⟩
        have e : l = k := by
          have := HTK.out
          rwa [List.take_of_length_le (by omega), List.take_of_length_le (by omega)] at this
        simp [e]
  · have hne : ((l.length : Int) != (k.length : Int)) = true := by rw [bne_iff_ne]; omega
    have hne' : (l.length != k.length) = true := by rw [bne_iff_ne]; omega
    have HN : Hid (decide (l = k) = false) := by
      show _ = _
      rw [decide_eq_false_iff_not]
      exact fun e => hlen (by rw [e])
    clear hlen
    go_enter Try.func25, Try.ntmps25
    go_wp2_with fail
    go_ret
    exact ⟨ret_bool HN.out.symm, 0, rfl⟩

theorem same_yes (A B : Option Addr) (n m c d : Nat) (l k : List (List UInt8)) (w : World) (h : Txs w A n l) (g : Txs w B m k) (hn : n ≤ maxLen) (hm : m ≤ maxLen) (e : l = k) :
    Calls Try.prog 25 #[.slice A n c, .slice B m d] w (SamePost true w) := by
  have := same_any A B n m c d l k w h g hn hm
  simpa [e] using this
theorem drewN_below (w : World) (d : Nat) : Below w.heap.size w (w.drewN d) := below_drewN (Below.refl _ _) d
end Go.Proofs.Ytdhnegcblnpmfaa.StorW
