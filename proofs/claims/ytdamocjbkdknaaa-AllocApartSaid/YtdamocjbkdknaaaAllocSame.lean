/-
  Contract of musterref13: SameNotes.
-/
import Derived.Test.YtdamocjbkdknaaaAllocNotes
namespace Go.Proofs.Ytdamocjbkdknaaa.FleetW
open Go.RowKit Mem Fleet
set_option linter.unusedVariables false
set_option linter.unusedSimpArgs false
set_option linter.unnecessarySimpa false

theorem Lst.note {w : World} {A : Option Addr} {n : Nat} {l : List Nt} (h : Nts w A n l) {i : Nat} (hi : i < n) : ∃ b off s, A = some ⟨b, off, none⟩ ∧ b < w.heap.size ∧ l[i]? = some s ∧ w.cell? ⟨b, off + i * 4, none⟩ = some (.int .i64 s.kd) ∧ w.cell? ⟨b, off + i * 4 + 1, none⟩ = some (.int .i64 s.nd) ∧ w.cell? ⟨b, off + i * 4 + 2, none⟩ = some (.int .i64 s.jb) ∧ w.cell? ⟨b, off + i * 4 + 3, none⟩ = some (.int .i64 s.ep) := by
  obtain ⟨b, off, s, hA, hb, hs, hc⟩ := h.at_ hi
  exact ⟨b, off, s, hA, hb, hs, hc 0 _ rfl, hc 1 _ rfl, hc 2 _ rfl, hc 3 _ rfl⟩
theorem nt_ext {x y : Nt} (h0 : x.kd = y.kd) (h1 : x.nd = y.nd) (h2 : x.jb = y.jb) (h3 : x.ep = y.ep) : x = y := by
  cases x; cases y; simp_all
set_option maxHeartbeats 4000000 in
set_option maxRecDepth 100000 in
theorem rtsame_any (A B : Option Addr) (n m c d : Nat) (p q : List Nt) (w : World) (h : Nts w A n p) (g : Nts w B m q) (hn : n ≤ maxLen) (hm : m ≤ maxLen) :
    Calls Try.prog 34 #[.slice A n c, .slice B m d] w (Drew (.bool (decide (p = q))) w) := by
  unfold maxLen at hn hm
  have hl := h.len
  have hk := g.len
  subst hl hk
  by_cases hlen : p.length = q.length
  · have hne : ((p.length : Int) != (q.length : Int)) = false := by simp [hlen]
    have hne' : (p.length != q.length) = false := by simp [hlen]
    have HL := Lib.hid hlen
    have hle : p.length ≤ q.length := by omega
    have hle' : q.length ≤ p.length := by omega
    clear hlen
    go_enter Try.func34, Try.ntmps34
    go_wp2_with fail
    go_loopw [5] (fun i wr => ∃ k d : Nat, k ≤ p.length ∧ i = .int .i64 k ∧ p.take k = q.take k ∧ wr = w.drewN d) (fun i _ => p.length - (intOf i).toNat)
    case atStart => exact ⟨0, 0, by omega, rfl, by simp, rfl⟩
    case round =>
      obtain ⟨j, dd, hj, rfl, htk, rfl⟩ := hrel
      have HTK := Lib.hid htk
      clear htk
      by_cases hlt : j < p.length
      · obtain ⟨b1, o1, x, rfl, _, hx, c0, c1, c2, c3⟩ := Lst.note h hlt
        obtain ⟨b2, o2, y, rfl, _, hy, d0, d1, d2, d3⟩ := Lst.note g (show j < q.length by omega)
        have HX := Lib.hid hx
        have HY := Lib.hid hy
        have HN : Hid (x ≠ y → decide (p = q) = false) := by
          show _ → _
          intro hxy
          rw [decide_eq_false_iff_not]
          intro e
          rw [e, HY.out] at HX
          have := HX.out
          injection this with this
          exact hxy this.symm
        clear hx hy h g
        by_cases h0 : x.kd = y.kd
        case neg =>
          have e0 : (x.kd != y.kd) = true := by simpa using h0
          have e0' : (x.kd == y.kd) = false := by simpa using h0
          have HF := Lib.hid (HN.out (fun e => h0 (by rw [e])))
          clear h0
          go_wp2_with fail
          go_quiet (fail)
          go_wp2_with fail
          go_ret
          exact ⟨ret_bool HF.out.symm, _, World.drewN_drewN _ _ _⟩
        have e0 : (x.kd != y.kd) = false := by simp [h0]
        have e0' : (x.kd == y.kd) = true := by simp [h0]
        by_cases h1 : x.nd = y.nd
        case neg =>
          have e1 : (x.nd != y.nd) = true := by simpa using h1
          have e1' : (x.nd == y.nd) = false := by simpa using h1
          have HF := Lib.hid (HN.out (fun e => h1 (by rw [e])))
          clear h0 h1
          go_wp2_with fail
          go_quiet (fail)
          go_wp2_with fail
          go_ret
          exact ⟨ret_bool HF.out.symm, _, World.drewN_drewN _ _ _⟩
        have e1 : (x.nd != y.nd) = false := by simp [h1]
        have e1' : (x.nd == y.nd) = true := by simp [h1]
        by_cases h2 : x.jb = y.jb
        case neg =>
          have e2 : (x.jb != y.jb) = true := by simpa using h2
          have e2' : (x.jb == y.jb) = false := by simpa using h2
          have HF := Lib.hid (HN.out (fun e => h2 (by rw [e])))
          clear h0 h1 h2
          go_wp2_with fail
          go_quiet (fail)
          go_wp2_with fail
          go_ret
          exact ⟨ret_bool HF.out.symm, _, World.drewN_drewN _ _ _⟩
        have e2 : (x.jb != y.jb) = false := by simp [h2]
        have e2' : (x.jb == y.jb) = true := by simp [h2]
        by_cases h3 : x.ep = y.ep
        case neg =>
          have e3 : (x.ep != y.ep) = true := by simpa using h3
          have e3' : (x.ep == y.ep) = false := by simpa using h3
          have HF := Lib.hid (HN.out (fun e => h3 (by rw [e])))
          clear h0 h1 h2 h3
          go_wp2_with fail
          go_quiet (fail)
          go_wp2_with fail
          go_ret
          exact ⟨ret_bool HF.out.symm, _, World.drewN_drewN _ _ _⟩
        have e3 : (x.ep != y.ep) = false := by simp [h3]
        have e3' : (x.ep == y.ep) = true := by simp [h3]
        have HT : Hid (p.take (j + 1) = q.take (j + 1)) := by
          show _ = _
          rw [take_snoc_some HX.out, take_snoc_some HY.out, HTK.out, nt_ext h0 h1 h2 h3]
        clear h0 h1 h2 h3
        go_wp2_with fail
        go_quiet (fail)
        go_wp2_with fail
        exact ⟨⟨j + 1, _, by omega, by go_num, HT.out, rfl⟩, by simp [intOf]; omega⟩
      · have HE : Hid (decide (p = q) = true) := by
          show _ = _
          rw [decide_eq_true_iff]
          have := HTK.out
          rwa [List.take_of_length_le (by omega), List.take_of_length_le (by omega)] at this
        go_wp2_with fail
        go_ret
        exact ⟨ret_bool HE.out.symm, _, rfl⟩
  · have hne : ((p.length : Int) != (q.length : Int)) = true := by rw [bne_iff_ne]; omega
    have hne' : (p.length != q.length) = true := by rw [bne_iff_ne]; omega
    have HN : Hid (decide (p = q) = false) := by
      show _ = _
      rw [decide_eq_false_iff_not]
      intro e
      exact hlen (by rw [e])
    clear hlen
    go_enter Try.func34, Try.ntmps34
    go_wp2_with fail
    go_ret
    exact ⟨ret_bool HN.out.symm, 0, rfl⟩
theorem rtsame_t (A B : Option Addr) (n c d : Nat) (p : List Nt) (w : World) (h : Nts w A n p) (g : Nts w B n p) (hn : n ≤ maxLen) : Calls Try.prog 34 #[.slice A n c, .slice B n d] w (Ret (.bool true) w) := by
  have := rtsame_any A B n n c d p p w h g hn hn
  have e : decide (p = p) = true := by simp
  rw [e] at this
  exact this.mono fun e w h => Drew.below h
end Go.Proofs.Ytdamocjbkdknaaa.FleetW
