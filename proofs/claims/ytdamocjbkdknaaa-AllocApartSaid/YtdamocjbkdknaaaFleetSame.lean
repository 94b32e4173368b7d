/-
  Contracts: slices.Equal at nodes, fleet.Same, musterref12.Same; Few.
-/
import Derived.Test.YtdamocjbkdknaaaFleetCheck
namespace Go.Proofs.Ytdamocjbkdknaaa.FleetW
open Go.RowKit Mem Fleet
set_option linter.unusedVariables false
set_option linter.unusedSimpArgs false
set_option linter.unnecessarySimpa false

theorem nd_ext {x y : Nd} (h0 : x.st = y.st) (h1 : x.jb = y.jb) (h2 : x.ep = y.ep) (h3 : x.dr = y.dr) (h4 : x.wt = y.wt) (h5 : x.si = y.si) (h6 : x.ak = y.ak) : x = y := by
  cases x; cases y; simp_all
set_option maxHeartbeats 4000000 in
set_option maxRecDepth 100000 in
theorem nequal_any (A B : Option Addr) (n m c d : Nat) (p q : List Nd) (w : World) (h : Nds w A n p) (g : Nds w B m q) (hn : n ≤ maxLen) (hm : m ≤ maxLen) :
    Calls Try.prog 59 #[.slice A n c, .slice B m d] w (Drew (.bool (decide (p = q))) w) := by
  unfold maxLen at hn hm
  have hl := h.len
  have hk := g.len
  subst hl hk
  by_cases hlen : p.length = q.length
  · have hne : ((p.length : Int) != (q.length : Int)) = false := by simp [hlen]
    have hne' : (p.length != q.length) = false := by simp [hlen]
    have HL := Lib.hid hlen
    have hle : p.length ≤ q.length := by omega
    have hle' : q.length ≤ p.length := by omega
    clear hlen
    go_enter Try.func59, Try.ntmps59
    go_wp2_with fail
    go_loopw [13] (fun i wr => ∃ k d : Nat, k ≤ p.length ∧ i = .int .i64 k ∧ p.take k = q.take k ∧ wr = w.drewN d) (fun i _ => p.length - (intOf i).toNat)
    case atStart => exact ⟨0, 0, by omega, rfl, by simp, rfl⟩
    case round =>
      obtain ⟨j, dd, hj, rfl, htk, rfl⟩ := hrel
      have HTK := Lib.hid htk
      clear htk
      by_cases hlt : j < p.length
      · obtain ⟨b1, o1, x, rfl, _, hx, c0, c1, c2, c3, c4, c5, c6⟩ := Lst.seven h hlt
        obtain ⟨b2, o2, y, rfl, _, hy, d0, d1, d2, d3, d4, d5, d6⟩ := Lst.seven g (show j < q.length by omega)
        have HX := Lib.hid hx
        have HY := Lib.hid hy
        have HN : Hid (x ≠ y → decide (p = q) = false) := by
          show _ → _
          intro hxy
          rw [decide_eq_false_iff_not]
          intro e
          rw [e, HY.out] at HX
          have := HX.out
          injection this with this
          exact hxy this.symm
        clear hx hy h g
        by_cases h0 : x.st = y.st
        case neg =>
          have e0 : (x.st != y.st) = true := by simpa using h0
          have e0' : (x.st == y.st) = false := by simpa using h0
          have HF := Lib.hid (HN.out (fun e => h0 (by rw [e])))
          clear h0
          go_wp2_with fail
          go_quiet (fail)
          go_wp2_with fail
          go_ret
          exact ⟨ret_bool HF.out.symm, _, World.drewN_drewN _ _ _⟩
        have e0 : (x.st != y.st) = false := by simp [h0]
        have e0' : (x.st == y.st) = true := by simp [h0]
        by_cases h1 : x.jb = y.jb
        case neg =>
          have e1 : (x.jb != y.jb) = true := by simpa using h1
          have e1' : (x.jb == y.jb) = false := by simpa using h1
          have HF := Lib.hid (HN.out (fun e => h1 (by rw [e])))
          clear h0 h1
          go_wp2_with fail
          go_quiet (fail)
          go_wp2_with fail
          go_ret
          exact ⟨ret_bool HF.out.symm, _, World.drewN_drewN _ _ _⟩
        have e1 : (x.jb != y.jb) = false := by simp [h1]
        have e1' : (x.jb == y.jb) = true := by simp [h1]
        by_cases h2 : x.ep = y.ep
        case neg =>
          have e2 : (x.ep != y.ep) = true := by simpa using h2
          have e2' : (x.ep == y.ep) = false := by simpa using h2
          have HF := Lib.hid (HN.out (fun e => h2 (by rw [e])))
          clear h0 h1 h2
          go_wp2_with fail
          go_quiet (fail)
          go_wp2_with fail
          go_ret
          exact ⟨ret_bool HF.out.symm, _, World.drewN_drewN _ _ _⟩
        have e2 : (x.ep != y.ep) = false := by simp [h2]
        have e2' : (x.ep == y.ep) = true := by simp [h2]
        by_cases h3 : x.dr = y.dr
        case neg =>
          have e3 : (x.dr != y.dr) = true := by simpa using h3
          have e3' : (x.dr == y.dr) = false := by simpa using h3
          have HF := Lib.hid (HN.out (fun e => h3 (by rw [e])))
          clear h0 h1 h2 h3
          go_wp2_with fail
          go_quiet (fail)
          go_wp2_with fail
          go_ret
          exact ⟨ret_bool HF.out.symm, _, World.drewN_drewN _ _ _⟩
        have e3 : (x.dr != y.dr) = false := by simp [h3]
        have e3' : (x.dr == y.dr) = true := by simp [h3]
        by_cases h4 : x.wt = y.wt
        case neg =>
          have e4 : (x.wt != y.wt) = true := by simpa using h4
          have e4' : (x.wt == y.wt) = false := by simpa using h4
          have HF := Lib.hid (HN.out (fun e => h4 (by rw [e])))
          clear h0 h1 h2 h3 h4
          go_wp2_with fail
          go_quiet (fail)
          go_wp2_with fail
          go_ret
          exact ⟨ret_bool HF.out.symm, _, World.drewN_drewN _ _ _⟩
        have e4 : (x.wt != y.wt) = false := by simp [h4]
        have e4' : (x.wt == y.wt) = true := by simp [h4]
        by_cases h5 : x.si = y.si
        case neg =>
          have e5 : (x.si != y.si) = true := by simpa using h5
          have e5' : (x.si == y.si) = false := by simpa using h5
          have HF := Lib.hid (HN.out (fun e => h5 (by rw [e])))
          clear h0 h1 h2 h3 h4 h5
          go_wp2_with fail
          go_quiet (fail)
          go_wp2_with fail
          go_ret
          exact ⟨ret_bool HF.out.symm, _, World.drewN_drewN _ _ _⟩
        have e5 : (x.si != y.si) = false := by simp [h5]
        have e5' : (x.si == y.si) = true := by simp [h5]
        by_cases h6 : x.ak = y.ak
        case neg =>
          have e6 : (x.ak != y.ak) = true := by simpa using h6
          have e6' : (x.ak == y.ak) = false := by simpa using h6
          have HF := Lib.hid (HN.out (fun e => h6 (by rw [e])))
          clear h0 h1 h2 h3 h4 h5 h6
          go_wp2_with fail
          go_quiet (fail)
          go_wp2_with fail
          go_ret
          exact ⟨ret_bool HF.out.symm, _, World.drewN_drewN _ _ _⟩
        have e6 : (x.ak != y.ak) = false := by simp [h6]
        have e6' : (x.ak == y.ak) = true := by simp [h6]
        have HT : Hid (p.take (j + 1) = q.take (j + 1)) := by
          show _ = _
          rw [take_snoc_some HX.out, take_snoc_some HY.out, HTK.out, nd_ext h0 h1 h2 h3 h4 h5 h6]
        clear h0 h1 h2 h3 h4 h5 h6
        go_wp2_with fail
        go_quiet (fail)
        go_wp2_with fail
        exact ⟨⟨j + 1, _, by omega, by go_num, HT.out, rfl⟩, by simp [intOf]; omega⟩
      · have HE : Hid (decide (p = q) = true) := by
          show _ = _
          rw [decide_eq_true_iff]
          have := HTK.out
          rwa [List.take_of_length_le (by omega), List.take_of_length_le (by omega)] at this
        go_wp2_with fail
        go_ret
        exact ⟨ret_bool HE.out.symm, _, rfl⟩
  · have hne : ((p.length : Int) != (q.length : Int)) = true := by rw [bne_iff_ne]; omega
    have hne' : (p.length != q.length) = true := by rw [bne_iff_ne]; omega
    have HN : Hid (decide (p = q) = false) := by
      show _ = _
      rw [decide_eq_false_iff_not]
      intro e
      exact hlen (by rw [e])
    clear hlen
    go_enter Try.func59, Try.ntmps59
    go_wp2_with fail
    go_ret
    exact ⟨ret_bool HN.out.symm, 0, rfl⟩
set_option maxHeartbeats 4000000 in
set_option maxRecDepth 100000 in
theorem rnsame_any (A B : Option Addr) (n m c d : Nat) (p q : List Nd) (w : World) (h : Nds w A n p) (g : Nds w B m q) (hn : n ≤ maxLen) (hm : m ≤ maxLen) :
    Calls Try.prog 18 #[.slice A n c, .slice B m d] w (Drew (.bool (decide (p = q))) w) := by
  unfold maxLen at hn hm
  have hl := h.len
  have hk := g.len
  subst hl hk
  by_cases hlen : p.length = q.length
  · have hne : ((p.length : Int) != (q.length : Int)) = false := by simp [hlen]
    have hne' : (p.length != q.length) = false := by simp [hlen]
    have HL := Lib.hid hlen
    have hle : p.length ≤ q.length := by omega
    have hle' : q.length ≤ p.length := by omega
    clear hlen
    go_enter Try.func18, Try.ntmps18
    go_wp2_with fail
    go_loopw [5] (fun i wr => ∃ k d : Nat, k ≤ p.length ∧ i = .int .i64 k ∧ p.take k = q.take k ∧ wr = w.drewN d) (fun i _ => p.length - (intOf i).toNat)
    case atStart => exact ⟨0, 0, by omega, rfl, by simp, rfl⟩
    case round =>
      obtain ⟨j, dd, hj, rfl, htk, rfl⟩ := hrel
      have HTK := Lib.hid htk
      clear htk
      by_cases hlt : j < p.length
      · obtain ⟨b1, o1, x, rfl, _, hx, c0, c1, c2, c3, c4, c5, c6⟩ := Lst.seven h hlt
        obtain ⟨b2, o2, y, rfl, _, hy, d0, d1, d2, d3, d4, d5, d6⟩ := Lst.seven g (show j < q.length by omega)
        have HX := Lib.hid hx
        have HY := Lib.hid hy
        have HN : Hid (x ≠ y → decide (p = q) = false) := by
          show _ → _
          intro hxy
          rw [decide_eq_false_iff_not]
          intro e
          rw [e, HY.out] at HX
          have := HX.out
          injection this with this
          exact hxy this.symm
        clear hx hy h g
        by_cases h0 : x.st = y.st
        case neg =>
          have e0 : (x.st != y.st) = true := by simpa using h0
          have e0' : (x.st == y.st) = false := by simpa using h0
          have HF := Lib.hid (HN.out (fun e => h0 (by rw [e])))
          clear h0
          go_wp2_with fail
          go_quiet (fail)
          go_wp2_with fail
          go_ret
          exact ⟨ret_bool HF.out.symm, _, World.drewN_drewN _ _ _⟩
        have e0 : (x.st != y.st) = false := by simp [h0]
        have e0' : (x.st == y.st) = true := by simp [h0]
        by_cases h1 : x.jb = y.jb
        case neg =>
          have e1 : (x.jb != y.jb) = true := by simpa using h1
          have e1' : (x.jb == y.jb) = false := by simpa using h1
          have HF := Lib.hid (HN.out (fun e => h1 (by rw [e])))
          clear h0 h1
          go_wp2_with fail
          go_quiet (fail)
          go_wp2_with fail
          go_ret
          exact ⟨ret_bool HF.out.symm, _, World.drewN_drewN _ _ _⟩
        have e1 : (x.jb != y.jb) = false := by simp [h1]
        have e1' : (x.jb == y.jb) = true := by simp [h1]
        by_cases h2 : x.ep = y.ep
        case neg =>
          have e2 : (x.ep != y.ep) = true := by simpa using h2
          have e2' : (x.ep == y.ep) = false := by simpa using h2
          have HF := Lib.hid (HN.out (fun e => h2 (by rw [e])))
          clear h0 h1 h2
          go_wp2_with fail
          go_quiet (fail)
          go_wp2_with fail
          go_ret
          exact ⟨ret_bool HF.out.symm, _, World.drewN_drewN _ _ _⟩
        have e2 : (x.ep != y.ep) = false := by simp [h2]
        have e2' : (x.ep == y.ep) = true := by simp [h2]
        by_cases h3 : x.dr = y.dr
        case neg =>
          have e3 : (x.dr != y.dr) = true := by simpa using h3
          have e3' : (x.dr == y.dr) = false := by simpa using h3
          have HF := Lib.hid (HN.out (fun e => h3 (by rw [e])))
          clear h0 h1 h2 h3
          go_wp2_with fail
          go_quiet (fail)
          go_wp2_with fail
          go_ret
          exact ⟨ret_bool HF.out.symm, _, World.drewN_drewN _ _ _⟩
        have e3 : (x.dr != y.dr) = false := by simp [h3]
        have e3' : (x.dr == y.dr) = true := by simp [h3]
        by_cases h4 : x.wt = y.wt
        case neg =>
          have e4 : (x.wt != y.wt) = true := by simpa using h4
          have e4' : (x.wt == y.wt) = false := by simpa using h4
          have HF := Lib.hid (HN.out (fun e => h4 (by rw [e])))
          clear h0 h1 h2 h3 h4
          go_wp2_with fail
          go_quiet (fail)
          go_wp2_with fail
          go_ret
          exact ⟨ret_bool HF.out.symm, _, World.drewN_drewN _ _ _⟩
        have e4 : (x.wt != y.wt) = false := by simp [h4]
        have e4' : (x.wt == y.wt) = true := by simp [h4]
        by_cases h5 : x.si = y.si
        case neg =>
          have e5 : (x.si != y.si) = true := by simpa using h5
          have e5' : (x.si == y.si) = false := by simpa using h5
          have HF := Lib.hid (HN.out (fun e => h5 (by rw [e])))
          clear h0 h1 h2 h3 h4 h5
          go_wp2_with fail
          go_quiet (fail)
          go_wp2_with fail
          go_ret
          exact ⟨ret_bool HF.out.symm, _, World.drewN_drewN _ _ _⟩
        have e5 : (x.si != y.si) = false := by simp [h5]
        have e5' : (x.si == y.si) = true := by simp [h5]
        by_cases h6 : x.ak = y.ak
        case neg =>
          have e6 : (x.ak != y.ak) = true := by simpa using h6
          have e6' : (x.ak == y.ak) = false := by simpa using h6
          have HF := Lib.hid (HN.out (fun e => h6 (by rw [e])))
          clear h0 h1 h2 h3 h4 h5 h6
          go_wp2_with fail
          go_quiet (fail)
          go_wp2_with fail
          go_ret
          exact ⟨ret_bool HF.out.symm, _, World.drewN_drewN _ _ _⟩
        have e6 : (x.ak != y.ak) = false := by simp [h6]
        have e6' : (x.ak == y.ak) = true := by simp [h6]
        have HT : Hid (p.take (j + 1) = q.take (j + 1)) := by
          show _ = _
          rw [take_snoc_some HX.out, take_snoc_some HY.out, HTK.out, nd_ext h0 h1 h2 h3 h4 h5 h6]
        clear h0 h1 h2 h3 h4 h5 h6
        go_wp2_with fail
        go_quiet (fail)
        go_wp2_with fail
        exact ⟨⟨j + 1, _, by omega, by go_num, HT.out, rfl⟩, by simp [intOf]; omega⟩
      · have HE : Hid (decide (p = q) = true) := by
          show _ = _
          rw [decide_eq_true_iff]
          have := HTK.out
          rwa [List.take_of_length_le (by omega), List.take_of_length_le (by omega)] at this
        go_wp2_with fail
        go_ret
        exact ⟨ret_bool HE.out.symm, _, rfl⟩
  · have hne : ((p.length : Int) != (q.length : Int)) = true := by rw [bne_iff_ne]; omega
    have hne' : (p.length != q.length) = true := by rw [bne_iff_ne]; omega
    have HN : Hid (decide (p = q) = false) := by
      show _ = _
      rw [decide_eq_false_iff_not]
      intro e
      exact hlen (by rw [e])
    clear hlen
    go_enter Try.func18, Try.ntmps18
    go_wp2_with fail
    go_ret
    exact ⟨ret_bool HN.out.symm, 0, rfl⟩
theorem nsame_any (A B : Option Addr) (n m c d : Nat) (p q : List Nd) (w : World) (h : Nds w A n p) (g : Nds w B m q) (hn : n ≤ maxLen) (hm : m ≤ maxLen) :
    Calls Try.prog 29 #[.slice A n c, .slice B m d] w (Drew (.bool (decide (p = q))) w) := by
  have HE := Lib.hid (nequal_any A B n m c d p q w h g hn hm)
  clear h g
  go_enter Try.func29, Try.ntmps29
  go_wp2_with fail
  refine HE.out.mono ?_
  rintro e w1 ⟨rfl, dr, rfl⟩
  go_wp2_with fail
  go_ret
  exact ⟨rfl, _, rfl⟩
theorem nfew_any (A : Option Addr) (n c : Nat) (w : World) : Calls Try.prog 12 #[.slice A n c] w fun e w' => e = .returned (.bool (decide ((n : Int) ≤ 100))) ∧ w = w' := by
  go_enter Try.func12, Try.ntmps12
  go_wp2_with fail
  go_ret
  exact ⟨rfl, rfl⟩
theorem nfew_is (r : Bool) (A : Option Addr) (n c : Nat) (w : World) (h : decide ((n : Int) ≤ 100) = r) : Calls Try.prog 12 #[.slice A n c] w fun e w' => e = .returned (.bool r) ∧ w = w' := by rw [← h]; exact nfew_any A n c w
theorem rnsame_t (A B : Option Addr) (n c d : Nat) (p : List Nd) (w : World) (h : Nds w A n p) (g : Nds w B n p) (hn : n ≤ maxLen) : Calls Try.prog 18 #[.slice A n c, .slice B n d] w (Ret (.bool true) w) := by
  have := rnsame_any A B n n c d p p w h g hn hn
  have e : decide (p = p) = true := by simp
  rw [e] at this
  exact this.mono fun e w h => Drew.below h
end Go.Proofs.Ytdamocjbkdknaaa.FleetW
