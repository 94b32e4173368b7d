/-
  Contracts of muster/profile: slices.Clone, slices.Equal at steps, Same, Flat, the closure of Add.
-/
import Derived.Test.YtmjjbodglbdadaaProf2
import Derived.Test.YtmjjbodglbdadaaSlices
namespace Go.Proofs.Ytmjjbodglbdadaa.ProfW
open Go.RowKit Mem Prof
set_option linter.unusedVariables false

theorem layS : Lay stpRow 2 := ⟨fun _ => rfl, fun x u hu => by simp [stpRow] at hu; rcases hu with rfl | rfl <;> rfl, by omega⟩
abbrev StepsO := SOwn stpRow 2
theorem stepInfo : (Try.prog.info? 43).map (fun i => (i.zero, i.size, i.bytes)) = some (some (.agg #[.int .i64 0, .int .i64 0]), 2, 16) := by kernel_rfl
/-- a slice of steps, made new -/
def NewS (l : List Stp) (w : World) (e : Ending) (w' : World) : Prop := ∃ A c, e = .returned (.slice A l.length c) ∧ StepsO w' w.heap.size A l.length c l ∧ Below w.heap.size w w'

set_option maxHeartbeats 1000000 in
theorem clone_any (A : Option Addr) (n c : Nat) (p : List Stp) (w : World) (h : Steps w A n p) (hn : n ≤ 1000000) (hA : A = none → c = 0) :
    Calls Try.prog 39 #[.slice A n c] w (NewS p w) := by
  have hl := h.len
  subst hl
  cases A with
  | none =>
    have hp : p = [] := by
      cases p with
      | nil => rfl
      | cons x r => obtain ⟨b, off, _, e, _⟩ := h.at_ (i := 0) (by simp); cases e
    subst hp
    obtain rfl := hA rfl
    clear h hA hn
    have hnil := fun (w : World) => Lib.run_eql_slice_nil (P := Try.prog) w 22 43 none 0 0 0 0 Try.underlying22
    go_enter Try.func39, Try.ntmps39
    go_wp2_with fail
    go_ret
    exact ⟨none, 0, rfl, SOwn.nil _ _ _ _, Below.refl _ _⟩
  | some a =>
    obtain ⟨A', c', W', hrun, hown, hb, _, _⟩ := app_s layS (P := Try.prog) (w.alloc (.cells #[] 43)) w.heap.size 22 22 43 _ 16 Try.underlying22 stepInfo rfl (some ⟨w.heap.size, 0, none⟩) 0 0 [] (SOwn.none _ _ _ _ _) (some a) p.length c p (h.below ((Below.refl _ _).alloc (Nat.le_refl _) _)) (by simp [maxLen]; omega) (by omega) (by simp)
    simp only [Nat.zero_add, List.nil_append] at hrun hown
    have HR := Lib.hid hrun
    have hb2 := ((Below.refl w.heap.size w).alloc (Nat.le_refl _) (.cells #[] 43)).trans hb
    clear hrun hb h
    have hnil := fun (w : World) => Lib.run_eql_slice_nil (P := Try.prog) w 22 43 (some a) p.length c 0 0 Try.underlying22
    simp only [Option.isNone_some] at hnil
    go_enter Try.func39, Try.ntmps39
    go_wp2_with (at_builtin; refine wpList_app2 rfl _ _ rfl rfl rfl HR.out ?_)
    go_ret
    exact ⟨A', c', rfl, hown, hb2⟩

set_option maxHeartbeats 1000000 in
set_option maxRecDepth 100000 in
theorem equal_any (A B : Option Addr) (n m c d : Nat) (p q : List Stp) (w : World) (h : Steps w A n p) (g : Steps w B m q) (hn : n ≤ maxLen) (hm : m ≤ maxLen) :
    Calls Try.prog 42 #[.slice A n c, .slice B m d] w (Drew (.bool (decide (p = q))) w) := by
  unfold maxLen at hn hm
  have hl := h.len
  have hk := g.len
  subst hl hk
  by_cases hlen : p.length = q.length
  · have hne : ((p.length : Int) != (q.length : Int)) = false := by simp [hlen]
    have hne' : (p.length != q.length) = false := by simp [hlen]
    have HL := Lib.hid hlen
    have hle : p.length ≤ q.length := by omega
    have hle' : q.length ≤ p.length := by omega
    clear hlen
    go_enter Try.func42, Try.ntmps42
    go_wp2_with fail
    go_loopw [13] (fun i wr => ∃ k d : Nat, k ≤ p.length ∧ i = .int .i64 k ∧ p.take k = q.take k ∧ wr = w.drewN d) (fun i _ => p.length - (intOf i).toNat)
    case atStart => exact ⟨0, 0, by omega, rfl, by simp, rfl⟩
    case round =>
      obtain ⟨j, dd, hj, rfl, htk, rfl⟩ := hrel
      have HTK := Lib.hid htk
      clear htk
      by_cases hlt : j < p.length
      · obtain ⟨b1, o1, x, rfl, _, hx, c0, c1⟩ := Lst.two h hlt
        obtain ⟨b2, o2, y, rfl, _, hy, d0, d1⟩ := Lst.two g (show j < q.length by omega)
        have HX := Lib.hid hx
        have HY := Lib.hid hy
        clear hx hy h g
        by_cases h1 : x.1 = y.1
        · have e1 : (x.1 != y.1) = false := by simp [h1]
          have e1' : (x.1 == y.1) = true := by simp [h1]
          by_cases h2 : x.2 = y.2
          · have e2 : (x.2 != y.2) = false := by simp [h2]
            have e2' : (x.2 == y.2) = true := by simp [h2]
            have HT : Hid (p.take (j + 1) = q.take (j + 1)) := by
              show _ = _
              rw [take_snoc_some HX.out, take_snoc_some HY.out, HTK.out, Prod.ext h1 h2]
            clear h1 h2
            go_wp2_with fail
            go_quiet (fail)
            go_wp2_with fail
            exact ⟨⟨j + 1, _, by omega, by go_num, HT.out, rfl⟩, by simp [intOf]; omega⟩
          · have e2 : (x.2 != y.2) = true := by simpa using h2
            have e2' : (x.2 == y.2) = false := by simpa using h2
            have HN : Hid (decide (p = q) = false) := by
              show _ = _
              rw [decide_eq_false_iff_not]
              intro e
              rw [e, HY.out] at HX
              have := HX.out
              injection this with this
              exact h2 (by rw [this])
            clear h1 h2
            go_wp2_with fail
            go_quiet (fail)
            go_wp2_with fail
            go_ret
            exact ⟨ret_bool HN.out.symm, _, World.drewN_drewN _ _ _⟩
        · have e1 : (x.1 != y.1) = true := by simpa using h1
          have e1' : (x.1 == y.1) = false := by simpa using h1
          have HN : Hid (decide (p = q) = false) := by
            show _ = _
            rw [decide_eq_false_iff_not]
            intro e
            rw [e, HY.out] at HX
            have := HX.out
            injection this with this
            exact h1 (by rw [this])
          clear h1
          go_wp2_with fail
          go_quiet (fail)
          go_wp2_with fail
          go_ret
          exact ⟨ret_bool HN.out.symm, _, World.drewN_drewN _ _ _⟩
      · have HE : Hid (decide (p = q) = true) := by
          show _ = _
          rw [decide_eq_true_iff]
          have := HTK.out
          rwa [List.take_of_length_le (by omega), List.take_of_length_le (by omega)] at this
        go_wp2_with fail
        go_ret
        exact ⟨ret_bool HE.out.symm, _, rfl⟩
  · have hne : ((p.length : Int) != (q.length : Int)) = true := by rw [bne_iff_ne]; omega
    have hne' : (p.length != q.length) = true := by rw [bne_iff_ne]; omega
    have HN : Hid (decide (p = q) = false) := by
      show _ = _
      rw [decide_eq_false_iff_not]
      intro e
      exact hlen (by rw [e])
    clear hlen
    go_enter Try.func42, Try.ntmps42
    go_wp2_with fail
    go_ret
    exact ⟨ret_bool HN.out.symm, 0, rfl⟩
theorem psame_any (A B : Option Addr) (n m c d : Nat) (p q : List Stp) (w : World) (h : Steps w A n p) (g : Steps w B m q) (hn : n ≤ maxLen) (hm : m ≤ maxLen) :
    Calls Try.prog 25 #[.slice A n c, .slice B m d] w (Drew (.bool (decide (p = q))) w) := by
  have HE := Lib.hid (equal_any A B n m c d p q w h g hn hm)
  clear h g
  go_enter Try.func25, Try.ntmps25
  go_wp2_with fail
  refine HE.out.mono ?_
  rintro e w1 ⟨rfl, dr, rfl⟩
  go_wp2_with fail
  go_ret
  exact ⟨rfl, dr, rfl⟩
def clampT (n : Int) : Int := if n < -1000000 then -1000000 else if 1000000 < n then 1000000 else n
theorem flat_new (n : Int) (w : World) : NewS [(0, clampT n)] w (.returned (.slice (some ⟨w.heap.size, 0, none⟩) 1 1)) (w.alloc (.cells #[.int .i64 0, .int .i64 (clampT n)] 43)) := by
  refine ⟨_, 1, rfl, ⟨rfl, ?_⟩, (Below.refl _ _).alloc (Nat.le_refl _) _⟩
  exact OwnC.of_new w w.heap.size 2 _ #[.int .i64 0, .int .i64 (clampT n)] 1 (Nat.le_refl _) (by simp [maxLen]) (by simp)
set_option maxHeartbeats 1000000 in
theorem flat_any (n : Int) (w : World) : Calls Try.prog 21 #[.int .i64 n] w (NewS [(0, clampT n)] w) := by
  by_cases h1 : n < -1000000
  · have HC : Hid (clampT n = -1000000) := by show _ = _; rw [clampT, if_pos h1]
    have HN := flat_new n w
    rw [HC.out] at HN ⊢
    have HN2 := Lib.hid HN
    clear HN
    go_enter Try.func21, Try.ntmps21
    go_wp2_with fail
    go_ret
    exact HN2.out
  · by_cases h2 : 1000000 < n
    · have HC : Hid (clampT n = 1000000) := by show _ = _; rw [clampT, if_neg h1, if_pos h2]
      have HN := flat_new n w
      rw [HC.out] at HN ⊢
      have HN2 := Lib.hid HN
      clear HN
      go_enter Try.func21, Try.ntmps21
      go_wp2_with fail
      go_ret
      exact HN2.out
    · have HC : Hid (clampT n = n) := by show _ = _; rw [clampT, if_neg h1, if_neg h2]
      have HN := flat_new n w
      rw [HC.out] at HN ⊢
      have HN2 := Lib.hid HN
      clear HN
      go_enter Try.func21, Try.ntmps21
      go_wp2_with fail
      go_ret
      exact HN2.out
end Go.Proofs.Ytmjjbodglbdadaa.ProfW
