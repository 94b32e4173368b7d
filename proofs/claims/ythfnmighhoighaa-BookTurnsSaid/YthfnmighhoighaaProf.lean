/-
  Contracts of muster/profile: fits, in, Check.
-/
import Derived.Test.YthfnmighhoighaaRows
import Derived.Test.YthfnmighhoighaaProfPlain2
import Derived.Test.YthfnmighhoighaaOwnC
import Derived.Test.YthfnmighhoighaaCells
import Derived.WalkKit
import Derived.WalkSpells
import Derived.WalkLawsBesides
import Derived.RegionTactic
import Derived.Deep.QuietTactic
import Derived.BigQuiet
import Derived.LoopTactic
import Derived.Outline
import Derived.Deep.RegionLaw
import Derived.Deep.DeepCutAuto
import Derived.Deep.RegionHeld3
import Derived.IntWalk
namespace Go.Proofs.Ythfnmighhoighaa.ProfW
open Go.RowKit Mem Prof
set_option linter.unusedVariables false

/-- the call returns this value and changes nothing that was there -/
def Ret (r : Value) (w : World) (e : Ending) (w' : World) : Prop := e = .returned r ∧ Below w.heap.size w w'

theorem quiet_eq {P : Program} {f : FuncId} {args : Array Value} {w : World} {n : Nat} {v : Value} (h : Calls P f args (w.drewN n) fun e w' => e = .returned v ∧ w.drewN n = w') : Calls P f args (w.drewN n) fun e w'' => e = .returned v ∧ ∃ m, w'' = w.drewN m :=
  h.mono fun _ _ ⟨he, hm⟩ => ⟨he, n, hm.symm⟩

def stpRow (s : Stp) : List Value := [.int .i64 s.1, .int .i64 s.2]
abbrev Steps := Lst stpRow 2
theorem Lst.two {w : World} {A : Option Addr} {n : Nat} {p : List Stp} (h : Steps w A n p) {i : Nat} (hi : i < n) : ∃ b off s, A = some ⟨b, off, none⟩ ∧ b < w.heap.size ∧ p[i]? = some s ∧ w.cell? ⟨b, off + i * 2, none⟩ = some (.int .i64 s.1) ∧ w.cell? ⟨b, off + i * 2 + 1, none⟩ = some (.int .i64 s.2) := by
  obtain ⟨b, off, s, hA, hb, hs, hc⟩ := h.at_ hi
  exact ⟨b, off, s, hA, hb, hs, hc 0 _ rfl, hc 1 _ rfl⟩

def fitB (n : Int) : Bool := decide (-1000000 ≤ n) && decide (n ≤ 1000000)
theorem fitB_iff {n : Int} : fitB n = true ↔ -1000000 ≤ n ∧ n ≤ 1000000 := by simp [fitB]
theorem fits_any (n : Int) (w : World) : Calls Try.prog 71 #[.int .i64 n] w fun e w' => e = .returned (.bool (fitB n)) ∧ w = w' := by
  by_cases h1 : -1000000 ≤ n
  · go_enter Try.func71, Try.ntmps71
    go_wp2_with fail
    go_ret
    exact ⟨ret_bool (by simp [fitB, h1]), rfl⟩
  · have h2 : decide (-1000000 ≤ n) = false := by simpa using h1
    go_enter Try.func71, Try.ntmps71
    go_wp2_with fail
    go_ret
    exact ⟨ret_bool (by simp [fitB]; omega), rfl⟩
theorem in_any (n : Int) (w : World) : Calls Try.prog 65 #[.int .i64 n] w fun e w' => e = .returned (.bool (tickB n)) ∧ w = w' := by
  by_cases h1 : 0 ≤ n
  · go_enter Try.func65, Try.ntmps65
    go_wp2_with fail
    go_ret
    exact ⟨ret_bool (by simp [tickB, h1]), rfl⟩
  · have h2 : decide (0 ≤ n) = false := by simpa using h1
    go_enter Try.func65, Try.ntmps65
    go_wp2_with fail
    go_ret
    exact ⟨ret_bool (by simp [tickB]; omega), rfl⟩

def chkE (p : List Stp) : Int := if chkB p then 0 else 100
theorem chkE_yes {p : List Stp} (h : chkB p = true) : chkE p = 0 := by simp [chkE, h]
theorem chkE_no {p : List Stp} (h : chkB p = false) : chkE p = 100 := by simp [chkE, h]

theorem stepB_fit {p : List Stp} {k : Nat} {s : Stp} (h : p[k]? = some s) (hf : fitB s.2 = false) : stepB p k = false := by
  simp only [fitB] at hf
  simp only [stepB, h, hf, Bool.false_and]
theorem stepB_at {p : List Stp} {k : Nat} {s : Stp} (h : p[k]? = some s) (hf : 1000000 < s.1) : stepB p k = false := by
  have : decide (s.1 ≤ 1000000) = false := by simp; omega
  simp only [stepB, h, this, Bool.false_and, Bool.and_false]
theorem stepB_prev {p : List Stp} {k : Nat} {r s : Stp} (h : p[k]? = some s) (hr : p[k - 1]? = some r) (h0 : k ≠ 0) (hf : s.1 ≤ r.1 ∨ r.2 = s.2) : stepB p k = false := by
  have : (decide (r.1 < s.1) && decide (r.2 ≠ s.2)) = false := by simp; omega
  simp only [stepB, h, hr, this, h0, decide_false, Bool.false_or, Bool.and_false]
theorem stepB_yes {p : List Stp} {k : Nat} {s : Stp} (h : p[k]? = some s) (hf : fitB s.2 = true) (ha : s.1 ≤ 1000000) (hr : k = 0 ∨ ∃ r, p[k - 1]? = some r ∧ r.1 < s.1 ∧ r.2 ≠ s.2) : stepB p k = true := by
  simp only [fitB] at hf
  rcases hr with h0 | ⟨r, hr, h1, h2⟩
  · subst h0; simp [stepB, h, hf, ha]
  · simp [stepB, h, hf, ha, hr, h1, h2]
theorem all_lt {P : Nat → Prop} {k : Nat} (h : ∀ j, j < k → P j) (hk : P k) : ∀ j, j < k + 1 → P j := fun j hj => by
  rcases Nat.lt_or_ge j k with h' | h'
  · exact h j h'
  · obtain rfl : j = k := by omega
    exact hk
def ChkRel (w : World) (p : List Stp) (i : Value) (wr : World) : Prop := ∃ k : Nat, k ≤ p.length ∧ i = .int .i64 k ∧ (∀ j, j < k → stepB p j = true) ∧ Below w.heap.size w wr

set_option maxHeartbeats 2000000 in
set_option maxRecDepth 100000 in
theorem check_any (A : Option Addr) (n c : Nat) (p : List Stp) (w : World) (h : Steps w A n p) (hn : n ≤ maxLen) :
    Calls Try.prog 59 #[.slice A n c] w (Ret (.int .i64 (chkE p)) w) := by
  unfold maxLen at hn
  have hlen := h.len
  subst hlen
  by_cases h0 : p.length = 0
  · have hq : ((p.length : Int) == 0) = true := by simp [h0]
    have hq2 : (p.length == 0) = true := by simp [h0]
    have HC := Lib.hid (chkE_no (chkB_empty h0))
    clear h0 h
    go_enter Try.func59, Try.ntmps59
    go_wp2_with fail
    go_ret
    exact ⟨ret_int HC.out.symm, Below.refl _ _⟩
  · have hq : ((p.length : Int) == 0) = false := by rw [beq_eq_false_iff_ne]; omega
    have hq2 : (p.length == 0) = false := by rw [beq_eq_false_iff_ne]; omega
    by_cases h1 : 1000 < p.length
    · have HC := Lib.hid (chkE_no (chkB_long h1))
      clear h0 h
      go_enter Try.func59, Try.ntmps59
      go_wp2_with fail
      go_ret
      exact ⟨ret_int HC.out.symm, Below.refl _ _⟩
    · have hpos : 0 < p.length := by omega
      obtain ⟨b, off, s0, rfl, hb, hs0, c0, c1⟩ := Lst.two h hpos
      rw [Nat.zero_mul, Nat.add_zero] at c0
      by_cases hz : s0.1 = 0
      · have hqz : (s0.1 != 0) = false := by simp [hz]
        have HS0 := Lib.hid hs0
        have HZ := Lib.hid hz
        have hle : p.length ≤ 1000 := by omega
        clear h0 h1 hs0 hz
        go_enter Try.func59, Try.ntmps59
        go_wp2_with fail
        go_loopw [22] (fun i wr => ChkRel w p i wr) (fun i _ => p.length - (intOf i).toNat)
        case atStart => exact ⟨0, by omega, rfl, by omega, Below.refl _ _⟩
        case round =>
          obtain ⟨k, hk, rfl, hall, hbel⟩ := hrel
          have HAll := Lib.hid hall
          clear hall c0 c1
          by_cases hlt : k < p.length
          · obtain ⟨b', off', s, e, hb', hs, d0, d1⟩ := Lst.two (Lst.below h hbel) hlt
            injection e with e
            injection e with e1 e2
            subst e1 e2
            have HS := Lib.hid hs
            clear hs
            by_cases hk0 : k = 0
            · have hk1 : decide (0 < k) = false := by simp [hk0]
              have hk2 : ¬ 0 < k := by omega
              have HK := Lib.hid hk0
              clear hk0
              cases hf : fitB s.2
              · have HC := Lib.hid (chkE_no (chkB_bad hlt (stepB_fit HS.out hf)))
                go_wp2_with fail
                go_quiet ((go_at_call 71; exact quiet_eq (fits_any _ _)))
                go_wp2_with fail
                go_ret
                exact ⟨ret_int HC.out.symm, below_drewN (hbel.alloc hbel.size _) _⟩
              · by_cases ha : s.1 ≤ 1000000
                · have ha1 : decide (1000000 < s.1) = false := by simpa using ha
                  have HG := Lib.hid (stepB_yes HS.out hf ha (.inl HK.out))
                  go_wp2_with fail
                  go_quiet ((go_at_call 71; exact quiet_eq (fits_any _ _)))
                  go_wp2_with fail
                  exact ⟨⟨k + 1, by omega, by go_num, all_lt HAll.out HG.out, below_drewN (hbel.alloc hbel.size _) _⟩, by simp [intOf]; omega⟩
                · have ha1 : decide (1000000 < s.1) = true := by simp; omega
                  have HC := Lib.hid (chkE_no (chkB_bad hlt (stepB_at HS.out (by omega))))
                  go_wp2_with fail
                  go_quiet ((go_at_call 71; exact quiet_eq (fits_any _ _)))
                  go_wp2_with fail
                  go_ret
                  exact ⟨ret_int HC.out.symm, below_drewN (hbel.alloc hbel.size _) _⟩
            · have hk1 : decide (0 < k) = true := by simp; omega
              have hk2 : 0 < k := by omega
              obtain ⟨b', off', r, e, _, hr, f0, f1⟩ := Lst.two (Lst.below h hbel) (show k - 1 < p.length by omega)
              injection e with e
              injection e with e1 e2
              subst e1 e2
              have HR := Lib.hid hr
              have hw1 : IntKind.i64.wrap ((k : Int) - 1) = (k : Int) - 1 := IntWalk.i64_in _ (by omega)
              have hw2 : (0 : Int) ≤ (k : Int) - 1 := by omega
              have hw3 : (1 : Int) ≤ (k : Int) := by omega
              have hw4 : ((k : Int) - 1).toNat = k - 1 := by omega
              have hw5 : (k : Int) - 1 < (p.length : Int) := by omega
              have HK := Lib.hid hk0
              clear hk0 hr
              cases hf : fitB s.2
              · have HC := Lib.hid (chkE_no (chkB_bad hlt (stepB_fit HS.out hf)))
                go_wp2_with fail
                go_quiet ((go_at_call 71; exact quiet_eq (fits_any _ _)))
                go_wp2_with fail
                go_ret
                exact ⟨ret_int HC.out.symm, below_drewN (hbel.alloc hbel.size _) _⟩
              · by_cases ha : s.1 ≤ 1000000
                · have ha1 : decide (1000000 < s.1) = false := by simpa using ha
                  by_cases hu : s.1 ≤ r.1
                  · have hu1 : decide (s.1 ≤ r.1) = true := by simpa using hu
                    have HC := Lib.hid (chkE_no (chkB_bad hlt (stepB_prev HS.out HR.out HK.out (.inl hu))))
                    go_wp2_with fail
                    go_quiet ((go_at_call 71; exact quiet_eq (fits_any _ _)))
                    go_wp2_with fail
                    go_ret
                    exact ⟨ret_int HC.out.symm, below_drewN (hbel.alloc hbel.size _) _⟩
                  · have hu1 : decide (s.1 ≤ r.1) = false := by simpa using hu
                    by_cases hv : s.2 = r.2
                    · have hv1 : (s.2 == r.2) = true := by simpa using hv
                      have HV := Lib.hid hv
                      clear hv
                      have HC := Lib.hid (chkE_no (chkB_bad hlt (stepB_prev HS.out HR.out HK.out (.inr HV.out.symm))))
                      go_wp2_with fail
                      go_quiet ((go_at_call 71; exact quiet_eq (fits_any _ _)))
                      go_wp2_with fail
                      go_ret
                      exact ⟨ret_int HC.out.symm, below_drewN (hbel.alloc hbel.size _) _⟩
                    · have hv1 : (s.2 == r.2) = false := by simpa using hv
                      have HG := Lib.hid (stepB_yes HS.out hf ha (.inr ⟨r, HR.out, by omega, fun e => hv e.symm⟩))
                      go_wp2_with fail
                      go_quiet ((go_at_call 71; exact quiet_eq (fits_any _ _)))
                      go_wp2_with fail
                      exact ⟨⟨k + 1, by omega, by go_num, all_lt HAll.out HG.out, below_drewN (hbel.alloc hbel.size _) _⟩, by simp [intOf]; omega⟩
                · have ha1 : decide (1000000 < s.1) = true := by simp; omega
                  have HC := Lib.hid (chkE_no (chkB_bad hlt (stepB_at HS.out (by omega))))
                  go_wp2_with fail
                  go_quiet ((go_at_call 71; exact quiet_eq (fits_any _ _)))
                  go_wp2_with fail
                  go_ret
                  exact ⟨ret_int HC.out.symm, below_drewN (hbel.alloc hbel.size _) _⟩
          · have HC := Lib.hid (chkE_yes (chkB_good hle HS0.out HZ.out (fun i hi => HAll.out i (by omega))))
            go_wp2_with fail
            go_ret
            exact ⟨ret_int HC.out.symm, hbel⟩
      · have hqz : (s0.1 != 0) = true := by simpa using hz
        have HC := Lib.hid (chkE_no (chkB_head hs0 hz))
        clear h0 h hs0 hz
        go_enter Try.func59, Try.ntmps59
        go_wp2_with fail
        go_ret
        exact ⟨ret_int HC.out.symm, Below.refl _ _⟩
end Go.Proofs.Ythfnmighhoighaa.ProfW
