/-
  Contracts: shape.Check, musterlaw07.Few.
-/
import Derived.Test.YthfnmighhoighaaShape
namespace Go.Proofs.Ythfnmighhoighaa.ShapeW
open Go.RowKit Mem Shape
set_option linter.unusedVariables false
set_option linter.unusedSimpArgs false
set_option linter.unnecessarySimpa false

/-- a shape in memory: its alternatives read as a list -/
structure ArgS (w : World) (A : Option Addr) (n c : Nat) (s : Sh) : Prop where
  st : Als w A n s.al
  few : n ≤ 1000
  le : n ≤ c
  bare : A = none → c = 0
theorem ArgS.below {w w' : World} {A : Option Addr} {n c : Nat} {s : Sh} (h : ArgS w A n c s) (hb : Below w.heap.size w w') : ArgS w' A n c s := ⟨h.st.below hb, h.few, h.le, h.bare⟩
abbrev shV (A : Option Addr) (n c : Nat) (s : Sh) : Value := .agg #[.int .i64 s.kd, .slice A n c, .int .i64 s.mn, .int .i64 s.mx, .int .i64 s.wl]
abbrev shO (A : Option Addr) (n c : Nat) (s : Sh) : Obj := .cells #[.int .i64 s.kd, .slice A n c, .int .i64 s.mn, .int .i64 s.mx, .int .i64 s.wl] 24
theorem blk5 {w : World} {g : Nat} {t : TypeId} {v0 v1 v2 v3 v4 : Value} (h : Blk w g t #[v0, v1, v2, v3, v4]) : w.cell? ⟨g, 0, none⟩ = some v0 ∧ w.cell? ⟨g, 1, none⟩ = some v1 ∧ w.cell? ⟨g, 2, none⟩ = some v2 ∧ w.cell? ⟨g, 3, none⟩ = some v3 ∧ w.cell? ⟨g, 4, none⟩ = some v4 := ⟨h.cell 0, h.cell 1, h.cell 2, h.cell 3, h.cell 4⟩
set_option maxHeartbeats 4000000 in
set_option maxRecDepth 100000 in
theorem check_any (A : Option Addr) (n c : Nat) (s : Sh) (w : World) (h : ArgS w A n c s) : Calls Try.prog 13 #[shV A n c s] w (Ret (.int .i64 (chkE s)) w) := by
  have hlen := h.st.len
  have hfew := h.few
  have hle := h.le
  subst hlen
  obtain ⟨V, hV⟩ : ∃ V, V = w.alloc (shO A s.al.length c s) := ⟨_, rfl⟩
  have bV : Below w.heap.size w V := by rw [hV]; exact (Below.refl _ _).alloc (Nat.le_refl _) _
  have kV : Blk V w.heap.size 24 #[.int .i64 s.kd, .slice A s.al.length c, .int .i64 s.mn, .int .i64 s.mx, .int .i64 s.wl] := by rw [hV]; exact Blk.new _ _ _
  obtain ⟨x0, x1, x2, x3, x4⟩ := blk5 kV
  have HH := Lib.hid (h.st.below bV)
  clear h
  go_enter Try.func13, Try.ntmps13
  go_upto_region 2 with fail
  rw [← hV]
  clear hV
  go_cut [4] (fun X wx => X = .bool (bareB s) ∧ V = wx)
  case first =>
    by_cases h1 : s.mn = 0
    · have d1 : (s.mn == 0) = true := by simp [h1]
      by_cases h2 : s.mx = 0
      · have d2 : (s.mx == 0) = true := by simp [h2]
        have HV : Hid (bareB s = (s.wl == 0)) := by show _ = _; simp [bareB, d1, d2]
        clear h1 h2
        go_wp2_with fail
        go_meet
        exact ⟨by rw [HV.out], rfl⟩
      · have d2 : (s.mx == 0) = false := by simpa using h2
        have HV : Hid (bareB s = false) := by show _ = _; simp [bareB, d2]
        clear h1 h2
        go_wp2_with fail
        go_meet
        exact ⟨by rw [HV.out], rfl⟩
    · have d1 : (s.mn == 0) = false := by simpa using h1
      have HV : Hid (bareB s = false) := by show _ = _; simp [bareB, d1]
      clear h1
      go_wp2_with fail
      go_meet
      exact ⟨by rw [HV.out], rfl⟩
  case rest =>
    obtain ⟨rfl, rfl⟩ := hcut
    by_cases k1 : s.kd = 1
    · have e1 : (s.kd == 1) = true := by simp [k1]
      have hck := chk_1 k1
      cases hb : bareB s
      · have HC := Lib.hid (chkE_no (hck.trans (altB_bare hb)))
        clear k1 hck hb
        go_wp2_with fail
        go_ret
        exact ⟨ret_int HC.out.symm, bV⟩
      · by_cases hl : s.al.length = 1
        · obtain ⟨a, ha⟩ := len_one hl
          have hf : altB s 1 = fineA a := by rw [altB_one ha, hb, Bool.true_and]
          obtain ⟨b, off, z, rfl, hbl, hz, d0, d1⟩ := Lst.alt HH.out (show 0 < s.al.length by omega)
          obtain rfl : z = a := by rw [ha] at hz; simpa using hz.symm
          have HF := Lib.hid (fine_any z)
          have hli : ((s.al.length : Int) == 1) = true := by simp [hl]
          have hli' : (s.al.length == 1) = true := by simp [hl]
          have hlp : (0 : Int) < (s.al.length : Int) := by omega
          have hlp' : 0 < s.al.length := by omega
          simp only [Nat.zero_mul, Nat.add_zero] at d0 d1
          cases hfa : fineA z
          · have HC := Lib.hid (chkE_no (hck.trans (hf.trans hfa)))
            rw [hfa] at HF
            clear k1 hck hb hf ha hz hl
            go_wp2_with fail
            refine (HF.out _).mono ?_
            rintro e w1 ⟨rfl, b1⟩
            go_wp2_with fail
            go_ret
            exact ⟨ret_int HC.out.symm, below_step bV b1⟩
          · have HC := Lib.hid (chkE_yes (hck.trans (hf.trans hfa)))
            rw [hfa] at HF
            clear k1 hck hb hf ha hz hl
            go_wp2_with fail
            refine (HF.out _).mono ?_
            rintro e w1 ⟨rfl, b1⟩
            go_wp2_with fail
            go_ret
            exact ⟨ret_int HC.out.symm, below_step bV b1⟩
        · have HC := Lib.hid (chkE_no (hck.trans (altB_len (m := 1) (by omega))))
          have hli : ((s.al.length : Int) == 1) = false := by rw [beq_eq_false_iff_ne]; omega
          have hli' : (s.al.length == 1) = false := by simpa using hl
          clear k1 hck hb hl
          go_wp2_with fail
          go_ret
          exact ⟨ret_int HC.out.symm, bV⟩
    have e1 : (s.kd == 1) = false := by simpa using k1
    by_cases k2 : s.kd = 2
    · have e2 : (s.kd == 2) = true := by simp [k2]
      have hck := chk_2 k2
      cases hb : bareB s
      · have HC := Lib.hid (chkE_no (hck.trans (altB_bare hb)))
        clear k1 k2 hck hb
        go_wp2_with fail
        go_ret
        exact ⟨ret_int HC.out.symm, bV⟩
      · by_cases hl1 : 1 ≤ s.al.length
        case neg =>
          have HC := Lib.hid (chkE_no (hck.trans (altB_len (m := 6) (by omega))))
          have t1 : decide ((1 : Int) ≤ (s.al.length : Int)) = false := by simp; omega
          have t1' : ¬ (1 : Int) ≤ (s.al.length : Int) := by omega
          clear k1 k2 hck hb
          go_wp2_with fail
          go_ret
          exact ⟨ret_int HC.out.symm, bV⟩
        have t1 : decide ((1 : Int) ≤ (s.al.length : Int)) = true := by simp; omega
        have t1' : (1 : Int) ≤ (s.al.length : Int) := by omega
        by_cases hl6 : s.al.length ≤ 6
        case neg =>
          have HC := Lib.hid (chkE_no (hck.trans (altB_len (m := 6) (by omega))))
          have t2 : decide ((s.al.length : Int) ≤ 6) = false := by simp; omega
          have t2' : ¬ (s.al.length : Int) ≤ 6 := by omega
          clear k1 k2 hck hb
          go_wp2_with fail
          go_ret
          exact ⟨ret_int HC.out.symm, bV⟩
        have t2 : decide ((s.al.length : Int) ≤ 6) = true := by simp; omega
        have t2' : (s.al.length : Int) ≤ 6 := by omega
        have hrest := altB_rest hb hl1 hl6
        have HAp := Lib.hid (apart_any A s.al.length c s.al V HH.out hfew hle)
        cases hap : apartB s.al
        · have HC := Lib.hid (chkE_no (hck.trans (hrest.trans (by rw [hap, Bool.false_and]))))
          rw [hap] at HAp
          clear k1 k2 hck hb hrest hap
          go_wp2_with fail
          refine HAp.out.mono ?_
          rintro e w1 ⟨rfl, b1⟩
          go_wp2_with fail
          go_ret
          exact ⟨ret_int HC.out.symm, below_step bV b1⟩
        · have hall : altB s 6 = s.al.all fineA := hrest.trans (by rw [hap, Bool.true_and])
          have HCf := Lib.hid fun (w1 : World) (b : Below V.heap.size V w1) => contf0_any 48 ⟨0, 0, none⟩ (fun x => !fineA x) check1_eg A s.al.length c s.al w1 (check1_any w1) (HH.out.below b) (by simp [maxLen]; omega)
          have han : s.al.any (fun x => !fineA x) = !(s.al.all fineA) := by rw [List.all_eq_not_any_not]; simp
          rw [hap] at HAp
          simp only [han] at HCf
          cases hfa : s.al.all fineA
          · have HC := Lib.hid (chkE_no (hck.trans (hall.trans hfa)))
            simp only [hfa] at HCf
            clear k1 k2 hck hb hrest hap hall han hfa
            go_wp2_with fail
            refine HAp.out.mono ?_
            rintro e w1 ⟨rfl, b1⟩
            have x1' := (b1.cell (p := ⟨w.heap.size, 1, none⟩) kV.lt).trans x1
            go_wp2_with fail
            refine (HCf.out w1 b1).mono ?_
            rintro e w2 ⟨rfl, b2⟩
            go_wp2_with fail
            go_ret
            exact ⟨ret_int HC.out.symm, below_step (below_step bV b1) b2⟩
          · have HC := Lib.hid (chkE_yes (hck.trans (hall.trans hfa)))
            simp only [hfa] at HCf
            clear k1 k2 hck hb hrest hap hall han hfa
            go_wp2_with fail
            refine HAp.out.mono ?_
            rintro e w1 ⟨rfl, b1⟩
            have x1' := (b1.cell (p := ⟨w.heap.size, 1, none⟩) kV.lt).trans x1
            go_wp2_with fail
            refine (HCf.out w1 b1).mono ?_
            rintro e w2 ⟨rfl, b2⟩
            go_wp2_with fail
            go_ret
            exact ⟨ret_int HC.out.symm, below_step (below_step bV b1) b2⟩
    have e2 : (s.kd == 2) = false := by simpa using k2
    by_cases k3 : s.kd = 3
    case neg =>
      have e3 : (s.kd == 3) = false := by simpa using k3
      have HC := Lib.hid (chkE_no (chk_0 k1 k2 k3))
      clear k1 k2 k3
      go_wp2_with fail
      go_ret
      exact ⟨ret_int HC.out.symm, bV⟩
    have e3 : (s.kd == 3) = true := by simp [k3]
    have hck := chk_3 k3
    have HCk := Lib.hid hck
    clear k1 k2 k3 hck
    by_cases l0 : s.al.length = 0
    case neg =>
      have HC := Lib.hid (chkE_no (HCk.out.trans (by simp [malB, l0])))
      have t1 : ((s.al.length : Int) == 0) = false := by rw [beq_eq_false_iff_ne]; omega
      have t1' : (s.al.length == 0) = false := by simpa using l0
      go_wp2_with fail
      go_ret
      exact ⟨ret_int HC.out.symm, bV⟩
    have t1 : ((s.al.length : Int) == 0) = true := by simp [l0]
    have t1' : (s.al.length == 0) = true := by simp [l0]
    by_cases hm : s.mn ≤ s.mx
    case neg =>
      have HC := Lib.hid (chkE_no (HCk.out.trans (by simp [malB, hm])))
      have t2 : decide (s.mn ≤ s.mx) = false := by simpa using hm
      clear l0
      go_wp2_with fail
      go_ret
      exact ⟨ret_int HC.out.symm, bV⟩
    have t2 : decide (s.mn ≤ s.mx) = true := by simpa using hm
    have HF := Lib.hid fun w' => fine_any ⟨s.mn, s.wl⟩ w'
    cases hf : fineA ⟨s.mn, s.wl⟩
    · have HC := Lib.hid (chkE_no (HCk.out.trans (by simp [malB, hf])))
      simp only [hf] at HF
      clear l0 hf
      go_wp2_with fail
      refine (HF.out _).mono ?_
      rintro e w1 ⟨rfl, b1⟩
      go_wp2_with fail
      go_ret
      exact ⟨ret_int HC.out.symm, below_step bV b1⟩
    · simp only [hf] at HF
      by_cases hx : s.mx ≤ 48
      · have HC := Lib.hid (chkE_yes (HCk.out.trans (by simp [malB, hf, l0, hm, hx])))
        have t3 : decide (s.mx ≤ 48) = true := by simpa using hx
        clear l0 hf
        go_wp2_with fail
        refine (HF.out _).mono ?_
        rintro e w1 ⟨rfl, b1⟩
        have x3' := (b1.cell (p := ⟨w.heap.size, 3, none⟩) kV.lt).trans x3
        go_wp2_with fail
        go_ret
        exact ⟨ret_int HC.out.symm, below_step bV b1⟩
      · have HC := Lib.hid (chkE_no (HCk.out.trans (by simp [malB, hx])))
        have t3 : decide (s.mx ≤ 48) = false := by simpa using hx
        clear l0 hf
        go_wp2_with fail
        refine (HF.out _).mono ?_
        rintro e w1 ⟨rfl, b1⟩
        have x3' := (b1.cell (p := ⟨w.heap.size, 3, none⟩) kV.lt).trans x3
        go_wp2_with fail
        go_ret
        exact ⟨ret_int HC.out.symm, below_step bV b1⟩
theorem check_is (r : Int) (A : Option Addr) (n c : Nat) (s : Sh) (w : World) (h : ArgS w A n c s) (hr : chkE s = r) : Calls Try.prog 13 #[shV A n c s] w (Ret (.int .i64 r) w) := by rw [← hr]; exact check_any A n c s w h
theorem sfew_any (A : Option Addr) (n c : Nat) (s : Sh) (w : World) : Calls Try.prog 11 #[shV A n c s] w (Ret (.bool (decide ((n : Int) ≤ 100))) w) := by
  go_enter Try.func11, Try.ntmps11
  go_wp2_with fail
  go_ret
  exact ⟨rfl, (Below.refl _ _).alloc (Nat.le_refl _) _⟩
theorem sfew_is (r : Bool) (A : Option Addr) (n c : Nat) (s : Sh) (w : World) (h : decide ((n : Int) ≤ 100) = r) : Calls Try.prog 11 #[shV A n c s] w (Ret (.bool r) w) := by rw [← h]; exact sfew_any A n c s w
end Go.Proofs.Ythfnmighhoighaa.ShapeW
