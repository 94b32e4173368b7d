/-
  Contracts of musterref07: SameAlts, Same, size, wall, Check.
-/
import Derived.Test.YthfnmighhoighaaShapeWalls
namespace Go.Proofs.Ythfnmighhoighaa.ShapeW
open Go.RowKit Mem Shape
set_option linter.unusedVariables false
set_option linter.unusedSimpArgs false
set_option linter.unnecessarySimpa false

def SaRel (w : World) (p q : List Al) (Y : Value) (wr : World) : Prop := ∃ k : Nat, k ≤ p.length ∧ Y = .int .i64 k ∧ p.take k = q.take k ∧ Below w.heap.size w wr
set_option maxHeartbeats 4000000 in
set_option maxRecDepth 100000 in
theorem rsalts_any (A B : Option Addr) (n m c d : Nat) (p q : List Al) (w : World) (h : Als w A n p) (g : Als w B m q) (hn : n ≤ maxLen) (hm : m ≤ maxLen) :
    Calls Try.prog 15 #[.slice A n c, .slice B m d] w (Ret (.bool (decide (p = q))) w) := by
  unfold maxLen at hn hm
  have hl := h.len
  have hk := g.len
  subst hl hk
  by_cases hlen : p.length = q.length
  · have hne : ((p.length : Int) != (q.length : Int)) = false := by simp [hlen]
    have hne' : (p.length != q.length) = false := by simp [hlen]
    have HL := Lib.hid hlen
    have hle : p.length ≤ q.length := by omega
    have hle' : q.length ≤ p.length := by omega
    have HH := Lib.hid h
    have HG := Lib.hid g
    clear hlen h g
    go_enter Try.func15, Try.ntmps15
    go_wp2_with fail
    go_loopw [5] (fun i wr => SaRel w p q i wr) (fun i _ => p.length - (intOf i).toNat)
    case atStart => exact ⟨0, by omega, rfl, by simp, Below.refl _ _⟩
    case round =>
      obtain ⟨j, hj, rfl, htk, hbel⟩ := hrel
      have HTK := Lib.hid htk
      clear htk
      have b0 := Below.refl wr.heap.size wr
      by_cases hlt : j < p.length
      · obtain ⟨b1, o1, x, rfl, hb1, hx, c0, c1⟩ := Lst.alt (HH.out.below hbel) hlt
        obtain ⟨b2, o2, y, rfl, hb2, hy, d0, d1⟩ := Lst.alt (HG.out.below hbel) (show j < q.length by omega)
        have HX := Lib.hid hx
        have HY := Lib.hid hy
        have hji : (j : Int) < (p.length : Int) := by omega
        have hji2 : (j : Int) < (q.length : Int) := by omega
        have hjq : j < q.length := by omega
        have HN : Hid (x ≠ y → decide (p = q) = false) := by
          show _ → _
          intro hxy
          rw [decide_eq_false_iff_not]
          intro e
          rw [e, HY.out] at HX
          have := HX.out
          injection this with this
          exact hxy this.symm
        have HSw : Hid (∀ w', Below wr.heap.size wr w' → (w'.cell? ⟨b1, o1 + j * 2, none⟩ = some (.int .i64 x.nd) ∧ w'.cell? ⟨b1, o1 + j * 2 + 1, none⟩ = some (.int .i64 x.wl)) ∧ w'.cell? ⟨b2, o2 + j * 2, none⟩ = some (.int .i64 y.nd) ∧ w'.cell? ⟨b2, o2 + j * 2 + 1, none⟩ = some (.int .i64 y.wl)) := fun w' hb' => ⟨⟨(hb'.cell (p := ⟨b1, o1 + j * 2, none⟩) hb1).trans c0, (hb'.cell (p := ⟨b1, o1 + j * 2 + 1, none⟩) hb1).trans c1⟩, (hb'.cell (p := ⟨b2, o2 + j * 2, none⟩) hb2).trans d0, (hb'.cell (p := ⟨b2, o2 + j * 2 + 1, none⟩) hb2).trans d1⟩
        clear hx hy
        go_wp2_with fail
        go_cut [40] (fun X wx => X = .bool (decide (x ≠ y)) ∧ Below wr.heap.size wr wx)
        case first =>
          clear c0 c1 d0 d1
          by_cases h0 : x.nd = y.nd
          case neg =>
            have e0 : (x.nd != y.nd) = true := by simpa using h0
            have e0' : (x.nd == y.nd) = false := by simpa using h0
            have HV : Hid (decide (x ≠ y) = true) := by show _ = _; rw [decide_eq_true_iff]; intro e; exact h0 (by rw [e])
            refine wp_region_cls (fun w' => Below wr.heap.size wr w') (by kernel_rfl) (by kernel_rfl) b0.drew ?_
            repeat (first
              | (refine cq_skip ?_ ?_
                 · rfl
                 simp only [Act.put, List.setIfInBounds_toArray, List.set_cons_succ, List.set_cons_zero])
              | (refine cq_ex ?_ ?_
                 · rfl
                 apply Exists.intro
                 refine ⟨fun w' hw' => ?_, ?_⟩
                 · obtain ⟨⟨c0, c1⟩, c2, c3⟩ := HSw.out w' hw'
                   simp [go_sem, c0, c1, c2, c3, hji, hji2, hlt, hjq, e0, e0', h0]
                   try rfl
                 simp only [Act.put, List.setIfInBounds_toArray, List.set_cons_succ, List.set_cons_zero]))
            refine cq_nil ?_
            intro w' b4
            go_wp2_with fail
            go_meet
            exact ⟨by rw [HV.out], b4⟩
          have e0 : (x.nd != y.nd) = false := by simp [h0]
          have e0' : (x.nd == y.nd) = true := by simp [h0]
          have HV : Hid ((x.wl != y.wl) = decide (x ≠ y)) := by
            show _ = _
            rw [Bool.eq_iff_iff, decide_eq_true_iff, bne_iff_ne]
            exact ⟨fun h e => h (by rw [e]), fun h e => h (al_ext h0 e)⟩
          clear h0
          refine wp_region_cls (fun w' => Below wr.heap.size wr w') (by kernel_rfl) (by kernel_rfl) b0.drew ?_
          repeat (first
            | (refine cq_skip ?_ ?_
               · rfl
               simp only [Act.put, List.setIfInBounds_toArray, List.set_cons_succ, List.set_cons_zero])
            | (refine cq_ex ?_ ?_
               · rfl
               apply Exists.intro
               refine ⟨fun w' hw' => ?_, ?_⟩
               · obtain ⟨⟨c0, c1⟩, c2, c3⟩ := HSw.out w' hw'
                 simp [go_sem, c0, c1, c2, c3, hji, hji2, hlt, hjq, e0, e0']
                 try rfl
               simp only [Act.put, List.setIfInBounds_toArray, List.set_cons_succ, List.set_cons_zero]))
          refine cq_nil ?_
          intro w' b4
          go_wp2_with fail
          go_meet
          exact ⟨by rw [← HV.out], b4⟩
        case rest =>
          obtain ⟨rfl, b4⟩ := hcut
          clear c0 c1 d0 d1
          by_cases hxy : x = y
          · have hf : decide (x ≠ y) = false := by simp [hxy]
            rw [hf]
            have HT : Hid (p.take (j + 1) = q.take (j + 1)) := by
              show _ = _
              rw [take_snoc_some HX.out, take_snoc_some HY.out, HTK.out, hxy]
            clear hxy hf
            go_wp2_with fail
            exact ⟨⟨j + 1, by omega, by go_num, HT.out, below_step hbel b4⟩, by simp [intOf]; omega⟩
          · have hf : decide (x ≠ y) = true := by simp [hxy]
            rw [hf]
            have HF := Lib.hid (HN.out hxy)
            clear hxy hf
            go_wp2_with fail
            go_ret
            exact ⟨ret_bool HF.out.symm, below_step hbel b4⟩
      · have HE : Hid (decide (p = q) = true) := by
          show _ = _
          rw [decide_eq_true_iff]
          have := HTK.out
          rwa [List.take_of_length_le (by omega), List.take_of_length_le (by omega)] at this
        go_wp2_with fail
        go_ret
        exact ⟨ret_bool HE.out.symm, hbel⟩
  · have hne : ((p.length : Int) != (q.length : Int)) = true := by rw [bne_iff_ne]; omega
    have hne' : (p.length != q.length) = true := by rw [bne_iff_ne]; omega
    have HN : Hid (decide (p = q) = false) := by
      show _ = _
      rw [decide_eq_false_iff_not]
      intro e
      exact hlen (by rw [e])
    clear hlen
    go_enter Try.func15, Try.ntmps15
    go_wp2_with fail
    go_ret
    exact ⟨ret_bool HN.out.symm, Below.refl _ _⟩
theorem rsame_any (A B : Option Addr) (n m c d : Nat) (s t : Sh) (w : World) (h : ArgS w A n c s) (g : ArgS w B m d t) : Calls Try.prog 23 #[shV A n c s, shV B m d t] w (Ret (.bool (decide (s = t))) w) := by
  obtain ⟨V, hV⟩ : ∃ V, V = (w.alloc (shO A n c s)).alloc (shO B m d t) := ⟨_, rfl⟩
  have bV : Below w.heap.size w V := by rw [hV]; exact ((Below.refl _ _).alloc (Nat.le_refl _) _).alloc (by simp) _
  have HEq := Lib.hid (rsalts_any A B n m c d s.al t.al V (h.st.below bV) (g.st.below bV) (by have := h.few; simp [maxLen]; omega) (by have := g.few; simp [maxLen]; omega))
  clear h g
  by_cases h0 : s.kd = t.kd
  case neg =>
    have HN : Hid (decide (s = t) = false) := by show _ = _; rw [decide_eq_false_iff_not]; intro e; exact h0 (by rw [e])
    have eh0 : (s.kd == t.kd) = false := by simpa using h0
    go_enter Try.func23, Try.ntmps23
    go_wp2_with fail
    rw [← hV]
    go_ret
    exact ⟨ret_bool HN.out.symm, bV⟩
  have eh0 : (s.kd == t.kd) = true := by simp [h0]
  have Hh0 := Lib.hid h0
  clear h0
  by_cases h2 : s.mn = t.mn
  case neg =>
    have HN : Hid (decide (s = t) = false) := by show _ = _; rw [decide_eq_false_iff_not]; intro e; exact h2 (by rw [e])
    have eh2 : (s.mn == t.mn) = false := by simpa using h2
    go_enter Try.func23, Try.ntmps23
    go_wp2_with fail
    rw [← hV]
    go_ret
    exact ⟨ret_bool HN.out.symm, bV⟩
  have eh2 : (s.mn == t.mn) = true := by simp [h2]
  have Hh2 := Lib.hid h2
  clear h2
  by_cases h3 : s.mx = t.mx
  case neg =>
    have HN : Hid (decide (s = t) = false) := by show _ = _; rw [decide_eq_false_iff_not]; intro e; exact h3 (by rw [e])
    have eh3 : (s.mx == t.mx) = false := by simpa using h3
    go_enter Try.func23, Try.ntmps23
    go_wp2_with fail
    rw [← hV]
    go_ret
    exact ⟨ret_bool HN.out.symm, bV⟩
  have eh3 : (s.mx == t.mx) = true := by simp [h3]
  have Hh3 := Lib.hid h3
  clear h3
  by_cases h4 : s.wl = t.wl
  case neg =>
    have HN : Hid (decide (s = t) = false) := by show _ = _; rw [decide_eq_false_iff_not]; intro e; exact h4 (by rw [e])
    have eh4 : (s.wl == t.wl) = false := by simpa using h4
    go_enter Try.func23, Try.ntmps23
    go_wp2_with fail
    rw [← hV]
    go_ret
    exact ⟨ret_bool HN.out.symm, bV⟩
  have eh4 : (s.wl == t.wl) = true := by simp [h4]
  have Hh4 := Lib.hid h4
  clear h4
  have HD : Hid (decide (s.al = t.al) = decide (s = t)) := by
    show _ = _
    have : s = t ↔ s.al = t.al := ⟨fun e => by rw [e], fun e => by have q0 := Hh0.out; have q2 := Hh2.out; have q3 := Hh3.out; have q4 := Hh4.out; cases s; cases t; simp_all⟩
    simp [this]
  go_enter Try.func23, Try.ntmps23
  go_wp2_with fail
  rw [← hV]
  refine HEq.out.mono ?_
  rintro e w1 ⟨rfl, b1⟩
  go_wp2_with fail
  go_ret
  exact ⟨ret_bool HD.out, below_step bV b1⟩
def rsizeB (n : Int) : Bool := decide (1 ≤ n) && decide (n ≤ 48)
theorem rsize_any (n : Int) (w : World) : Calls Try.prog 49 #[.int .i64 n] w fun e w' => e = .returned (.bool (rsizeB n)) ∧ w = w' := by
  by_cases h : 1 ≤ n
  · have e1 : decide (1 ≤ n) = true := by simpa using h
    have HV : Hid (rsizeB n = decide (n ≤ 48)) := by show _ = _; rw [rsizeB, e1, Bool.true_and]
    go_enter Try.func49, Try.ntmps49
    go_wp2_with fail
    go_ret
    exact ⟨ret_bool HV.out.symm, rfl⟩
  · have e1 : decide (1 ≤ n) = false := by simpa using h
    have HV : Hid (rsizeB n = false) := by show _ = _; rw [rsizeB, e1, Bool.false_and]
    go_enter Try.func49, Try.ntmps49
    go_wp2_with fail
    go_ret
    exact ⟨ret_bool HV.out.symm, rfl⟩
theorem rsize_is (r : Bool) (n : Int) (w : World) (h : rsizeB n = r) : Calls Try.prog 49 #[.int .i64 n] w fun e w' => e = .returned (.bool r) ∧ w = w' := by rw [← h]; exact rsize_any n w
def rwallB (n : Int) : Bool := decide (1 ≤ n) && decide (n ≤ 100000)
theorem rwall_any (n : Int) (w : World) : Calls Try.prog 50 #[.int .i64 n] w fun e w' => e = .returned (.bool (rwallB n)) ∧ w = w' := by
  by_cases h : 1 ≤ n
  · have e1 : decide (1 ≤ n) = true := by simpa using h
    have HV : Hid (rwallB n = decide (n ≤ 100000)) := by show _ = _; rw [rwallB, e1, Bool.true_and]
    go_enter Try.func50, Try.ntmps50
    go_wp2_with fail
    go_ret
    exact ⟨ret_bool HV.out.symm, rfl⟩
  · have e1 : decide (1 ≤ n) = false := by simpa using h
    have HV : Hid (rwallB n = false) := by show _ = _; rw [rwallB, e1, Bool.false_and]
    go_enter Try.func50, Try.ntmps50
    go_wp2_with fail
    go_ret
    exact ⟨ret_bool HV.out.symm, rfl⟩
theorem rwall_is (r : Bool) (n : Int) (w : World) (h : rwallB n = r) : Calls Try.prog 50 #[.int .i64 n] w fun e w' => e = .returned (.bool r) ∧ w = w' := by rw [← h]; exact rwall_any n w
theorem mal_ref (s : Sh) : malB s = (s.al.length == 0 && rsizeB s.mn && rsizeB s.mx && decide (s.mn ≤ s.mx) && rwallB s.wl) := by
  rw [Bool.eq_iff_iff]
  simp only [malB, rsizeB, rwallB, fineA, Bool.and_eq_true, decide_eq_true_eq, beq_iff_eq]
  constructor
  · rintro ⟨⟨⟨h1, h2⟩, ⟨⟨h3, h4⟩, h5⟩, h6⟩, h7⟩
    exact ⟨⟨⟨⟨h1, h3, h4⟩, by omega, h7⟩, h2⟩, h5, h6⟩
  · rintro ⟨⟨⟨⟨h1, h3, h4⟩, h8, h7⟩, h2⟩, h5, h6⟩
    exact ⟨⟨⟨h1, h2⟩, ⟨⟨h3, h4⟩, h5⟩, h6⟩, h7⟩
theorem fine_ref (a : Al) : fineA a = (rsizeB a.nd && rwallB a.wl) := by simp [fineA, rsizeB, rwallB, Bool.and_assoc]
/-- the first k alternatives may be, and no later one is of their size -/
def Fore (l : List Al) (k : Nat) : Prop := ∀ j a, j < k → l[j]? = some a → fineA a = true ∧ ∀ i b, j < i → l[i]? = some b → a.nd ≠ b.nd
theorem fore_end {l : List Al} (h : Fore l l.length) : (apartB l && l.all fineA) = true := by
  rw [Bool.and_eq_true, apartB, decide_eq_true_iff]
  constructor
  · rw [Apart, List.pairwise_iff_getElem]
    intro i j hi hj hij
    exact (h i l[i] hi (List.getElem?_eq_getElem hi)).2 j l[j] hij (List.getElem?_eq_getElem hj)
  · rw [List.all_eq_true]
    intro x hx
    obtain ⟨i, hi, rfl⟩ := List.getElem_of_mem hx
    exact (h i l[i] hi (List.getElem?_eq_getElem hi)).1
theorem fore_bad {l : List Al} {k : Nat} {a : Al} (ha : l[k]? = some a) (hf : fineA a = false) : (apartB l && l.all fineA) = false := by
  have : l.all fineA = false := by
    rw [List.all_eq_false]
    exact ⟨a, List.mem_of_getElem? ha, by rw [hf]; simp⟩
  rw [this, Bool.and_false]
theorem fore_same {l : List Al} {k i : Nat} {a b : Al} (ha : l[k]? = some a) (hb : l[i]? = some b) (hki : k < i) (he : a.nd = b.nd) : (apartB l && l.all fineA) = false := by
  have : apartB l = false := by
    rw [apartB, decide_eq_false_iff_not]
    intro hp
    obtain ⟨h1, rfl⟩ := List.getElem?_eq_some_iff.1 ha
    obtain ⟨h2, rfl⟩ := List.getElem?_eq_some_iff.1 hb
    exact List.pairwise_iff_getElem.1 hp k i h1 h2 hki he
  rw [this, Bool.false_and]
def RcRel (V : World) (l : List Al) (Y : Value) (wr : World) : Prop := ∃ k : Nat, k ≤ l.length ∧ Y = .int .i64 k ∧ Fore l k ∧ Below V.heap.size V wr
def RcRel2 (w1 : World) (l : List Al) (k : Nat) (nd : Int) (Y : Value) (wr : World) : Prop := ∃ i : Nat, k + 1 ≤ i ∧ i ≤ l.length ∧ Y = .int .i64 i ∧ (∀ j b, k < j → j < i → l[j]? = some b → nd ≠ b.nd) ∧ Below w1.heap.size w1 wr
set_option maxHeartbeats 8000000 in
set_option maxRecDepth 100000 in
theorem rcheck_any (A : Option Addr) (n c : Nat) (s : Sh) (w : World) (h : ArgS w A n c s) : Calls Try.prog 14 #[shV A n c s] w (Ret (.int .i64 (chkE s)) w) := by
  have hlen := h.st.len
  have hfew := h.few
  subst hlen
  obtain ⟨V, hV⟩ : ∃ V, V = w.alloc (shO A s.al.length c s) := ⟨_, rfl⟩
  have bV : Below w.heap.size w V := by rw [hV]; exact (Below.refl _ _).alloc (Nat.le_refl _) _
  have kV : Blk V w.heap.size 24 #[.int .i64 s.kd, .slice A s.al.length c, .int .i64 s.mn, .int .i64 s.mx, .int .i64 s.wl] := by rw [hV]; exact Blk.new _ _ _
  obtain ⟨x0, x1, x2, x3, x4⟩ := blk5 kV
  have HH := Lib.hid (h.st.below bV)
  clear h
  by_cases k3 : s.kd = 3
  · have e3 : (s.kd == 3) = true := by simp [k3]
    have HCk := Lib.hid ((chk_3 k3).trans (mal_ref s))
    clear k3
    by_cases l0 : s.al.length = 0
    case neg =>
      have HC := Lib.hid (chkE_no (HCk.out.trans (by simp [l0])))
      have t1 : decide ((0 : Int) < (s.al.length : Int)) = true := by simp; omega
      have t1' : 0 < s.al.length := by omega
      have t1'' : decide (0 < s.al.length) = true := by simp; omega
      clear l0
      go_enter Try.func14, Try.ntmps14
      go_wp2_with fail
      rw [← hV]
      go_ret
      exact ⟨ret_int HC.out.symm, bV⟩
    have t1 : decide ((0 : Int) < (s.al.length : Int)) = false := by simp [l0]
    have t1' : ¬ 0 < s.al.length := by omega
    have t1'' : decide (0 < s.al.length) = false := by simp [l0]
    have l0' : (s.al.length == 0) = true := by simp [l0]
    rw [l0', Bool.true_and] at HCk
    clear l0 l0'
    cases hs1 : rsizeB s.mn
    · have HC := Lib.hid (chkE_no (HCk.out.trans (by rw [hs1]; rfl)))
      have HS1 := Lib.hid fun w' => rsize_is false s.mn w' hs1
      clear hs1
      go_enter Try.func14, Try.ntmps14
      go_wp2_with fail
      rw [← hV]
      clear hV
      refine (HS1.out V).mono ?_
      rintro e w1 ⟨rfl, rfl⟩
      go_wp2_with fail
      go_ret
      exact ⟨ret_int HC.out.symm, bV⟩
    have HS1 := Lib.hid fun w' => rsize_is true s.mn w' hs1
    rw [hs1, Bool.true_and] at HCk
    cases hs2 : rsizeB s.mx
    · have HC := Lib.hid (chkE_no (HCk.out.trans (by rw [hs2]; rfl)))
      have HS2 := Lib.hid fun w' => rsize_is false s.mx w' hs2
      clear hs1 hs2
      go_enter Try.func14, Try.ntmps14
      go_wp2_with fail
      rw [← hV]
      clear hV
      refine (HS1.out V).mono ?_
      rintro e w1 ⟨rfl, rfl⟩
      go_wp2_with fail
      refine (HS2.out V).mono ?_
      rintro e w1 ⟨rfl, rfl⟩
      go_wp2_with fail
      go_ret
      exact ⟨ret_int HC.out.symm, bV⟩
    have HS2 := Lib.hid fun w' => rsize_is true s.mx w' hs2
    rw [hs2, Bool.true_and] at HCk
    by_cases hm : s.mn ≤ s.mx
    case neg =>
      have HC := Lib.hid (chkE_no (HCk.out.trans (by simp [hm])))
      have t2 : decide (s.mx < s.mn) = true := by simp; omega
      have t2' : s.mx < s.mn := by omega
      clear hs1 hs2
      go_enter Try.func14, Try.ntmps14
      go_wp2_with fail
      rw [← hV]
      clear hV
      refine (HS1.out V).mono ?_
      rintro e w1 ⟨rfl, rfl⟩
      go_wp2_with fail
      refine (HS2.out V).mono ?_
      rintro e w1 ⟨rfl, rfl⟩
      go_wp2_with fail
      go_ret
      exact ⟨ret_int HC.out.symm, bV⟩
    have t2 : decide (s.mx < s.mn) = false := by simp; omega
    have hm' : decide (s.mn ≤ s.mx) = true := by simp [hm]
    rw [hm', Bool.true_and] at HCk
    have HS3 := Lib.hid fun w' => rwall_any s.wl w'
    cases hs3 : rwallB s.wl
    · have HC := Lib.hid (chkE_no (HCk.out.trans hs3))
      simp only [hs3] at HS3
      clear hs1 hs2 hs3
      go_enter Try.func14, Try.ntmps14
      go_wp2_with fail
      rw [← hV]
      clear hV
      refine (HS1.out V).mono ?_
      rintro e w1 ⟨rfl, rfl⟩
      go_wp2_with fail
      refine (HS2.out V).mono ?_
      rintro e w1 ⟨rfl, rfl⟩
      go_wp2_with fail
      refine (HS3.out V).mono ?_
      rintro e w1 ⟨rfl, rfl⟩
      go_wp2_with fail
      go_ret
      exact ⟨ret_int HC.out.symm, bV⟩
    · have HC := Lib.hid (chkE_yes (HCk.out.trans hs3))
      simp only [hs3] at HS3
      clear hs1 hs2 hs3
      go_enter Try.func14, Try.ntmps14
      go_wp2_with fail
      rw [← hV]
      clear hV
      refine (HS1.out V).mono ?_
      rintro e w1 ⟨rfl, rfl⟩
      go_wp2_with fail
      refine (HS2.out V).mono ?_
      rintro e w1 ⟨rfl, rfl⟩
      go_wp2_with fail
      refine (HS3.out V).mono ?_
      rintro e w1 ⟨rfl, rfl⟩
      go_wp2_with fail
      go_ret
      exact ⟨ret_int HC.out.symm, bV⟩
  have e3 : (s.kd == 3) = false := by simpa using k3
  by_cases k2 : s.kd = 2
  · have e2 : (s.kd == 2) = true := by simp [k2]
    have HK := Lib.hid (chk_2 k2)
    clear k2 k3
    by_cases l1 : 1 ≤ s.al.length
    case neg =>
      have HC := Lib.hid (chkE_no (HK.out.trans (altB_len (by omega))))
      have t1 : (s.al.length : Int) < 1 := by omega
      clear l1
      go_enter Try.func14, Try.ntmps14
      go_wp2_with fail
      rw [← hV]
      go_ret
      exact ⟨ret_int HC.out.symm, bV⟩
    have t1 : decide ((s.al.length : Int) < 1) = false := by simp; omega
    have t1' : ¬ (s.al.length : Int) < 1 := by omega
    by_cases l6 : s.al.length ≤ 6
    case neg =>
      have HC := Lib.hid (chkE_no (HK.out.trans (altB_len (by omega))))
      have t2 : (6 : Int) < (s.al.length : Int) := by omega
      clear l6
      go_enter Try.func14, Try.ntmps14
      go_wp2_with fail
      rw [← hV]
      go_ret
      exact ⟨ret_int HC.out.symm, bV⟩
    have t2 : decide ((6 : Int) < (s.al.length : Int)) = false := by simp; omega
    have t2' : ¬ (6 : Int) < (s.al.length : Int) := by omega
    by_cases m1 : s.mn = 0
    case neg =>
      have HC := Lib.hid (chkE_no (HK.out.trans (altB_bare (by simp [bareB, m1]))))
      have d1 : (s.mn != 0) = true := by simpa using m1
      have d1' : (s.mn == 0) = false := by simpa using m1
      clear m1
      go_enter Try.func14, Try.ntmps14
      go_wp2_with fail
      rw [← hV]
      go_ret
      exact ⟨ret_int HC.out.symm, bV⟩
    have d1 : (s.mn != 0) = false := by simp [m1]
    have d1' : (s.mn == 0) = true := by simp [m1]
    clear m1
    by_cases m2 : s.mx = 0
    case neg =>
      have HC := Lib.hid (chkE_no (HK.out.trans (altB_bare (by simp [bareB, m2]))))
      have d2 : (s.mx != 0) = true := by simpa using m2
      have d2' : (s.mx == 0) = false := by simpa using m2
      clear m2
      go_enter Try.func14, Try.ntmps14
      go_wp2_with fail
      rw [← hV]
      go_ret
      exact ⟨ret_int HC.out.symm, bV⟩
    have d2 : (s.mx != 0) = false := by simp [m2]
    have d2' : (s.mx == 0) = true := by simp [m2]
    clear m2
    by_cases m3 : s.wl = 0
    case neg =>
      have HC := Lib.hid (chkE_no (HK.out.trans (altB_bare (by simp [bareB, m3]))))
      have d3 : (s.wl != 0) = true := by simpa using m3
      have d3' : (s.wl == 0) = false := by simpa using m3
      clear m3
      go_enter Try.func14, Try.ntmps14
      go_wp2_with fail
      rw [← hV]
      go_ret
      exact ⟨ret_int HC.out.symm, bV⟩
    have d3 : (s.wl != 0) = false := by simp [m3]
    have d3' : (s.wl == 0) = true := by simp [m3]
    have HCk := Lib.hid (HK.out.trans (altB_rest (by simp [bareB, d1', d2', d3']) l1 l6))
    clear m3
    go_enter Try.func14, Try.ntmps14
    go_wp2_with fail
    rw [← hV]
    clear hV
    go_loopw [4] (fun Y wr => RcRel V s.al Y wr) (fun Y _ => s.al.length - (intOf Y).toNat)
    case atStart => exact ⟨0, by omega, rfl, fun j a hj => absurd hj (by omega), Below.refl _ _⟩
    case round =>
      obtain ⟨k, hk, rfl, hfo, hbel⟩ := hrel
      have HFo := Lib.hid hfo
      have kr := kV.below hbel kV.lt
      clear x0 x1 x2 x3 x4 hfo
      obtain ⟨x0, x1, x2, x3, x4⟩ := blk5 kr
      have b0r := below_step bV hbel
      by_cases hlt : k < s.al.length
      · obtain ⟨b, off, a, rfl, hb, ha, d0, d1⟩ := Lst.alt (HH.out.below hbel) hlt
        have HA := Lib.hid ha
        have hfr := fine_ref a
        have hki : (k : Int) < (s.al.length : Int) := by omega
        cases hs1 : rsizeB a.nd
        · have HC := Lib.hid (chkE_no (HCk.out.trans (fore_bad ha (by rw [hfr, hs1, Bool.false_and]))))
          have HS := Lib.hid (rsize_is false a.nd wr hs1)
          clear ha hfr hs1
          go_wp2_with fail
          refine HS.out.mono ?_
          rintro e w1 ⟨rfl, rfl⟩
          go_wp2_with fail
          go_ret
          exact ⟨ret_int HC.out.symm, b0r⟩
        · have HS := Lib.hid (rsize_is true a.nd wr hs1)
          cases hs2 : rwallB a.wl
          · have HC := Lib.hid (chkE_no (HCk.out.trans (fore_bad ha (by rw [hfr, hs1, hs2]; rfl))))
            have HW := Lib.hid (rwall_is false a.wl wr hs2)
            clear ha hfr hs1 hs2
            go_wp2_with fail
            refine HS.out.mono ?_
            rintro e w1 ⟨rfl, rfl⟩
            go_wp2_with fail
            refine HW.out.mono ?_
            rintro e w1 ⟨rfl, rfl⟩
            go_wp2_with fail
            go_ret
            exact ⟨ret_int HC.out.symm, b0r⟩
          · have HW := Lib.hid (rwall_is true a.wl wr hs2)
            have HFa : Hid (fineA a = true) := by show _ = _; rw [hfr, hs1, hs2]; rfl
            clear ha hfr hs1 hs2
            go_wp2_with fail
            refine HS.out.mono ?_
            rintro e w1 ⟨rfl, rfl⟩
            go_wp2_with fail
            refine HW.out.mono ?_
            rintro e w1 ⟨rfl, rfl⟩
            go_wp2_with fail
            go_loopw [5] (fun Y wq => RcRel2 wr s.al k a.nd Y wq) (fun Y _ => s.al.length - (intOf Y).toNat)
            case atStart => exact ⟨k + 1, by omega, by omega, by go_num, fun j b h1 h2 => absurd h2 (by omega), Below.refl _ _⟩
            case round =>
              rename_i wq
              obtain ⟨i, hi1, hi2, rfl, hap, hb2⟩ := hrel
              have HAp := Lib.hid hap
              have kq := kr.below hb2 kr.lt
              clear x0 x1 x2 x3 x4 hap
              obtain ⟨x0, x1, x2, x3, x4⟩ := blk5 kq
              have hlk : (k : Int) < (s.al.length : Int) := by omega
              by_cases hil : i < s.al.length
              · obtain ⟨b', off', z, e', _, hz, f0, f1⟩ := Lst.alt (HH.out.below (below_step hbel hb2)) hil
                injection e' with e'
                injection e' with e1 e2
                subst e1 e2
                have HZ := Lib.hid hz
                have d0q := (hb2.cell (p := ⟨b, off + k * 2, none⟩) hb).trans d0
                have hii : (i : Int) < (s.al.length : Int) := by omega
                clear hz
                go_wp2_with fail
                go_quiet (fail)
                cases hq : (a.nd == z.nd)
                · have HN : Hid (∀ j b, k < j → j < i + 1 → s.al[j]? = some b → a.nd ≠ b.nd) := fun j b h1 h2 h3 => by
                    by_cases hj : j = i
                    · subst hj
                      rw [HZ.out] at h3
                      injection h3 with h3
                      subst h3
                      simpa using hq
                    · exact HAp.out j b h1 (by omega) h3
                  clear d0q f0 f1
                  go_wp2_with fail
                  exact ⟨⟨i + 1, by omega, by omega, by go_num, HN.out, below_drewN hb2 _⟩, by simp [intOf]; omega⟩
                · have HC := Lib.hid (chkE_no (HCk.out.trans (fore_same HA.out HZ.out (by omega) (by simpa using hq))))
                  clear d0q f0 f1
                  go_wp2_with fail
                  go_ret
                  exact ⟨ret_int HC.out.symm, below_step b0r (below_drewN hb2 _)⟩
              · obtain rfl : i = s.al.length := by omega
                have HFn : Hid (Fore s.al (k + 1)) := fun j c hj hc => by
                  by_cases hjk : j = k
                  · subst hjk
                    rw [HA.out] at hc
                    injection hc with hc
                    subst hc
                    exact ⟨HFa.out, fun i b h1 h2 => HAp.out i b h1 (List.getElem?_eq_some_iff.1 h2).1 h2⟩
                  · exact HFo.out j c (by omega) hc
                go_wp2_with fail
                exact ⟨⟨k + 1, by omega, by go_num, HFn.out, below_step hbel hb2⟩, by simp [intOf]; omega⟩
      · obtain rfl : k = s.al.length := by omega
        have HC := Lib.hid (chkE_yes (HCk.out.trans (fore_end HFo.out)))
        go_wp2_with fail
        go_ret
        exact ⟨ret_int HC.out.symm, b0r⟩
  have e2 : (s.kd == 2) = false := by simpa using k2
  by_cases k1 : s.kd = 1
  · have e1 : (s.kd == 1) = true := by simp [k1]
    have e1' : (s.kd != 1) = false := by simp [k1]
    have HK := Lib.hid (chk_1 k1)
    clear k1 k2 k3
    by_cases l1 : 1 ≤ s.al.length
    case neg =>
      have HC := Lib.hid (chkE_no (HK.out.trans (altB_len (by omega))))
      have t1 : (s.al.length : Int) < 1 := by omega
      clear l1
      go_enter Try.func14, Try.ntmps14
      go_wp2_with fail
      rw [← hV]
      go_ret
      exact ⟨ret_int HC.out.symm, bV⟩
    have t1 : decide ((s.al.length : Int) < 1) = false := by simp; omega
    have t1' : ¬ (s.al.length : Int) < 1 := by omega
    by_cases l6 : s.al.length ≤ 1
    case neg =>
      have HC := Lib.hid (chkE_no (HK.out.trans (altB_len (by omega))))
      have t2 : (1 : Int) < (s.al.length : Int) := by omega
      clear l6
      go_enter Try.func14, Try.ntmps14
      go_wp2_with fail
      rw [← hV]
      go_ret
      exact ⟨ret_int HC.out.symm, bV⟩
    have t2 : decide ((1 : Int) < (s.al.length : Int)) = false := by simp; omega
    have t2' : ¬ (1 : Int) < (s.al.length : Int) := by omega
    by_cases m1 : s.mn = 0
    case neg =>
      have HC := Lib.hid (chkE_no (HK.out.trans (altB_bare (by simp [bareB, m1]))))
      have d1 : (s.mn != 0) = true := by simpa using m1
      have d1' : (s.mn == 0) = false := by simpa using m1
      clear m1
      go_enter Try.func14, Try.ntmps14
      go_wp2_with fail
      rw [← hV]
      go_ret
      exact ⟨ret_int HC.out.symm, bV⟩
    have d1 : (s.mn != 0) = false := by simp [m1]
    have d1' : (s.mn == 0) = true := by simp [m1]
    clear m1
    by_cases m2 : s.mx = 0
    case neg =>
      have HC := Lib.hid (chkE_no (HK.out.trans (altB_bare (by simp [bareB, m2]))))
      have d2 : (s.mx != 0) = true := by simpa using m2
      have d2' : (s.mx == 0) = false := by simpa using m2
      clear m2
      go_enter Try.func14, Try.ntmps14
      go_wp2_with fail
      rw [← hV]
      go_ret
      exact ⟨ret_int HC.out.symm, bV⟩
    have d2 : (s.mx != 0) = false := by simp [m2]
    have d2' : (s.mx == 0) = true := by simp [m2]
    clear m2
    by_cases m3 : s.wl = 0
    case neg =>
      have HC := Lib.hid (chkE_no (HK.out.trans (altB_bare (by simp [bareB, m3]))))
      have d3 : (s.wl != 0) = true := by simpa using m3
      have d3' : (s.wl == 0) = false := by simpa using m3
      clear m3
      go_enter Try.func14, Try.ntmps14
      go_wp2_with fail
      rw [← hV]
      go_ret
      exact ⟨ret_int HC.out.symm, bV⟩
    have d3 : (s.wl != 0) = false := by simp [m3]
    have d3' : (s.wl == 0) = true := by simp [m3]
    have HCk := Lib.hid (HK.out.trans (altB_rest (by simp [bareB, d1', d2', d3']) l1 l6))
    clear m3
    go_enter Try.func14, Try.ntmps14
    go_wp2_with fail
    rw [← hV]
    clear hV
    go_loopw [4] (fun Y wr => RcRel V s.al Y wr) (fun Y _ => s.al.length - (intOf Y).toNat)
    case atStart => exact ⟨0, by omega, rfl, fun j a hj => absurd hj (by omega), Below.refl _ _⟩
    case round =>
      obtain ⟨k, hk, rfl, hfo, hbel⟩ := hrel
      have HFo := Lib.hid hfo
      have kr := kV.below hbel kV.lt
      clear x0 x1 x2 x3 x4 hfo
      obtain ⟨x0, x1, x2, x3, x4⟩ := blk5 kr
      have b0r := below_step bV hbel
      by_cases hlt : k < s.al.length
      · obtain ⟨b, off, a, rfl, hb, ha, d0, d1⟩ := Lst.alt (HH.out.below hbel) hlt
        have HA := Lib.hid ha
        have hfr := fine_ref a
        have hki : (k : Int) < (s.al.length : Int) := by omega
        cases hs1 : rsizeB a.nd
        · have HC := Lib.hid (chkE_no (HCk.out.trans (fore_bad ha (by rw [hfr, hs1, Bool.false_and]))))
          have HS := Lib.hid (rsize_is false a.nd wr hs1)
          clear ha hfr hs1
          go_wp2_with fail
          refine HS.out.mono ?_
          rintro e w1 ⟨rfl, rfl⟩
          go_wp2_with fail
          go_ret
          exact ⟨ret_int HC.out.symm, b0r⟩
        · have HS := Lib.hid (rsize_is true a.nd wr hs1)
          cases hs2 : rwallB a.wl
          · have HC := Lib.hid (chkE_no (HCk.out.trans (fore_bad ha (by rw [hfr, hs1, hs2]; rfl))))
            have HW := Lib.hid (rwall_is false a.wl wr hs2)
            clear ha hfr hs1 hs2
            go_wp2_with fail
            refine HS.out.mono ?_
            rintro e w1 ⟨rfl, rfl⟩
            go_wp2_with fail
            refine HW.out.mono ?_
            rintro e w1 ⟨rfl, rfl⟩
            go_wp2_with fail
            go_ret
            exact ⟨ret_int HC.out.symm, b0r⟩
          · have HW := Lib.hid (rwall_is true a.wl wr hs2)
            have HFa : Hid (fineA a = true) := by show _ = _; rw [hfr, hs1, hs2]; rfl
            clear ha hfr hs1 hs2
            go_wp2_with fail
            refine HS.out.mono ?_
            rintro e w1 ⟨rfl, rfl⟩
            go_wp2_with fail
            refine HW.out.mono ?_
            rintro e w1 ⟨rfl, rfl⟩
            go_wp2_with fail
            go_loopw [5] (fun Y wq => RcRel2 wr s.al k a.nd Y wq) (fun Y _ => s.al.length - (intOf Y).toNat)
            case atStart => exact ⟨k + 1, by omega, by omega, by go_num, fun j b h1 h2 => absurd h2 (by omega), Below.refl _ _⟩
            case round =>
              rename_i wq
              obtain ⟨i, hi1, hi2, rfl, hap, hb2⟩ := hrel
              have HAp := Lib.hid hap
              have kq := kr.below hb2 kr.lt
              clear x0 x1 x2 x3 x4 hap
              obtain ⟨x0, x1, x2, x3, x4⟩ := blk5 kq
              have hlk : (k : Int) < (s.al.length : Int) := by omega
              by_cases hil : i < s.al.length
              · exfalso
                omega
              · obtain rfl : i = s.al.length := by omega
                have HFn : Hid (Fore s.al (k + 1)) := fun j c hj hc => by
                  by_cases hjk : j = k
                  · subst hjk
                    rw [HA.out] at hc
                    injection hc with hc
                    subst hc
                    exact ⟨HFa.out, fun i b h1 h2 => HAp.out i b h1 (List.getElem?_eq_some_iff.1 h2).1 h2⟩
                  · exact HFo.out j c (by omega) hc
                go_wp2_with fail
                exact ⟨⟨k + 1, by omega, by go_num, HFn.out, below_step hbel hb2⟩, by simp [intOf]; omega⟩
      · obtain rfl : k = s.al.length := by omega
        have HC := Lib.hid (chkE_yes (HCk.out.trans (fore_end HFo.out)))
        go_wp2_with fail
        go_ret
        exact ⟨ret_int HC.out.symm, b0r⟩
  have e1 : (s.kd == 1) = false := by simpa using k1
  have e1' : (s.kd != 1) = true := by simpa using k1
  have HC := Lib.hid (chkE_no (chk_0 k1 k2 k3))
  clear k1 k2 k3
  go_enter Try.func14, Try.ntmps14
  go_wp2_with fail
  rw [← hV]
  go_ret
  exact ⟨ret_int HC.out.symm, bV⟩
theorem rcheck_is (r : Int) (A : Option Addr) (n c : Nat) (s : Sh) (w : World) (h : ArgS w A n c s) (hr : chkE s = r) : Calls Try.prog 14 #[shV A n c s] w (Ret (.int .i64 r) w) := by rw [← hr]; exact rcheck_any A n c s w h
end Go.Proofs.Ythfnmighhoighaa.ShapeW
