/-
  Contracts: shape.Least, Most, Allows, Same.
-/
import Derived.Test.YthfnmighhoighaaShapeOpt
namespace Go.Proofs.Ythfnmighhoighaa.ShapeW
open Go.RowKit Mem Shape
set_option linter.unusedVariables false
set_option linter.unusedSimpArgs false
set_option linter.unnecessarySimpa false

theorem least_snoc (l : List Al) (a : Al) : leastN (l ++ [a]) = if leastN l = 0 ∨ a.nd < leastN l then a.nd else leastN l := by unfold leastN; rw [List.foldl_append]; rfl
theorem most_snoc (l : List Al) (a : Al) : mostN (l ++ [a]) = if mostN l < a.nd then a.nd else mostN l := by unfold mostN; rw [List.foldl_append]; rfl
def FoldRel (g : List Al → Int) (w2 : World) (l : List Al) (X Y : Value) (wr : World) : Prop := ∃ k : Nat, k ≤ l.length ∧ X = .int .i64 (g (l.take k)) ∧ Y = .int .i64 k ∧ Below w2.heap.size w2 wr
set_option maxHeartbeats 2000000 in
theorem least_any (A : Option Addr) (n c : Nat) (s : Sh) (w : World) (h : ArgS w A n c s) : Calls Try.prog 18 #[shV A n c s] w (Ret (.int .i64 (leastN (optL s))) w) := by
  obtain ⟨V, hV⟩ : ∃ V, V = w.alloc (shO A n c s) := ⟨_, rfl⟩
  have bV : Below w.heap.size w V := by rw [hV]; exact (Below.refl _ _).alloc (Nat.le_refl _) _
  have kV : Blk V w.heap.size 24 #[.int .i64 s.kd, .slice A n c, .int .i64 s.mn, .int .i64 s.mx, .int .i64 s.wl] := by rw [hV]; exact Blk.new _ _ _
  have HOp := Lib.hid (options_any A n c s V (h.below bV))
  have hfew := opt_few (s := s)
  obtain ⟨l, hl⟩ : ∃ l, l = optL s := ⟨_, rfl⟩
  rw [← hl] at HOp hfew ⊢
  clear h hl
  go_enter Try.func18, Try.ntmps18
  go_wp2_with fail
  rw [← hV]
  clear hV
  refine HOp.out.mono ?_
  rintro e w2 ⟨A2, c2, rfl, o2, b2⟩
  have b02 := below_step bV b2
  have HO := Lib.hid (o2.lst layA)
  clear o2
  go_wp2_with fail
  go_loopw [3, 9] (fun X Y wr => FoldRel leastN w2 l X Y wr) (fun _ Y _ => l.length - (intOf Y).toNat)
  case atStart => exact ⟨0, by omega, rfl, rfl, Below.refl _ _⟩
  case round =>
    obtain ⟨k, hk, rfl, rfl, hbel⟩ := hrel
    by_cases hlt : k < l.length
    · obtain ⟨b, off, a, rfl, hb, ha, d0, d1⟩ := Lst.alt (HO.out.below hbel) hlt
      have hsn : leastN (l.take (k + 1)) = _ := (congrArg leastN (take_snoc_some ha)).trans (least_snoc _ _)
      obtain ⟨m, hm⟩ : ∃ m, m = leastN (l.take k) := ⟨_, rfl⟩
      rw [← hm] at hsn ⊢
      have bA : Below wr.heap.size wr (wr.alloc (.cells #[.int .i64 a.nd, .int .i64 a.wl] 38)) := (Below.refl _ _).alloc (Nat.le_refl _) _
      have hki : (k : Int) < (l.length : Int) := by omega
      clear ha hm
      by_cases h0 : m = 0
      · have e0 : (m == 0) = true := by simp [h0]
        have HS : Hid (leastN (l.take (k + 1)) = a.nd) := by show _ = _; rw [hsn, if_pos (.inl h0)]
        clear hsn h0
        go_wp2_with fail
        exact ⟨⟨k + 1, by omega, by rw [HS.out], by go_num, below_step hbel bA⟩, by simp [intOf]; omega⟩
      · have e0 : (m == 0) = false := by simpa using h0
        by_cases h1 : a.nd < m
        · have e1 : decide (a.nd < m) = true := by simpa using h1
          have HS : Hid (leastN (l.take (k + 1)) = a.nd) := by show _ = _; rw [hsn, if_pos (.inr h1)]
          clear hsn h0
          go_wp2_with fail
          exact ⟨⟨k + 1, by omega, by rw [HS.out], by go_num, below_step hbel bA⟩, by simp [intOf]; omega⟩
        · have e1 : decide (a.nd < m) = false := by simpa using h1
          have HS : Hid (leastN (l.take (k + 1)) = m) := by show _ = _; rw [hsn, if_neg (by simp [h0]; omega)]
          clear hsn h0
          go_wp2_with fail
          exact ⟨⟨k + 1, by omega, by rw [HS.out], by go_num, below_step hbel bA⟩, by simp [intOf]; omega⟩
    · obtain rfl : k = l.length := by omega
      have HE : Hid (leastN (l.take l.length) = leastN l) := by show _ = _; rw [List.take_length]
      rw [HE.out]
      go_wp2_with fail
      go_ret
      exact ⟨rfl, below_step b02 hbel⟩
set_option maxHeartbeats 2000000 in
theorem most_any (A : Option Addr) (n c : Nat) (s : Sh) (w : World) (h : ArgS w A n c s) : Calls Try.prog 20 #[shV A n c s] w (Ret (.int .i64 (mostN (optL s))) w) := by
  obtain ⟨V, hV⟩ : ∃ V, V = w.alloc (shO A n c s) := ⟨_, rfl⟩
  have bV : Below w.heap.size w V := by rw [hV]; exact (Below.refl _ _).alloc (Nat.le_refl _) _
  have kV : Blk V w.heap.size 24 #[.int .i64 s.kd, .slice A n c, .int .i64 s.mn, .int .i64 s.mx, .int .i64 s.wl] := by rw [hV]; exact Blk.new _ _ _
  have HOp := Lib.hid (options_any A n c s V (h.below bV))
  have hfew := opt_few (s := s)
  obtain ⟨l, hl⟩ : ∃ l, l = optL s := ⟨_, rfl⟩
  rw [← hl] at HOp hfew ⊢
  clear h hl
  go_enter Try.func20, Try.ntmps20
  go_wp2_with fail
  rw [← hV]
  clear hV
  refine HOp.out.mono ?_
  rintro e w2 ⟨A2, c2, rfl, o2, b2⟩
  have b02 := below_step bV b2
  have HO := Lib.hid (o2.lst layA)
  clear o2
  go_wp2_with fail
  go_loopw [3, 9] (fun X Y wr => FoldRel mostN w2 l X Y wr) (fun _ Y _ => l.length - (intOf Y).toNat)
  case atStart => exact ⟨0, by omega, rfl, rfl, Below.refl _ _⟩
  case round =>
    obtain ⟨k, hk, rfl, rfl, hbel⟩ := hrel
    by_cases hlt : k < l.length
    · obtain ⟨b, off, a, rfl, hb, ha, d0, d1⟩ := Lst.alt (HO.out.below hbel) hlt
      have hsn : mostN (l.take (k + 1)) = _ := (congrArg mostN (take_snoc_some ha)).trans (most_snoc _ _)
      obtain ⟨m, hm⟩ : ∃ m, m = mostN (l.take k) := ⟨_, rfl⟩
      rw [← hm] at hsn ⊢
      have bA : Below wr.heap.size wr (wr.alloc (.cells #[.int .i64 a.nd, .int .i64 a.wl] 38)) := (Below.refl _ _).alloc (Nat.le_refl _) _
      have hki : (k : Int) < (l.length : Int) := by omega
      clear ha hm
      have HS : Hid (mostN (l.take (k + 1)) = if m < a.nd then a.nd else m) := hsn
      clear hsn
      go_wp2_with fail
      exact ⟨⟨k + 1, by omega, by rw [HS.out], by go_num, below_step hbel bA⟩, by simp [intOf]; omega⟩
    · obtain rfl : k = l.length := by omega
      have HE : Hid (mostN (l.take l.length) = mostN l) := by show _ = _; rw [List.take_length]
      rw [HE.out]
      go_wp2_with fail
      go_ret
      exact ⟨rfl, below_step b02 hbel⟩
set_option maxHeartbeats 2000000 in
theorem allows_any (A : Option Addr) (n c : Nat) (s : Sh) (ch m : Int) (w : World) (h : ArgS w A n c s) : Calls Try.prog 25 #[shV A n c s, .int .i64 ch, .int .i64 m] w (Ret (.bool (allowsB s ch m)) w) := by
  obtain ⟨V, hV⟩ : ∃ V, V = w.alloc (shO A n c s) := ⟨_, rfl⟩
  have bV : Below w.heap.size w V := by rw [hV]; exact (Below.refl _ _).alloc (Nat.le_refl _) _
  have kV : Blk V w.heap.size 24 #[.int .i64 s.kd, .slice A n c, .int .i64 s.mn, .int .i64 s.mx, .int .i64 s.wl] := by rw [hV]; exact Blk.new _ _ _
  have HOp := Lib.hid (options_any A n c s V (h.below bV))
  have hfew := opt_few (s := s)
  have hal : allowsB s ch m = if ch < 0 ∨ ((optL s).length : Int) ≤ ch then false else if s.kd = 3 then decide (s.mn ≤ m) && decide (m ≤ s.mx) else ((optL s)[ch.toNat]?.map (fun a => a.nd == m)).getD false := rfl
  have HAl := Lib.hid hal
  obtain ⟨l, hl⟩ : ∃ l, l = optL s := ⟨_, rfl⟩
  rw [← hl] at HOp hfew HAl
  clear h hl hal
  by_cases h0 : ch < 0
  · have HV : Hid (allowsB s ch m = false) := by show _ = _; rw [HAl.out, if_pos (.inl h0)]
    have e0 : decide (ch < 0) = true := by simpa using h0
    rw [HV.out]
    go_enter Try.func25, Try.ntmps25
    go_wp2_with fail
    rw [← hV]
    clear hV
    refine HOp.out.mono ?_
    rintro e w2 ⟨A2, c2, rfl, o2, b2⟩
    clear o2
    go_wp2_with fail
    go_ret
    exact ⟨rfl, below_step bV b2⟩
  have e0 : decide (ch < 0) = false := by simpa using h0
  obtain ⟨i, rfl⟩ : ∃ i : Nat, ch = (i : Int) := ⟨ch.toNat, by omega⟩
  by_cases h1 : l.length ≤ i
  · have HV : Hid (allowsB s (i : Int) m = false) := by show _ = _; rw [HAl.out, if_pos (.inr (by omega))]
    have e1 : decide ((l.length : Int) ≤ (i : Int)) = true := by simp; omega
    rw [HV.out]
    clear h0
    go_enter Try.func25, Try.ntmps25
    go_wp2_with fail
    rw [← hV]
    clear hV
    refine HOp.out.mono ?_
    rintro e w2 ⟨A2, c2, rfl, o2, b2⟩
    clear o2
    go_wp2_with fail
    go_ret
    exact ⟨rfl, below_step bV b2⟩
  have e1 : decide ((l.length : Int) ≤ (i : Int)) = false := by simp; omega
  have e1' : ¬ (l.length : Int) ≤ (i : Int) := by omega
  have hil : (i : Int) < (l.length : Int) := by omega
  have hil' : i < l.length := by omega
  by_cases k3 : s.kd = 3
  · have e3 : (s.kd == 3) = true := by simp [k3]
    have HV : Hid (allowsB s (i : Int) m = (decide (s.mn ≤ m) && decide (m ≤ s.mx))) := by show _ = _; rw [HAl.out, if_neg (by omega), if_pos k3]
    rw [HV.out]
    clear h0 k3
    cases hd : decide (s.mn ≤ m)
    · go_enter Try.func25, Try.ntmps25
      go_wp2_with fail
      rw [← hV]
      clear hV
      refine HOp.out.mono ?_
      rintro e w2 ⟨A2, c2, rfl, o2, b2⟩
      obtain ⟨x0, x1, x2, x3, x4⟩ := blk5 (kV.below b2 kV.lt)
      clear o2
      go_wp2_with fail
      go_ret
      exact ⟨by simp, below_step bV b2⟩
    · go_enter Try.func25, Try.ntmps25
      go_wp2_with fail
      rw [← hV]
      clear hV
      refine HOp.out.mono ?_
      rintro e w2 ⟨A2, c2, rfl, o2, b2⟩
      obtain ⟨x0, x1, x2, x3, x4⟩ := blk5 (kV.below b2 kV.lt)
      clear o2
      go_wp2_with fail
      go_ret
      exact ⟨by simp, below_step bV b2⟩
  · have e3 : (s.kd == 3) = false := by simpa using k3
    have HV : Hid (allowsB s (i : Int) m = (l[i]?.map (fun a => a.nd == m)).getD false) := by show _ = _; rw [HAl.out, if_neg (by omega), if_neg k3, Int.toNat_natCast]
    clear h0 k3
    go_enter Try.func25, Try.ntmps25
    go_wp2_with fail
    rw [← hV]
    clear hV
    refine HOp.out.mono ?_
    rintro e w2 ⟨A2, c2, rfl, o2, b2⟩
    obtain ⟨x0, x1, x2, x3, x4⟩ := blk5 (kV.below b2 kV.lt)
    obtain ⟨b, off, a, rfl, hb, ha, d0, d1⟩ := Lst.alt (o2.lst layA) hil'
    have HV2 : Hid (allowsB s (i : Int) m = (a.nd == m)) := by show _ = _; rw [HV.out, ha]; rfl
    clear o2 ha
    go_wp2_with fail
    go_ret
    exact ⟨ret_bool HV2.out.symm, below_step bV b2⟩
theorem same_any (A B : Option Addr) (n m c d : Nat) (s t : Sh) (w : World) (h : ArgS w A n c s) (g : ArgS w B m d t) : Calls Try.prog 27 #[shV A n c s, shV B m d t] w (Ret (.bool (decide (s = t))) w) := by
  obtain ⟨V, hV⟩ : ∃ V, V = (w.alloc (shO A n c s)).alloc (shO B m d t) := ⟨_, rfl⟩
  have bV : Below w.heap.size w V := by rw [hV]; exact ((Below.refl _ _).alloc (Nat.le_refl _) _).alloc (by simp) _
  have HEq := Lib.hid (aequal_any A B n m c d s.al t.al V (h.st.below bV) (g.st.below bV) (by have := h.few; simp [maxLen]; omega) (by have := g.few; simp [maxLen]; omega))
  clear h g
  by_cases h0 : s.kd = t.kd
  case neg =>
    have HN : Hid (decide (s = t) = false) := by show _ = _; rw [decide_eq_false_iff_not]; intro e; exact h0 (by rw [e])
    have eh0 : (s.kd == t.kd) = false := by simpa using h0
    go_enter Try.func27, Try.ntmps27
    go_wp2_with fail
    rw [← hV]
    go_ret
    exact ⟨ret_bool HN.out.symm, bV⟩
  have eh0 : (s.kd == t.kd) = true := by simp [h0]
  have Hh0 := Lib.hid h0
  clear h0
  by_cases h2 : s.mn = t.mn
  case neg =>
    have HN : Hid (decide (s = t) = false) := by show _ = _; rw [decide_eq_false_iff_not]; intro e; exact h2 (by rw [e])
    have eh2 : (s.mn == t.mn) = false := by simpa using h2
    go_enter Try.func27, Try.ntmps27
    go_wp2_with fail
    rw [← hV]
    go_ret
    exact ⟨ret_bool HN.out.symm, bV⟩
  have eh2 : (s.mn == t.mn) = true := by simp [h2]
  have Hh2 := Lib.hid h2
  clear h2
  by_cases h3 : s.mx = t.mx
  case neg =>
    have HN : Hid (decide (s = t) = false) := by show _ = _; rw [decide_eq_false_iff_not]; intro e; exact h3 (by rw [e])
    have eh3 : (s.mx == t.mx) = false := by simpa using h3
    go_enter Try.func27, Try.ntmps27
    go_wp2_with fail
    rw [← hV]
    go_ret
    exact ⟨ret_bool HN.out.symm, bV⟩
  have eh3 : (s.mx == t.mx) = true := by simp [h3]
  have Hh3 := Lib.hid h3
  clear h3
  by_cases h4 : s.wl = t.wl
  case neg =>
    have HN : Hid (decide (s = t) = false) := by show _ = _; rw [decide_eq_false_iff_not]; intro e; exact h4 (by rw [e])
    have eh4 : (s.wl == t.wl) = false := by simpa using h4
    go_enter Try.func27, Try.ntmps27
    go_wp2_with fail
    rw [← hV]
    go_ret
    exact ⟨ret_bool HN.out.symm, bV⟩
  have eh4 : (s.wl == t.wl) = true := by simp [h4]
  have Hh4 := Lib.hid h4
  clear h4
  have HD : Hid (decide (s.al = t.al) = decide (s = t)) := by
    show _ = _
    have : s = t ↔ s.al = t.al := ⟨fun e => by rw [e], fun e => by have q0 := Hh0.out; have q2 := Hh2.out; have q3 := Hh3.out; have q4 := Hh4.out; cases s; cases t; simp_all⟩
    simp [this]
  go_enter Try.func27, Try.ntmps27
  go_wp2_with fail
  rw [← hV]
  refine (HEq.out.mono fun e w h => Drew.below h).mono ?_
  rintro e w1 ⟨rfl, b1⟩
  go_wp2_with fail
  go_ret
  exact ⟨ret_bool HD.out, below_step bV b1⟩
end Go.Proofs.Ythfnmighhoighaa.ShapeW
