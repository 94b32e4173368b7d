/-
  Contracts of musterref07: Options, Least, Most, Allows.
-/
import Derived.Test.YthfnmighhoighaaShapeRef
namespace Go.Proofs.Ythfnmighhoighaa.ShapeW
open Go.RowKit Mem Shape
set_option linter.unusedVariables false
set_option linter.unusedSimpArgs false
set_option linter.unnecessarySimpa false

/-- alternatives, read in some slice -/
def SomeA (l : List Al) (w : World) (e : Ending) (w' : World) : Prop := ∃ A c, e = .returned (.slice A l.length c) ∧ Als w' A l.length l ∧ Below w.heap.size w w'
def RoRel (w1 : World) (s : Sh) (X Y : Value) (wr : World) : Prop := ∃ (k : Nat) (A : Option Addr) (c : Nat), k ≤ (s.mx - s.mn + 1).toNat ∧ X = .slice A k c ∧ Y = .int .i64 k ∧ AlsO wr w1.heap.size A k c (((sizesL s.mn s.mx).take k).map fun n => ⟨n, s.wl⟩) ∧ Below w1.heap.size w1 wr
set_option maxHeartbeats 2000000 in
set_option maxRecDepth 100000 in
theorem roptions_any (A : Option Addr) (n c : Nat) (s : Sh) (w : World) (h : ArgS w A n c s) : Calls Try.prog 17 #[shV A n c s] w (SomeA (optL s) w) := by
  obtain ⟨V, hV⟩ : ∃ V, V = w.alloc (shO A n c s) := ⟨_, rfl⟩
  have bV : Below w.heap.size w V := by rw [hV]; exact (Below.refl _ _).alloc (Nat.le_refl _) _
  have kV : Blk V w.heap.size 24 #[.int .i64 s.kd, .slice A n c, .int .i64 s.mn, .int .i64 s.mx, .int .i64 s.wl] := by rw [hV]; exact Blk.new _ _ _
  cases hc : chk s
  · have HCk := Lib.hid (rcheck_is 70 A n c s V (h.below bV) (chkE_no hc))
    rw [opt_no hc]
    clear h hc
    go_enter Try.func17, Try.ntmps17
    go_wp2_with fail
    rw [← hV]
    clear hV
    refine HCk.out.mono ?_
    rintro e w1 ⟨rfl, b1⟩
    go_wp2_with fail
    go_ret
    exact ⟨none, 0, rfl, Lst.nil _ _ _ _, below_step bV b1⟩
  · have HCk := Lib.hid (rcheck_is 0 A n c s V (h.below bV) (chkE_yes hc))
    by_cases h3 : s.kd = 3
    case neg =>
      rw [opt_al hc h3]
      have e3 : (s.kd == 3) = false := by simpa using h3
      have e3' : (s.kd != 3) = true := by simpa using h3
      have hlen := h.st.len
      subst hlen
      have HH := Lib.hid (h.st.below bV)
      clear h hc h3
      go_enter Try.func17, Try.ntmps17
      go_wp2_with fail
      rw [← hV]
      clear hV
      refine HCk.out.mono ?_
      rintro e w1 ⟨rfl, b1⟩
      obtain ⟨x0, x1, x2, x3, x4⟩ := blk5 (kV.below b1 kV.lt)
      go_wp2_with fail
      go_ret
      exact ⟨A, c, rfl, HH.out.below b1, below_step bV b1⟩
    obtain ⟨hal, hm1, hm2, hm3, hm4, hm5⟩ := mal_facts hc h3
    have HE := Lib.hid (opt_mal hc h3)
    have e3 : (s.kd == 3) = true := by simp [h3]
    have e3' : (s.kd != 3) = false := by simp [h3]
    clear h hc h3 hal
    go_enter Try.func17, Try.ntmps17
    go_wp2_with fail
    rw [← hV]
    clear hV
    refine HCk.out.mono ?_
    rintro e w1 ⟨rfl, b1⟩
    have k1 := kV.below b1 kV.lt
    obtain ⟨x0, x1, x2, x3, x4⟩ := blk5 k1
    have b01 := below_step bV b1
    go_wp2_with fail
    go_loopw [3, 4] (fun X Y wr => RoRel w1 s X Y wr) (fun _ Y _ => (s.mx - s.mn + 1).toNat - (intOf Y).toNat)
    case atStart => exact ⟨0, none, 0, by omega, rfl, rfl, SOwn.nil _ _ _ _, Below.refl _ _⟩
    case round =>
      obtain ⟨k, A1, c1, hk, rfl, rfl, ho, hbel⟩ := hrel
      clear x0 x1 x2 x3 x4
      obtain ⟨x0, x1, x2, x3, x4⟩ := blk5 (k1.below hbel k1.lt)
      by_cases hlt : k < (s.mx - s.mn + 1).toNat
      · have hc1 : (k : Int) ≤ s.mx - s.mn := by omega
        obtain ⟨U, hU⟩ : ∃ U, U = wr.alloc (.cells #[.int .i64 (s.mx - k), .int .i64 s.wl] 38) := ⟨_, rfl⟩
        have bU : Below wr.heap.size wr U := by rw [hU]; exact (Below.refl _ _).alloc (Nat.le_refl _) _
        have sU : Als U (some ⟨wr.heap.size, 0, none⟩) 1 [⟨s.mx - k, s.wl⟩] := by rw [hU]; exact Lst.new layA wr ⟨s.mx - k, s.wl⟩ #[.int .i64 (s.mx - k), .int .i64 s.wl] 38 rfl
        obtain ⟨A2, c2, w3, hrun, o3, b3, _, _⟩ := app_s layA (P := Try.prog) U w1.heap.size 22 22 38 _ 16 Try.underlying22 altInfo rfl A1 k c1 _ (ho.below bU) (some ⟨wr.heap.size, 0, none⟩) 1 1 [⟨s.mx - k, s.wl⟩] sU (by simp only [maxLen]; omega) (by omega) (Nat.le_trans hbel.size bU.size)
        have hnn : ((sizesL s.mn s.mx).take k).map (fun n => (⟨n, s.wl⟩ : Al)) ++ [⟨s.mx - k, s.wl⟩] = ((sizesL s.mn s.mx).take (k + 1)).map (fun n => ⟨n, s.wl⟩) := by rw [take_snoc_some (sizes_at hlt), List.map_append]; rfl
        rw [hnn] at o3
        have HR := Lib.hid hrun
        have HO2 := Lib.hid o3
        rw [hU] at HR
        have b03 := (below_step hbel bU).trans b3
        clear hrun o3 sU hU hnn ho
        go_wp2_with (at_builtin; refine wpList_app2 rfl _ _ rfl rfl rfl HR.out ?_)
        exact ⟨⟨k + 1, A2, c2, by omega, rfl, by go_num, HO2.out, b03⟩, by simp [intOf]; omega⟩
      · obtain rfl : k = (s.mx - s.mn + 1).toNat := by omega
        have hc1 : ¬ (((s.mx - s.mn + 1).toNat : Nat) : Int) ≤ s.mx - s.mn := by omega
        have hfull : (sizesL s.mn s.mx).take (s.mx - s.mn + 1).toNat = sizesL s.mn s.mx := List.take_of_length_le (by rw [sizes_len]; exact Nat.le_refl _)
        rw [hfull] at ho
        have HO := Lib.hid ho
        have HL : Hid ((optL s).length = (s.mx - s.mn + 1).toNat) := by show _ = _; rw [HE.out, List.length_map, sizes_len]
        generalize hN : (s.mx - s.mn + 1).toNat = N at *
        clear ho hfull
        go_wp2_with fail
        go_ret
        unfold SomeA
        rw [HL.out]
        refine ⟨A1, c1, rfl, ?_, below_step b01 hbel⟩
        rw [HE.out]
        exact HO.out.lst layA
theorem opt_pos {s : Sh} {a : Al} (h : a ∈ optL s) : 1 ≤ a.nd := by
  cases hc : chk s
  · rw [opt_no hc] at h; simp at h
  · by_cases h3 : s.kd = 3
    · obtain ⟨hal, hm1, hm2, hm3, hm4, hm5⟩ := mal_facts hc h3
      rw [opt_mal hc h3] at h
      obtain ⟨n, hn, rfl⟩ := List.mem_map.1 h
      unfold sizesL at hn
      obtain ⟨i, hi, rfl⟩ := List.mem_map.1 hn
      have := List.mem_range.1 hi
      simp only
      omega
    · rw [opt_al hc h3] at h
      have : fineA a = true := by
        unfold chk at hc
        split at hc
        · simp only [altB, Bool.and_eq_true, List.all_eq_true] at hc; exact hc.2 a h
        · split at hc
          · simp only [altB, Bool.and_eq_true, List.all_eq_true] at hc; exact hc.2 a h
          · first
            | cases hc
            | (rw [if_neg h3] at hc; cases hc)
      exact (fineA_iff.1 this).1
def RlRel (w2 : World) (l : List Al) (X Y : Value) (wr : World) : Prop := ∃ (k : Nat) (m : Int), 1 ≤ k ∧ k ≤ l.length ∧ X = .int .i64 m ∧ Y = .int .i64 k ∧ Hid (m = leastN (l.take k)) ∧ 1 ≤ m ∧ wr = w2
set_option maxHeartbeats 2000000 in
theorem rleast_any (A : Option Addr) (n c : Nat) (s : Sh) (w : World) (h : ArgS w A n c s) : Calls Try.prog 19 #[shV A n c s] w (Ret (.int .i64 (leastN (optL s))) w) := by
  obtain ⟨V, hV⟩ : ∃ V, V = w.alloc (shO A n c s) := ⟨_, rfl⟩
  have bV : Below w.heap.size w V := by rw [hV]; exact (Below.refl _ _).alloc (Nat.le_refl _) _
  have kV : Blk V w.heap.size 24 #[.int .i64 s.kd, .slice A n c, .int .i64 s.mn, .int .i64 s.mx, .int .i64 s.wl] := by rw [hV]; exact Blk.new _ _ _
  have HOp := Lib.hid (roptions_any A n c s V (h.below bV))
  have hfew := opt_few (s := s)
  have HPos : Hid (∀ a ∈ optL s, 1 ≤ a.nd) := fun a ha => opt_pos ha
  obtain ⟨l, hl⟩ : ∃ l, l = optL s := ⟨_, rfl⟩
  rw [← hl] at HOp hfew HPos ⊢
  clear h hl
  by_cases l0 : l.length = 0
  · have HE : Hid (leastN l = 0) := by show _ = _; rw [len_zero l0]; rfl
    have t1 : ((l.length : Int) == 0) = true := by simp [l0]
    have t1' : (l.length == 0) = true := by simp [l0]
    rw [HE.out]
    clear l0
    go_enter Try.func19, Try.ntmps19
    go_wp2_with fail
    rw [← hV]
    clear hV
    refine HOp.out.mono ?_
    rintro e w2 ⟨A2, c2, rfl, o2, b2⟩
    clear o2
    go_wp2_with fail
    go_ret
    exact ⟨rfl, below_step bV b2⟩
  have t1 : ((l.length : Int) == 0) = false := by rw [beq_eq_false_iff_ne]; omega
  have t1' : (l.length == 0) = false := by simpa using l0
  have t2 : (0 : Int) < (l.length : Int) := by omega
  have t2' : 0 < l.length := by omega
  clear l0
  go_enter Try.func19, Try.ntmps19
  go_wp2_with fail
  rw [← hV]
  clear hV
  refine HOp.out.mono ?_
  rintro e w2 ⟨A2, c2, rfl, o2, b2⟩
  have b02 := below_step bV b2
  have HO := Lib.hid o2
  obtain ⟨b, off, a, rfl, hb, ha, d0, d1⟩ := Lst.alt o2 t2'
  simp only [Nat.zero_mul, Nat.add_zero] at d0 d1
  have HA := Lib.hid ha
  clear o2 ha
  go_wp2_with fail
  go_loopw [4, 5] (fun X Y wr => RlRel w2 l X Y wr) (fun _ Y _ => l.length - (intOf Y).toNat)
  case atStart => exact ⟨1, a.nd, by omega, by omega, rfl, rfl, Lib.hid (by rw [take_snoc_some HA.out]; simp [leastN]), HPos.out a (mem_of_at HA.out), rfl⟩
  case round =>
    obtain ⟨k, m, hk1, hk, rfl, rfl, hm, hm1, rfl⟩ := hrel
    clear d0 d1
    by_cases hlt : k < l.length
    · obtain ⟨b', off', z, e', _, hz, f0, f1⟩ := Lst.alt HO.out hlt
      injection e' with e'
      injection e' with e1 e2
      subst e1 e2
      have hsn : leastN (l.take (k + 1)) = _ := (congrArg leastN (take_snoc_some hz)).trans (least_snoc _ _)
      rw [← hm.out] at hsn
      have hz1 := HPos.out z (mem_of_at hz)
      have hki : (k : Int) < (l.length : Int) := by omega
      clear hz
      by_cases h1 : z.nd < m
      · have e1 : decide (z.nd < m) = true := by simpa using h1
        have HS : Hid (z.nd = leastN (l.take (k + 1))) := by show _ = _; rw [hsn, if_pos (.inr h1)]
        clear hsn
        go_wp2_with fail
        exact ⟨⟨k + 1, z.nd, by omega, by omega, rfl, by go_num, HS, hz1, rfl⟩, by simp [intOf]; omega⟩
      · have e1 : decide (z.nd < m) = false := by simpa using h1
        have HS : Hid (m = leastN (l.take (k + 1))) := by show _ = _; rw [hsn, if_neg (by omega)]
        clear hsn
        go_wp2_with fail
        exact ⟨⟨k + 1, m, by omega, by omega, rfl, by go_num, HS, hm1, rfl⟩, by simp [intOf]; omega⟩
    · obtain rfl : k = l.length := by omega
      have HE : Hid (leastN l = m) := by show _ = _; rw [hm.out, List.take_length]
      go_wp2_with fail
      go_ret
      rw [HE.out]
      exact ⟨rfl, b02⟩
set_option maxHeartbeats 2000000 in
theorem rmost_any (A : Option Addr) (n c : Nat) (s : Sh) (w : World) (h : ArgS w A n c s) : Calls Try.prog 21 #[shV A n c s] w (Ret (.int .i64 (mostN (optL s))) w) := by
  obtain ⟨V, hV⟩ : ∃ V, V = w.alloc (shO A n c s) := ⟨_, rfl⟩
  have bV : Below w.heap.size w V := by rw [hV]; exact (Below.refl _ _).alloc (Nat.le_refl _) _
  have kV : Blk V w.heap.size 24 #[.int .i64 s.kd, .slice A n c, .int .i64 s.mn, .int .i64 s.mx, .int .i64 s.wl] := by rw [hV]; exact Blk.new _ _ _
  have HOp := Lib.hid (roptions_any A n c s V (h.below bV))
  have hfew := opt_few (s := s)
  obtain ⟨l, hl⟩ : ∃ l, l = optL s := ⟨_, rfl⟩
  rw [← hl] at HOp hfew ⊢
  clear h hl
  go_enter Try.func21, Try.ntmps21
  go_wp2_with fail
  rw [← hV]
  clear hV
  refine HOp.out.mono ?_
  rintro e w2 ⟨A2, c2, rfl, o2, b2⟩
  have b02 := below_step bV b2
  have HO := Lib.hid o2
  clear o2
  go_wp2_with fail
  go_loopw [4, 5] (fun X Y wr => FoldRel mostN w2 l X Y wr) (fun _ Y _ => l.length - (intOf Y).toNat)
  case atStart => exact ⟨0, by omega, rfl, rfl, Below.refl _ _⟩
  case round =>
    obtain ⟨k, hk, rfl, rfl, hbel⟩ := hrel
    by_cases hlt : k < l.length
    · obtain ⟨b, off, a, rfl, hb, ha, d0, d1⟩ := Lst.alt (HO.out.below hbel) hlt
      have hsn : mostN (l.take (k + 1)) = _ := (congrArg mostN (take_snoc_some ha)).trans (most_snoc _ _)
      obtain ⟨m, hm⟩ : ∃ m, m = mostN (l.take k) := ⟨_, rfl⟩
      rw [← hm] at hsn ⊢
      have hki : (k : Int) < (l.length : Int) := by omega
      clear ha hm
      by_cases h1 : m < a.nd
      · have e1 : decide (m < a.nd) = true := by simpa using h1
        have HS : Hid (mostN (l.take (k + 1)) = a.nd) := by show _ = _; rw [hsn, if_pos h1]
        clear hsn
        go_wp2_with fail
        exact ⟨⟨k + 1, by omega, by rw [HS.out], by go_num, hbel⟩, by simp [intOf]; omega⟩
      · have e1 : decide (m < a.nd) = false := by simpa using h1
        have HS : Hid (mostN (l.take (k + 1)) = m) := by show _ = _; rw [hsn, if_neg h1]
        clear hsn
        go_wp2_with fail
        exact ⟨⟨k + 1, by omega, by rw [HS.out], by go_num, hbel⟩, by simp [intOf]; omega⟩
    · obtain rfl : k = l.length := by omega
      have HE : Hid (mostN (l.take l.length) = mostN l) := by show _ = _; rw [List.take_length]
      rw [HE.out]
      go_wp2_with fail
      go_ret
      exact ⟨rfl, below_step b02 hbel⟩
/-- an option is one that the choice, or the kind, allows -/
def Hit (s : Sh) (ch : Nat) (m : Int) (j : Nat) (a : Al) : Prop := a.nd = m ∧ (j = ch ∨ s.kd = 3)
theorem allows_hit {s : Sh} {ch j : Nat} {m : Int} {a : Al} (hc : ch < (optL s).length) (ha : (optL s)[j]? = some a) (h : Hit s ch m j a) : allowsB s (ch : Int) m = true := by
  unfold allowsB
  rw [if_neg (by omega)]
  by_cases h3 : s.kd = 3
  · rw [if_pos h3]
    have hck : chk s = true := by
      cases hc' : chk s
      · rw [opt_no hc'] at ha; simp at ha
      · rfl
    obtain ⟨hal, hm1, hm2, hm3, hm4, hm5⟩ := mal_facts hck h3
    rw [opt_mal hck h3, List.getElem?_map] at ha
    have hj : j < (s.mx - s.mn + 1).toNat := by
      rcases Nat.lt_or_ge j (s.mx - s.mn + 1).toNat with h' | h'
      · exact h'
      · rw [List.getElem?_eq_none (by rw [sizes_len]; exact h')] at ha; simp at ha
    rw [sizes_at hj] at ha
    simp only [Option.map_some] at ha
    injection ha with ha
    subst ha
    have := h.1
    simp only at this
    simp
    omega
  · rw [if_neg h3]
    obtain ⟨h1, rfl | h2⟩ := h
    · rw [Int.toNat_natCast, ha]
      simp [h1]
    · exact absurd h2 h3
theorem allows_none {s : Sh} {ch : Nat} {m : Int} (hc : ch < (optL s).length) (h : ∀ j a, (optL s)[j]? = some a → ¬ Hit s ch m j a) : allowsB s (ch : Int) m = false := by
  unfold allowsB
  rw [if_neg (by omega)]
  by_cases h3 : s.kd = 3
  · rw [if_pos h3]
    have hck : chk s = true := by
      cases hc' : chk s
      · rw [opt_no hc'] at hc; simp at hc
      · rfl
    obtain ⟨hal, hm1, hm2, hm3, hm4, hm5⟩ := mal_facts hck h3
    by_cases hm : s.mn ≤ m ∧ m ≤ s.mx
    · exfalso
      have hj : (s.mx - m).toNat < (s.mx - s.mn + 1).toNat := by omega
      have ha := sizes_at hj
      refine h (s.mx - m).toNat ⟨m, s.wl⟩ ?_ ⟨rfl, .inr h3⟩
      rw [opt_mal hck h3, List.getElem?_map, ha]
      simp
      omega
    · simp
      omega
  · rw [if_neg h3, Int.toNat_natCast, List.getElem?_eq_getElem hc]
    simp
    intro e
    exact h ch _ (List.getElem?_eq_getElem hc) ⟨e, .inl rfl⟩
def RaRel (w2 : World) (s : Sh) (l : List Al) (ch : Nat) (m : Int) (Y : Value) (wr : World) : Prop := ∃ k : Nat, k ≤ l.length ∧ Y = .int .i64 k ∧ (∀ j a, j < k → l[j]? = some a → ¬ Hit s ch m j a) ∧ w2 = wr
set_option maxHeartbeats 2000000 in
theorem rallows_any (A : Option Addr) (n c : Nat) (s : Sh) (ch m : Int) (w : World) (h : ArgS w A n c s) : Calls Try.prog 26 #[shV A n c s, .int .i64 ch, .int .i64 m] w (Ret (.bool (allowsB s ch m)) w) := by
  obtain ⟨V, hV⟩ : ∃ V, V = w.alloc (shO A n c s) := ⟨_, rfl⟩
  have bV : Below w.heap.size w V := by rw [hV]; exact (Below.refl _ _).alloc (Nat.le_refl _) _
  have kV : Blk V w.heap.size 24 #[.int .i64 s.kd, .slice A n c, .int .i64 s.mn, .int .i64 s.mx, .int .i64 s.wl] := by rw [hV]; exact Blk.new _ _ _
  have HOp := Lib.hid (roptions_any A n c s V (h.below bV))
  have hfew := opt_few (s := s)
  have HOut : Hid (ch < 0 ∨ ((optL s).length : Int) ≤ ch → allowsB s ch m = false) := fun h => by rw [allowsB, if_pos h]
  have HHit : Hid (∀ (i j : Nat) (a : Al), ch = (i : Int) → i < (optL s).length → (optL s)[j]? = some a → Hit s i m j a → allowsB s ch m = true) := fun i j a e hc ha hh => by rw [e]; exact allows_hit hc ha hh
  have HNone : Hid (∀ i : Nat, ch = (i : Int) → i < (optL s).length → (∀ j a, (optL s)[j]? = some a → ¬ Hit s i m j a) → allowsB s ch m = false) := fun i e hc hh => by rw [e]; exact allows_none hc hh
  obtain ⟨l, hl⟩ : ∃ l, l = optL s := ⟨_, rfl⟩
  rw [← hl] at HOp hfew HOut HHit HNone
  clear h hl
  obtain ⟨r, hr⟩ : ∃ r, r = allowsB s ch m := ⟨_, rfl⟩
  rw [← hr] at HOut HHit HNone ⊢
  clear hr
  by_cases h0 : ch < 0
  · have HV := Lib.hid (HOut.out (.inl h0))
    have e0 : decide (ch < 0) = true := by simpa using h0
    rw [HV.out]
    go_enter Try.func26, Try.ntmps26
    go_wp2_with fail
    rw [← hV]
    clear hV
    refine HOp.out.mono ?_
    rintro e w2 ⟨A2, c2, rfl, o2, b2⟩
    clear o2
    go_wp2_with fail
    go_ret
    exact ⟨rfl, below_step bV b2⟩
  have e0 : decide (ch < 0) = false := by simpa using h0
  obtain ⟨i, rfl⟩ : ∃ i : Nat, ch = (i : Int) := ⟨ch.toNat, by omega⟩
  by_cases h1 : l.length ≤ i
  · have HV := Lib.hid (HOut.out (.inr (by omega)))
    have e1 : decide ((l.length : Int) ≤ (i : Int)) = true := by simp; omega
    rw [HV.out]
    clear h0
    go_enter Try.func26, Try.ntmps26
    go_wp2_with fail
    rw [← hV]
    clear hV
    refine HOp.out.mono ?_
    rintro e w2 ⟨A2, c2, rfl, o2, b2⟩
    clear o2
    go_wp2_with fail
    go_ret
    exact ⟨rfl, below_step bV b2⟩
  have e1 : decide ((l.length : Int) ≤ (i : Int)) = false := by simp; omega
  have e1' : ¬ (l.length : Int) ≤ (i : Int) := by omega
  have hil' : i < l.length := by omega
  have HHit2 : Hid (∀ (j : Nat) (a : Al), l[j]? = some a → Hit s i m j a → r = true) := fun j a => HHit.out i j a rfl hil'
  have HNone2 : Hid ((∀ j a, l[j]? = some a → ¬ Hit s i m j a) → r = false) := HNone.out i rfl hil'
  clear h0
  go_enter Try.func26, Try.ntmps26
  go_wp2_with fail
  rw [← hV]
  clear hV
  refine HOp.out.mono ?_
  rintro e w2 ⟨A2, c2, rfl, o2, b2⟩
  obtain ⟨x0, x1, x2, x3, x4⟩ := blk5 (kV.below b2 kV.lt)
  have b02 := below_step bV b2
  have HO := Lib.hid o2
  clear o2
  go_wp2_with fail
  go_loopw [8] (fun Y wr => RaRel w2 s l i m Y wr) (fun Y _ => l.length - (intOf Y).toNat)
  case atStart => exact ⟨0, by omega, rfl, fun j a hj => absurd hj (by omega), rfl⟩
  case round =>
    obtain ⟨k, hk, rfl, hno, rfl⟩ := hrel
    have HNo := Lib.hid hno
    clear hno
    by_cases hlt : k < l.length
    · obtain ⟨b, off, a, rfl, hb, ha, d0, d1⟩ := Lst.alt HO.out hlt
      have hki : (k : Int) < (l.length : Int) := by omega
      have HStep : Hid (¬ Hit s i m k a → ∀ j z, j < k + 1 → l[j]? = some z → ¬ Hit s i m j z) := fun hn j z hj hz => by
        by_cases hjk : j = k
        · subst hjk
          rw [ha] at hz
          injection hz with hz
          subst hz
          exact hn
        · exact HNo.out j z (by omega) hz
      have HYes := Lib.hid (HHit2.out k a ha)
      clear ha
      by_cases q1 : a.nd = m
      case neg =>
        have t1 : (a.nd == m) = false := by simpa using q1
        have HN := Lib.hid (HStep.out (fun h => q1 h.1))
        clear q1
        go_wp2_with fail
        exact ⟨⟨k + 1, by omega, by go_num, HN.out, rfl⟩, by simp [intOf]; omega⟩
      have t1 : (a.nd == m) = true := by simp [q1]
      by_cases q2 : k = i
      · have t2 : ((k : Int) == (i : Int)) = true := by simp [q2]
        have t2' : (k == i) = true := by simp [q2]
        have HV := Lib.hid (HYes.out ⟨q1, .inl q2⟩)
        clear q1 q2
        go_wp2_with fail
        go_ret
        rw [HV.out]
        exact ⟨rfl, b02⟩
      have t2 : ((k : Int) == (i : Int)) = false := by rw [beq_eq_false_iff_ne]; omega
      have t2' : (k == i) = false := by simpa using q2
      by_cases q3 : s.kd = 3
      · have t3 : (s.kd == 3) = true := by simp [q3]
        have HV := Lib.hid (HYes.out ⟨q1, .inr q3⟩)
        clear q1 q2 q3
        go_wp2_with fail
        go_ret
        rw [HV.out]
        exact ⟨rfl, b02⟩
      · have t3 : (s.kd == 3) = false := by simpa using q3
        have HN := Lib.hid (HStep.out (fun h => h.2.elim q2 q3))
        clear q1 q2 q3
        go_wp2_with fail
        exact ⟨⟨k + 1, by omega, by go_num, HN.out, rfl⟩, by simp [intOf]; omega⟩
    · obtain rfl : k = l.length := by omega
      have HV := Lib.hid (HNone2.out (fun j a ha => HNo.out j a (List.getElem?_eq_some_iff.1 ha).1 ha))
      go_wp2_with fail
      go_ret
      rw [HV.out]
      exact ⟨rfl, b02⟩
end Go.Proofs.Ythfnmighhoighaa.ShapeW
