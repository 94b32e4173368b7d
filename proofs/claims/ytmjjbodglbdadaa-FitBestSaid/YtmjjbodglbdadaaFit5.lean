/-
  Contracts of muster/fit: Best.
-/
import Derived.Test.YtmjjbodglbdadaaFit4
namespace Go.Proofs.Ytmjjbodglbdadaa.ProfW
open Go.RowKit Mem Prof
set_option linter.unusedVariables false

theorem bbox_new (w : World) (A : Option Addr) (n c : Nat) (fr latest gr : Int) : BBox ((((w.alloc (.cells #[.slice A n c] 22)).alloc (.cells #[.int .i64 fr] 3)).alloc (.cells #[.int .i64 latest] 3)).alloc (.cells #[.int .i64 gr] 3)) (w.heap.size + 1 + 1 + 1) w.heap.size (w.heap.size + 1) (w.heap.size + 1 + 1) A n c fr latest gr := by
  refine ⟨?_, (((Blk.new w _ _).alloc _).alloc _).alloc _, ?_, ?_⟩
  · have := Blk.new (((w.alloc (.cells #[.slice A n c] 22)).alloc (.cells #[.int .i64 fr] 3)).alloc (.cells #[.int .i64 latest] 3)) 3 #[.int .i64 gr]
    simpa using this
  · have := ((Blk.new (w.alloc (.cells #[.slice A n c] 22)) 3 #[.int .i64 fr]).alloc (.cells #[.int .i64 latest] 3)).alloc (.cells #[.int .i64 gr] 3)
    simpa using this
  · have := (Blk.new ((w.alloc (.cells #[.slice A n c] 22)).alloc (.cells #[.int .i64 fr] 3)) 3 #[.int .i64 latest]).alloc (.cells #[.int .i64 gr] 3)
    simpa using this
structure Bst where
  ch : Nat
  st : Int
  fd : Bool
def optW (opts : List Stp) (k : Nat) : Int := (opts.getD k (0, 0)).2
def bestStep (pl : Stp → Int × Bool) (opts : List Stp) (s : Bst) (k : Nat) : Bst :=
  if (pl (opts.getD k (0, 0))).2 = true ∧ (s.fd = false ∨ (pl (opts.getD k (0, 0))).1 + optW opts k < s.st + optW opts s.ch) then ⟨k, (pl (opts.getD k (0, 0))).1, true⟩ else s
def bestN (pl : Stp → Int × Bool) (opts : List Stp) (n : Nat) : Bst := (List.range n).foldl (bestStep pl opts) ⟨0, 0, false⟩
theorem bestN_succ (pl : Stp → Int × Bool) (opts : List Stp) (n : Nat) : bestN pl opts (n + 1) = bestStep pl opts (bestN pl opts n) n := by simp [bestN, List.range_succ, List.foldl_append]
theorem placeT_ok {p : List Stp} {fr latest grace : Int} {a : Stp} (hg : 0 ≤ grace) (h : (placeT p fr latest grace a).2 = true) : 0 ≤ (placeT p fr latest grace a).1 ∧ (placeT p fr latest grace a).1 ≤ 1000000 ∧ 1 ≤ a.2 ∧ a.2 ≤ 1000000 := by
  unfold placeT at h ⊢
  split at h
  · rename_i hc
    rw [if_pos hc]
    obtain ⟨_, _, q3, q4⟩ := ask_iff.1 hc.1
    simp only [Bool.and_eq_true] at h
    have hE := earl_is p fr (a.2 + grace) a.1
    cases ho : earl p fr (a.2 + grace) a.1 with
    | none => rw [ho] at h; simp at h
    | some x =>
      rw [ho] at hE
      obtain ⟨h1, h2, _⟩ := hE
      obtain ⟨hc', ha'⟩ := fits_ask h2
      obtain ⟨g0, g1, _⟩ := (fits_iff hc' ha').1 h2
      exact ⟨g0, by show x ≤ 1000000; omega, q3, q4⟩
  · cases h
theorem bestN_ok {p : List Stp} {fr latest grace : Int} (hg : 0 ≤ grace) (opts : List Stp) (n : Nat) (hn : n ≤ opts.length) : (bestN (placeT p fr latest grace) opts n).fd = true → (bestN (placeT p fr latest grace) opts n).ch < n ∧ 0 ≤ (bestN (placeT p fr latest grace) opts n).st ∧ (bestN (placeT p fr latest grace) opts n).st ≤ 1000000 ∧ 1 ≤ optW opts (bestN (placeT p fr latest grace) opts n).ch ∧ optW opts (bestN (placeT p fr latest grace) opts n).ch ≤ 1000000 := by
  induction n with
  | zero => intro h; simp [bestN] at h
  | succ n ih =>
    rw [bestN_succ]
    generalize hs : bestN (placeT p fr latest grace) opts n = s at *
    intro h
    unfold bestStep at h ⊢
    split
    · rename_i hc
      obtain ⟨h1, h2, h3, h4⟩ := placeT_ok hg hc.1
      exact ⟨by show n < n + 1; omega, h1, h2, h3, h4⟩
    · rename_i hc
      rw [if_neg hc] at h
      obtain ⟨h1, h2⟩ := ih (by omega) h
      exact ⟨by omega, h2⟩
def BestRel (w : World) (bg bp bf bl : Nat) (A : Option Addr) (n c : Nat) (p : List Stp) (fr latest grace : Int) (opts : List Stp) (x y z k : Value) (wr : World) : Prop :=
  ∃ j : Nat, j ≤ opts.length ∧ k = .int .i64 j ∧ x = .int .i64 (bestN (placeT p fr latest grace) opts j).ch ∧ y = .int .i64 (bestN (placeT p fr latest grace) opts j).st ∧ z = .bool (bestN (placeT p fr latest grace) opts j).fd ∧
    BBox wr bg bp bf bl A n c fr latest grace ∧ Below w.heap.size w wr
def BestPost (s : Bst) (w : World) (e : Ending) (w' : World) : Prop := e = .returned (.tuple #[.int .i64 s.ch, .int .i64 s.st, .bool s.fd]) ∧ Below w.heap.size w w'
set_option maxHeartbeats 4000000 in
set_option maxRecDepth 100000 in
theorem best_short (A : Option Addr) (n c : Nat) (p : List Stp) (B : Option Addr) (d : Nat) (opts : List Stp) (fr latest gr0 : Int) (w : World) (h : Steps w A n p) (hn : n ≤ maxLen) (g : Steps w B opts.length opts) (hm : opts.length ≤ 48) :
    Calls Try.prog 33 #[.slice A n c, .slice B opts.length d, .int .i64 fr, .int .i64 latest, .int .i64 gr0] w (BestPost (bestN (placeT p fr latest (max gr0 0)) opts opts.length) w) := by
  have HH := Lib.hid h
  have HG := Lib.hid g
  clear h g
  obtain ⟨grace, hgr⟩ : ∃ x, x = max gr0 0 := ⟨_, rfl⟩
  rw [← hgr]
  have hg0 : 0 ≤ grace := by omega
  have hgc : (gr0 < 0 ∧ grace = 0) ∨ (0 ≤ gr0 ∧ grace = gr0) := by omega
  clear hgr
  rcases hgc with ⟨q1, rfl⟩ | ⟨q1, rfl⟩
  · go_enter Try.func33, Try.ntmps33
    go_wp2_with fail
    go_step3
    go_wp2_with fail
    obtain ⟨V, hV⟩ : ∃ V, V = (((w.alloc (.cells #[.slice A n c] 22)).alloc (.cells #[.int .i64 fr] 3)).alloc (.cells #[.int .i64 latest] 3)).alloc (.cells #[.int .i64 0] 3) := ⟨_, rfl⟩
    have bV : Below w.heap.size w V := by rw [hV]; exact ((((Below.refl _ _).alloc (Nat.le_refl _) _).alloc (by simp) _).alloc (by simp; omega) _).alloc (by simp; omega) _
    have hbx : BBox V (w.heap.size + 1 + 1 + 1) w.heap.size (w.heap.size + 1) (w.heap.size + 1 + 1) A n c fr latest 0 := by rw [hV]; exact bbox_new w A n c fr latest 0
    rw [← hV]
    clear hV
    go_step3
    go_wp2_with fail
    go_loopw [14, 15, 16, 31] (fun x y z k wr => BestRel w (w.heap.size + 1 + 1 + 1) w.heap.size (w.heap.size + 1) (w.heap.size + 1 + 1) A n c p fr latest 0 opts x y z k wr) (fun _ _ _ k _ => opts.length - (intOf k).toNat)
    case atStart => exact ⟨0, by omega, rfl, rfl, rfl, rfl, hbx, bV⟩
    case round =>
      clear hbx bV
      obtain ⟨j, hj, rfl, rfl, rfl, rfl, hbx, bw⟩ := hrel
      have hok := bestN_ok (p := p) (fr := fr) (latest := latest) hg0 opts j hj
      have hnx := bestN_succ (placeT p fr latest 0) opts j
      obtain ⟨s, hs⟩ : ∃ s, s = bestN (placeT p fr latest 0) opts j := ⟨_, rfl⟩
      rw [← hs] at hok hnx
      rw [← hs]
      have HS := Lib.hid hs
      have HOk := Lib.hid hok
      have HNx := Lib.hid hnx
      clear hs hok hnx
      by_cases hlt : j < opts.length
      · obtain ⟨ab, off, a, rfl, hbl, ha, c0, c1⟩ := Lst.two (HG.out.below bw) hlt
        have HA : Hid (opts.getD j (0, 0) = a) := by show _ = _; simp [List.getD, ha]
        have HW : Hid (optW opts j = a.2) := by show _ = _; rw [optW, HA.out]
        have HN2 : Hid (bestN (placeT p fr latest 0) opts (j + 1) = if ((placeT p fr latest 0) a).2 = true ∧ (s.fd = false ∨ ((placeT p fr latest 0) a).1 + a.2 < s.st + optW opts s.ch) then ⟨j, ((placeT p fr latest 0) a).1, true⟩ else s) := by show _ = _; rw [HNx.out, bestStep, HA.out, HW.out]
        obtain ⟨r, hr⟩ : ∃ r, r = (placeT p fr latest 0) a := ⟨_, rfl⟩
        have HB := Lib.hid (best1_any _ _ _ _ A n c p fr latest 0 a (wr.alloc (.cells #[.int .i64 a.1, .int .i64 a.2] 63)) (HH.out.below (bw.alloc bw.size _)) hn (hbx.below ((Below.refl _ _).alloc (Nat.le_refl _) _)) hg0)
        have hpk := fun h => placeT_ok (p := p) (fr := fr) (latest := latest) (a := a) hg0 h
        rw [← hr] at HB HN2 hpk
        have HPk := Lib.hid hpk
        have kx := Blk.new wr 63 #[.int .i64 a.1, .int .i64 a.2]
        have bw2 := bw.alloc bw.size (.cells #[.int .i64 a.1, .int .i64 a.2] 63)
        have hbx2 := hbx.below ((Below.refl _ _).alloc (Nat.le_refl _) (.cells #[.int .i64 a.1, .int .i64 a.2] 63))
        clear hr ha hpk HNx
        obtain ⟨v, b⟩ := r
        simp only at HB HN2 HPk
        go_wp2_with fail
        refine HB.out.mono ?_
        rintro e w2 ⟨rfl, b2⟩
        have bw3 := below_step bw2 b2
        have hbx3 := hbx2.below b2
        have kx2 := kx.below b2 kx.lt
        have y1 : w2.cell? ⟨wr.heap.size, 1, none⟩ = some (.int .i64 a.2) := kx2.cell 1
        clear c0 c1 hbx hbx2 bw bw2 b2 kx kx2 HB
        cases b
        · rw [if_neg (by simp)] at HN2
          go_wp2_with fail
          go_quiet (fail)
          go_wp2_with fail
          exact ⟨⟨j + 1, by omega, by go_num, by rw [HN2.out], by rw [HN2.out], by rw [HN2.out], hbx3.below (below_drewN (Below.refl _ _) _), below_drewN bw3 _⟩, by simp [intOf]; omega⟩
        · obtain ⟨h1, h2, h3, h4⟩ := HPk.out rfl
          obtain ⟨ch, st, fd⟩ := s
          cases fd
          · rw [if_pos ⟨rfl, .inl rfl⟩] at HN2
            go_wp2_with fail
            go_quiet (fail)
            go_wp2_with fail
            exact ⟨⟨j + 1, by omega, by go_num, by rw [HN2.out], by rw [HN2.out], by rw [HN2.out], hbx3.below (below_drewN (Below.refl _ _) _), below_drewN bw3 _⟩, by simp [intOf]; omega⟩
          · obtain ⟨k1, k2, k3, k4, k5⟩ := HOk.out rfl
            simp only at k1 k2 k3 k4 k5
            obtain ⟨ab', off', x, e, _, hx, e0, e1⟩ := Lst.two (HG.out.below bw3) (show ch < opts.length by omega)
            injection e with e
            injection e with e1' e2'
            subst e1' e2'
            have HWc : Hid (optW opts ch = x.2) := by show _ = _; simp [optW, List.getD, hx]
            rw [HWc.out] at k4 k5 HN2
            have hw6 : (ch : Int) < (opts.length : Int) := by omega
            clear hx
            by_cases hcmp : v + a.2 < st + x.2
            · have hc2 : decide (st + x.2 ≤ v + a.2) = false := by simp; omega
              rw [if_pos ⟨rfl, .inr hcmp⟩] at HN2
              go_wp2_with fail
              go_quiet (fail)
              go_wp2_with fail
              exact ⟨⟨j + 1, by omega, by go_num, by rw [HN2.out], by rw [HN2.out], by rw [HN2.out], hbx3.below (below_drewN (Below.refl _ _) _), below_drewN bw3 _⟩, by simp [intOf]; omega⟩
            · have hc2 : decide (st + x.2 ≤ v + a.2) = true := by simp; omega
              rw [if_neg (by simp; omega)] at HN2
              go_wp2_with fail
              go_quiet (fail)
              go_wp2_with fail
              exact ⟨⟨j + 1, by omega, by go_num, by rw [HN2.out], by rw [HN2.out], by rw [HN2.out], hbx3.below (below_drewN (Below.refl _ _) _), below_drewN bw3 _⟩, by simp [intOf]; omega⟩
      · obtain rfl : j = opts.length := by omega
        go_wp2_with fail
        try rw [Exit.noGoto_ret]
        go_ret3
        rw [← HS.out]
        exact ⟨rfl, bw⟩
  · go_enter Try.func33, Try.ntmps33
    go_wp2_with fail
    go_step3
    go_wp2_with fail
    obtain ⟨V, hV⟩ : ∃ V, V = (((w.alloc (.cells #[.slice A n c] 22)).alloc (.cells #[.int .i64 fr] 3)).alloc (.cells #[.int .i64 latest] 3)).alloc (.cells #[.int .i64 grace] 3) := ⟨_, rfl⟩
    have bV : Below w.heap.size w V := by rw [hV]; exact ((((Below.refl _ _).alloc (Nat.le_refl _) _).alloc (by simp) _).alloc (by simp; omega) _).alloc (by simp; omega) _
    have hbx : BBox V (w.heap.size + 1 + 1 + 1) w.heap.size (w.heap.size + 1) (w.heap.size + 1 + 1) A n c fr latest grace := by rw [hV]; exact bbox_new w A n c fr latest grace
    rw [← hV]
    clear hV
    go_step3
    go_wp2_with fail
    go_loopw [14, 15, 16, 31] (fun x y z k wr => BestRel w (w.heap.size + 1 + 1 + 1) w.heap.size (w.heap.size + 1) (w.heap.size + 1 + 1) A n c p fr latest grace opts x y z k wr) (fun _ _ _ k _ => opts.length - (intOf k).toNat)
    case atStart => exact ⟨0, by omega, rfl, rfl, rfl, rfl, hbx, bV⟩
    case round =>
      clear hbx bV
      obtain ⟨j, hj, rfl, rfl, rfl, rfl, hbx, bw⟩ := hrel
      have hok := bestN_ok (p := p) (fr := fr) (latest := latest) hg0 opts j hj
      have hnx := bestN_succ (placeT p fr latest grace) opts j
      obtain ⟨s, hs⟩ : ∃ s, s = bestN (placeT p fr latest grace) opts j := ⟨_, rfl⟩
      rw [← hs] at hok hnx
      rw [← hs]
      have HS := Lib.hid hs
      have HOk := Lib.hid hok
      have HNx := Lib.hid hnx
      clear hs hok hnx
      by_cases hlt : j < opts.length
      · obtain ⟨ab, off, a, rfl, hbl, ha, c0, c1⟩ := Lst.two (HG.out.below bw) hlt
        have HA : Hid (opts.getD j (0, 0) = a) := by show _ = _; simp [List.getD, ha]
        have HW : Hid (optW opts j = a.2) := by show _ = _; rw [optW, HA.out]
        have HN2 : Hid (bestN (placeT p fr latest grace) opts (j + 1) = if ((placeT p fr latest grace) a).2 = true ∧ (s.fd = false ∨ ((placeT p fr latest grace) a).1 + a.2 < s.st + optW opts s.ch) then ⟨j, ((placeT p fr latest grace) a).1, true⟩ else s) := by show _ = _; rw [HNx.out, bestStep, HA.out, HW.out]
        obtain ⟨r, hr⟩ : ∃ r, r = (placeT p fr latest grace) a := ⟨_, rfl⟩
        have HB := Lib.hid (best1_any _ _ _ _ A n c p fr latest grace a (wr.alloc (.cells #[.int .i64 a.1, .int .i64 a.2] 63)) (HH.out.below (bw.alloc bw.size _)) hn (hbx.below ((Below.refl _ _).alloc (Nat.le_refl _) _)) hg0)
        have hpk := fun h => placeT_ok (p := p) (fr := fr) (latest := latest) (a := a) hg0 h
        rw [← hr] at HB HN2 hpk
        have HPk := Lib.hid hpk
        have kx := Blk.new wr 63 #[.int .i64 a.1, .int .i64 a.2]
        have bw2 := bw.alloc bw.size (.cells #[.int .i64 a.1, .int .i64 a.2] 63)
        have hbx2 := hbx.below ((Below.refl _ _).alloc (Nat.le_refl _) (.cells #[.int .i64 a.1, .int .i64 a.2] 63))
        clear hr ha hpk HNx
        obtain ⟨v, b⟩ := r
        simp only at HB HN2 HPk
        go_wp2_with fail
        refine HB.out.mono ?_
        rintro e w2 ⟨rfl, b2⟩
        have bw3 := below_step bw2 b2
        have hbx3 := hbx2.below b2
        have kx2 := kx.below b2 kx.lt
        have y1 : w2.cell? ⟨wr.heap.size, 1, none⟩ = some (.int .i64 a.2) := kx2.cell 1
        clear c0 c1 hbx hbx2 bw bw2 b2 kx kx2 HB
        cases b
        · rw [if_neg (by simp)] at HN2
          go_wp2_with fail
          go_quiet (fail)
          go_wp2_with fail
          exact ⟨⟨j + 1, by omega, by go_num, by rw [HN2.out], by rw [HN2.out], by rw [HN2.out], hbx3.below (below_drewN (Below.refl _ _) _), below_drewN bw3 _⟩, by simp [intOf]; omega⟩
        · obtain ⟨h1, h2, h3, h4⟩ := HPk.out rfl
          obtain ⟨ch, st, fd⟩ := s
          cases fd
          · rw [if_pos ⟨rfl, .inl rfl⟩] at HN2
            go_wp2_with fail
            go_quiet (fail)
            go_wp2_with fail
            exact ⟨⟨j + 1, by omega, by go_num, by rw [HN2.out], by rw [HN2.out], by rw [HN2.out], hbx3.below (below_drewN (Below.refl _ _) _), below_drewN bw3 _⟩, by simp [intOf]; omega⟩
          · obtain ⟨k1, k2, k3, k4, k5⟩ := HOk.out rfl
            simp only at k1 k2 k3 k4 k5
            obtain ⟨ab', off', x, e, _, hx, e0, e1⟩ := Lst.two (HG.out.below bw3) (show ch < opts.length by omega)
            injection e with e
            injection e with e1' e2'
            subst e1' e2'
            have HWc : Hid (optW opts ch = x.2) := by show _ = _; simp [optW, List.getD, hx]
            rw [HWc.out] at k4 k5 HN2
            have hw6 : (ch : Int) < (opts.length : Int) := by omega
            clear hx
            by_cases hcmp : v + a.2 < st + x.2
            · have hc2 : decide (st + x.2 ≤ v + a.2) = false := by simp; omega
              rw [if_pos ⟨rfl, .inr hcmp⟩] at HN2
              go_wp2_with fail
              go_quiet (fail)
              go_wp2_with fail
              exact ⟨⟨j + 1, by omega, by go_num, by rw [HN2.out], by rw [HN2.out], by rw [HN2.out], hbx3.below (below_drewN (Below.refl _ _) _), below_drewN bw3 _⟩, by simp [intOf]; omega⟩
            · have hc2 : decide (st + x.2 ≤ v + a.2) = true := by simp; omega
              rw [if_neg (by simp; omega)] at HN2
              go_wp2_with fail
              go_quiet (fail)
              go_wp2_with fail
              exact ⟨⟨j + 1, by omega, by go_num, by rw [HN2.out], by rw [HN2.out], by rw [HN2.out], hbx3.below (below_drewN (Below.refl _ _) _), below_drewN bw3 _⟩, by simp [intOf]; omega⟩
      · obtain rfl : j = opts.length := by omega
        go_wp2_with fail
        try rw [Exit.noGoto_ret]
        go_ret3
        rw [← HS.out]
        exact ⟨rfl, bw⟩
set_option maxHeartbeats 4000000 in
set_option maxRecDepth 100000 in
theorem best_long (A : Option Addr) (n c : Nat) (p : List Stp) (B : Option Addr) (d : Nat) (opts : List Stp) (fr latest gr0 : Int) (w : World) (h : Steps w A n p) (hn : n ≤ maxLen) (M : Nat) (g : Steps w B 48 opts) (hm : 48 < M) (hd : M ≤ d) (hMx : M ≤ maxLen) :
    Calls Try.prog 33 #[.slice A n c, .slice B M d, .int .i64 fr, .int .i64 latest, .int .i64 gr0] w (BestPost (bestN (placeT p fr latest (max gr0 0)) opts 48) w) := by
  have HL := Lib.hid g.len
  unfold maxLen at hMx
  have hm1 : decide ((48 : Int) < (M : Int)) = true := by simp; omega
  have hm2 : decide (48 < M) = true := by simp; omega
  have HH := Lib.hid h
  have HG := Lib.hid g
  clear h g
  obtain ⟨grace, hgr⟩ : ∃ x, x = max gr0 0 := ⟨_, rfl⟩
  rw [← hgr]
  have hg0 : 0 ≤ grace := by omega
  have hgc : (gr0 < 0 ∧ grace = 0) ∨ (0 ≤ gr0 ∧ grace = gr0) := by omega
  clear hgr
  rcases hgc with ⟨q1, rfl⟩ | ⟨q1, rfl⟩
  · go_enter Try.func33, Try.ntmps33
    go_wp2_with fail
    go_step3
    go_wp2_with fail
    obtain ⟨V, hV⟩ : ∃ V, V = (((w.alloc (.cells #[.slice A n c] 22)).alloc (.cells #[.int .i64 fr] 3)).alloc (.cells #[.int .i64 latest] 3)).alloc (.cells #[.int .i64 0] 3) := ⟨_, rfl⟩
    have bV : Below w.heap.size w V := by rw [hV]; exact ((((Below.refl _ _).alloc (Nat.le_refl _) _).alloc (by simp) _).alloc (by simp; omega) _).alloc (by simp; omega) _
    have hbx : BBox V (w.heap.size + 1 + 1 + 1) w.heap.size (w.heap.size + 1) (w.heap.size + 1 + 1) A n c fr latest 0 := by rw [hV]; exact bbox_new w A n c fr latest 0
    rw [← hV]
    clear hV
    go_step3
    go_wp2_with fail
    go_loopw [14, 15, 16, 31] (fun x y z k wr => BestRel w (w.heap.size + 1 + 1 + 1) w.heap.size (w.heap.size + 1) (w.heap.size + 1 + 1) A n c p fr latest 0 opts x y z k wr) (fun _ _ _ k _ => 48 - (intOf k).toNat)
    case atStart => exact ⟨0, by omega, rfl, rfl, rfl, rfl, hbx, bV⟩
    case round =>
      clear hbx bV
      obtain ⟨j, hj, rfl, rfl, rfl, rfl, hbx, bw⟩ := hrel
      have hj8 : j ≤ 48 := by rw [← HL.out]; exact hj
      have hok := bestN_ok (p := p) (fr := fr) (latest := latest) hg0 opts j hj
      have hnx := bestN_succ (placeT p fr latest 0) opts j
      obtain ⟨s, hs⟩ : ∃ s, s = bestN (placeT p fr latest 0) opts j := ⟨_, rfl⟩
      rw [← hs] at hok hnx
      rw [← hs]
      have HS := Lib.hid hs
      have HOk := Lib.hid hok
      have HNx := Lib.hid hnx
      clear hs hok hnx
      by_cases hlt : j < 48
      · obtain ⟨ab, off, a, rfl, hbl, ha, c0, c1⟩ := Lst.two (HG.out.below bw) hlt
        have HA : Hid (opts.getD j (0, 0) = a) := by show _ = _; simp [List.getD, ha]
        have HW : Hid (optW opts j = a.2) := by show _ = _; rw [optW, HA.out]
        have HN2 : Hid (bestN (placeT p fr latest 0) opts (j + 1) = if ((placeT p fr latest 0) a).2 = true ∧ (s.fd = false ∨ ((placeT p fr latest 0) a).1 + a.2 < s.st + optW opts s.ch) then ⟨j, ((placeT p fr latest 0) a).1, true⟩ else s) := by show _ = _; rw [HNx.out, bestStep, HA.out, HW.out]
        obtain ⟨r, hr⟩ : ∃ r, r = (placeT p fr latest 0) a := ⟨_, rfl⟩
        have HB := Lib.hid (best1_any _ _ _ _ A n c p fr latest 0 a (wr.alloc (.cells #[.int .i64 a.1, .int .i64 a.2] 63)) (HH.out.below (bw.alloc bw.size _)) hn (hbx.below ((Below.refl _ _).alloc (Nat.le_refl _) _)) hg0)
        have hpk := fun h => placeT_ok (p := p) (fr := fr) (latest := latest) (a := a) hg0 h
        rw [← hr] at HB HN2 hpk
        have HPk := Lib.hid hpk
        have kx := Blk.new wr 63 #[.int .i64 a.1, .int .i64 a.2]
        have bw2 := bw.alloc bw.size (.cells #[.int .i64 a.1, .int .i64 a.2] 63)
        have hbx2 := hbx.below ((Below.refl _ _).alloc (Nat.le_refl _) (.cells #[.int .i64 a.1, .int .i64 a.2] 63))
        clear hr ha hpk HNx
        obtain ⟨v, b⟩ := r
        simp only at HB HN2 HPk
        go_wp2_with fail
        refine HB.out.mono ?_
        rintro e w2 ⟨rfl, b2⟩
        have bw3 := below_step bw2 b2
        have hbx3 := hbx2.below b2
        have kx2 := kx.below b2 kx.lt
        have y1 : w2.cell? ⟨wr.heap.size, 1, none⟩ = some (.int .i64 a.2) := kx2.cell 1
        clear c0 c1 hbx hbx2 bw bw2 b2 kx kx2 HB
        cases b
        · rw [if_neg (by simp)] at HN2
          go_wp2_with fail
          go_quiet (fail)
          go_wp2_with fail
          exact ⟨⟨j + 1, by rw [HL.out]; omega, by go_num, by rw [HN2.out], by rw [HN2.out], by rw [HN2.out], hbx3.below (below_drewN (Below.refl _ _) _), below_drewN bw3 _⟩, by simp [intOf]; omega⟩
        · obtain ⟨h1, h2, h3, h4⟩ := HPk.out rfl
          obtain ⟨ch, st, fd⟩ := s
          cases fd
          · rw [if_pos ⟨rfl, .inl rfl⟩] at HN2
            go_wp2_with fail
            go_quiet (fail)
            go_wp2_with fail
            exact ⟨⟨j + 1, by rw [HL.out]; omega, by go_num, by rw [HN2.out], by rw [HN2.out], by rw [HN2.out], hbx3.below (below_drewN (Below.refl _ _) _), below_drewN bw3 _⟩, by simp [intOf]; omega⟩
          · obtain ⟨k1, k2, k3, k4, k5⟩ := HOk.out rfl
            simp only at k1 k2 k3 k4 k5
            obtain ⟨ab', off', x, e, _, hx, e0, e1⟩ := Lst.two (HG.out.below bw3) (show ch < 48 by omega)
            injection e with e
            injection e with e1' e2'
            subst e1' e2'
            have HWc : Hid (optW opts ch = x.2) := by show _ = _; simp [optW, List.getD, hx]
            rw [HWc.out] at k4 k5 HN2
            have hw6 : (ch : Int) < 48 := by omega
            clear hx
            by_cases hcmp : v + a.2 < st + x.2
            · have hc2 : decide (st + x.2 ≤ v + a.2) = false := by simp; omega
              rw [if_pos ⟨rfl, .inr hcmp⟩] at HN2
              go_wp2_with fail
              go_quiet (fail)
              go_wp2_with fail
              exact ⟨⟨j + 1, by rw [HL.out]; omega, by go_num, by rw [HN2.out], by rw [HN2.out], by rw [HN2.out], hbx3.below (below_drewN (Below.refl _ _) _), below_drewN bw3 _⟩, by simp [intOf]; omega⟩
            · have hc2 : decide (st + x.2 ≤ v + a.2) = true := by simp; omega
              rw [if_neg (by simp; omega)] at HN2
              go_wp2_with fail
              go_quiet (fail)
              go_wp2_with fail
              exact ⟨⟨j + 1, by rw [HL.out]; omega, by go_num, by rw [HN2.out], by rw [HN2.out], by rw [HN2.out], hbx3.below (below_drewN (Below.refl _ _) _), below_drewN bw3 _⟩, by simp [intOf]; omega⟩
      · obtain rfl : j = 48 := by omega
        go_wp2_with fail
        try rw [Exit.noGoto_ret]
        go_ret3
        rw [← HS.out]
        exact ⟨rfl, bw⟩
  · go_enter Try.func33, Try.ntmps33
    go_wp2_with fail
    go_step3
    go_wp2_with fail
    obtain ⟨V, hV⟩ : ∃ V, V = (((w.alloc (.cells #[.slice A n c] 22)).alloc (.cells #[.int .i64 fr] 3)).alloc (.cells #[.int .i64 latest] 3)).alloc (.cells #[.int .i64 grace] 3) := ⟨_, rfl⟩
    have bV : Below w.heap.size w V := by rw [hV]; exact ((((Below.refl _ _).alloc (Nat.le_refl _) _).alloc (by simp) _).alloc (by simp; omega) _).alloc (by simp; omega) _
    have hbx : BBox V (w.heap.size + 1 + 1 + 1) w.heap.size (w.heap.size + 1) (w.heap.size + 1 + 1) A n c fr latest grace := by rw [hV]; exact bbox_new w A n c fr latest grace
    rw [← hV]
    clear hV
    go_step3
    go_wp2_with fail
    go_loopw [14, 15, 16, 31] (fun x y z k wr => BestRel w (w.heap.size + 1 + 1 + 1) w.heap.size (w.heap.size + 1) (w.heap.size + 1 + 1) A n c p fr latest grace opts x y z k wr) (fun _ _ _ k _ => 48 - (intOf k).toNat)
    case atStart => exact ⟨0, by omega, rfl, rfl, rfl, rfl, hbx, bV⟩
    case round =>
      clear hbx bV
      obtain ⟨j, hj, rfl, rfl, rfl, rfl, hbx, bw⟩ := hrel
      have hj8 : j ≤ 48 := by rw [← HL.out]; exact hj
      have hok := bestN_ok (p := p) (fr := fr) (latest := latest) hg0 opts j hj
      have hnx := bestN_succ (placeT p fr latest grace) opts j
      obtain ⟨s, hs⟩ : ∃ s, s = bestN (placeT p fr latest grace) opts j := ⟨_, rfl⟩
      rw [← hs] at hok hnx
      rw [← hs]
      have HS := Lib.hid hs
      have HOk := Lib.hid hok
      have HNx := Lib.hid hnx
      clear hs hok hnx
      by_cases hlt : j < 48
      · obtain ⟨ab, off, a, rfl, hbl, ha, c0, c1⟩ := Lst.two (HG.out.below bw) hlt
        have HA : Hid (opts.getD j (0, 0) = a) := by show _ = _; simp [List.getD, ha]
        have HW : Hid (optW opts j = a.2) := by show _ = _; rw [optW, HA.out]
        have HN2 : Hid (bestN (placeT p fr latest grace) opts (j + 1) = if ((placeT p fr latest grace) a).2 = true ∧ (s.fd = false ∨ ((placeT p fr latest grace) a).1 + a.2 < s.st + optW opts s.ch) then ⟨j, ((placeT p fr latest grace) a).1, true⟩ else s) := by show _ = _; rw [HNx.out, bestStep, HA.out, HW.out]
        obtain ⟨r, hr⟩ : ∃ r, r = (placeT p fr latest grace) a := ⟨_, rfl⟩
        have HB := Lib.hid (best1_any _ _ _ _ A n c p fr latest grace a (wr.alloc (.cells #[.int .i64 a.1, .int .i64 a.2] 63)) (HH.out.below (bw.alloc bw.size _)) hn (hbx.below ((Below.refl _ _).alloc (Nat.le_refl _) _)) hg0)
        have hpk := fun h => placeT_ok (p := p) (fr := fr) (latest := latest) (a := a) hg0 h
        rw [← hr] at HB HN2 hpk
        have HPk := Lib.hid hpk
        have kx := Blk.new wr 63 #[.int .i64 a.1, .int .i64 a.2]
        have bw2 := bw.alloc bw.size (.cells #[.int .i64 a.1, .int .i64 a.2] 63)
        have hbx2 := hbx.below ((Below.refl _ _).alloc (Nat.le_refl _) (.cells #[.int .i64 a.1, .int .i64 a.2] 63))
        clear hr ha hpk HNx
        obtain ⟨v, b⟩ := r
        simp only at HB HN2 HPk
        go_wp2_with fail
        refine HB.out.mono ?_
        rintro e w2 ⟨rfl, b2⟩
        have bw3 := below_step bw2 b2
        have hbx3 := hbx2.below b2
        have kx2 := kx.below b2 kx.lt
        have y1 : w2.cell? ⟨wr.heap.size, 1, none⟩ = some (.int .i64 a.2) := kx2.cell 1
        clear c0 c1 hbx hbx2 bw bw2 b2 kx kx2 HB
        cases b
        · rw [if_neg (by simp)] at HN2
          go_wp2_with fail
          go_quiet (fail)
          go_wp2_with fail
          exact ⟨⟨j + 1, by rw [HL.out]; omega, by go_num, by rw [HN2.out], by rw [HN2.out], by rw [HN2.out], hbx3.below (below_drewN (Below.refl _ _) _), below_drewN bw3 _⟩, by simp [intOf]; omega⟩
        · obtain ⟨h1, h2, h3, h4⟩ := HPk.out rfl
          obtain ⟨ch, st, fd⟩ := s
          cases fd
          · rw [if_pos ⟨rfl, .inl rfl⟩] at HN2
            go_wp2_with fail
            go_quiet (fail)
            go_wp2_with fail
            exact ⟨⟨j + 1, by rw [HL.out]; omega, by go_num, by rw [HN2.out], by rw [HN2.out], by rw [HN2.out], hbx3.below (below_drewN (Below.refl _ _) _), below_drewN bw3 _⟩, by simp [intOf]; omega⟩
          · obtain ⟨k1, k2, k3, k4, k5⟩ := HOk.out rfl
            simp only at k1 k2 k3 k4 k5
            obtain ⟨ab', off', x, e, _, hx, e0, e1⟩ := Lst.two (HG.out.below bw3) (show ch < 48 by omega)
            injection e with e
            injection e with e1' e2'
            subst e1' e2'
            have HWc : Hid (optW opts ch = x.2) := by show _ = _; simp [optW, List.getD, hx]
            rw [HWc.out] at k4 k5 HN2
            have hw6 : (ch : Int) < 48 := by omega
            clear hx
            by_cases hcmp : v + a.2 < st + x.2
            · have hc2 : decide (st + x.2 ≤ v + a.2) = false := by simp; omega
              rw [if_pos ⟨rfl, .inr hcmp⟩] at HN2
              go_wp2_with fail
              go_quiet (fail)
              go_wp2_with fail
              exact ⟨⟨j + 1, by rw [HL.out]; omega, by go_num, by rw [HN2.out], by rw [HN2.out], by rw [HN2.out], hbx3.below (below_drewN (Below.refl _ _) _), below_drewN bw3 _⟩, by simp [intOf]; omega⟩
            · have hc2 : decide (st + x.2 ≤ v + a.2) = true := by simp; omega
              rw [if_neg (by simp; omega)] at HN2
              go_wp2_with fail
              go_quiet (fail)
              go_wp2_with fail
              exact ⟨⟨j + 1, by rw [HL.out]; omega, by go_num, by rw [HN2.out], by rw [HN2.out], by rw [HN2.out], hbx3.below (below_drewN (Below.refl _ _) _), below_drewN bw3 _⟩, by simp [intOf]; omega⟩
      · obtain rfl : j = 48 := by omega
        go_wp2_with fail
        try rw [Exit.noGoto_ret]
        go_ret3
        rw [← HS.out]
        exact ⟨rfl, bw⟩
/-- what Best returns -/
def bestT (p : List Stp) (fr latest gr0 : Int) (opts : List Stp) : Bst := bestN (placeT p fr latest (max gr0 0)) (opts.take 48) (min opts.length 48)
theorem best_any (A : Option Addr) (n c : Nat) (p : List Stp) (B : Option Addr) (m d : Nat) (opts : List Stp) (fr latest gr0 : Int) (w : World) (h : Steps w A n p) (hn : n ≤ maxLen) (g : Steps w B m opts) (hm : m ≤ maxLen) (hd : m ≤ d) :
    Calls Try.prog 33 #[.slice A n c, .slice B m d, .int .i64 fr, .int .i64 latest, .int .i64 gr0] w (BestPost (bestT p fr latest gr0 opts) w) := by
  have hl := g.len
  subst hl
  by_cases hs : opts.length ≤ 48
  · have := best_short A n c p B d opts fr latest gr0 w h hn g hs
    rw [bestT, List.take_of_length_le hs, Nat.min_eq_left hs]
    exact this
  · have := best_long A n c p B d (opts.take 48) fr latest gr0 w h hn opts.length (Lst.pre g 48 (by omega)) (by omega) hd hm
    rw [bestT, Nat.min_eq_right (by omega)]
    exact this
end Go.Proofs.Ytmjjbodglbdadaa.ProfW
