/-
  ShapeOptions: the law's walk.
-/
import Derived.Test.YthfnmighhoighaaShapeLaw
import Derived.Test.YthfnmighhoighaaShapeLawPlain
namespace Go.Proofs.Ythfnmighhoighaa.ShapeW
open Go.RowKit Mem Shape
set_option linter.unusedVariables false
set_option linter.unusedSimpArgs false
set_option linter.unnecessarySimpa false

theorem lit1 (w : World) (a : Al) : Als (w.alloc (.cells #[.int .i64 a.nd, .int .i64 a.wl] 38)) (some ⟨w.heap.size, 0, none⟩) 1 [a] := Lst.new layA _ _ _ _ rfl
theorem arg1 (w : World) (a : Al) : ArgS (w.alloc (.cells #[.int .i64 a.nd, .int .i64 a.wl] 38)) (some ⟨w.heap.size, 0, none⟩) 1 1 ⟨1, [a], 0, 0, 0⟩ := ⟨lit1 w a, by omega, by omega, fun h => by cases h⟩
def OpRel (V : World) (l : List Al) (Y : Value) (wr : World) : Prop := ∃ k : Nat, k ≤ l.length ∧ Y = .int .i64 k ∧ Below V.heap.size V wr
def OpRel2 (V : World) (k : Nat) (Y : Value) (wr : World) : Prop := ∃ j : Nat, j ≤ k ∧ Y = .int .i64 j ∧ Below V.heap.size V wr
set_option maxHeartbeats 8000000 in
set_option maxRecDepth 100000 in
theorem soptions_any (A : Option Addr) (n c : Nat) (s : Sh) (W : World) (g : ArgX W A n c s) : Calls Try.prog 5 #[shV A n c s] W (TrueB W) := by
  have hlen := g.st.len
  subst hlen
  obtain ⟨V, hV⟩ : ∃ V, V = W.alloc (shO A s.al.length c s) := ⟨_, rfl⟩
  have bV : Below W.heap.size W V := by rw [hV]; exact (Below.refl _ _).alloc (Nat.le_refl _) _
  have k0 : Blk V W.heap.size 24 #[.int .i64 s.kd, .slice A s.al.length c, .int .i64 s.mn, .int .i64 s.mx, .int .i64 s.wl] := by rw [hV]; exact Blk.new _ _ _
  obtain ⟨x0, x1, x2, x3, x4⟩ := blk5 k0
  have HAw := Lib.hid sawake_any
  by_cases hn : s.al.length ≤ 100
  case neg =>
    have HF := Lib.hid (sfew_is false A s.al.length c s V (by simp; omega))
    clear g
    go_enter Try.func5, Try.ntmps5
    go_wp2_with fail
    rw [← hV]
    clear hV
    refine HF.out.mono ?_
    rintro e w1 ⟨rfl, b1⟩
    go_wp2_with fail
    refine (HAw.out _).mono ?_
    rintro e w2 ⟨rfl, b2⟩
    go_wp2_with fail
    go_ret
    exact ⟨rfl, below_step (below_step bV b1) b2⟩
  have HF := Lib.hid (sfew_is true A s.al.length c s V (by simp; omega))
  have HG := Lib.hid ((g.arg hn).below bV)
  clear g
  cases hck : chk s
  · have HE := Lib.hid (opt_no hck)
    have HC := Lib.hid (chkE_no hck)
    go_enter Try.func5, Try.ntmps5
    go_wp2_with fail
    rw [← hV]
    clear hV hck
    refine HF.out.mono ?_
    rintro e w1 ⟨rfl, b1⟩
    have b01 := below_step bV b1
    have k1 := k0.below b1 k0.lt
    clear x0 x1 x2 x3 x4
    obtain ⟨x0, x1, x2, x3, x4⟩ := blk5 k1
    have HG1 := Lib.hid (HG.out.below b1)
    go_wp2_with fail
    refine (options_is [] A s.al.length c s w1 HG1.out HE.out).mono ?_
    rintro e w2 ⟨A2, c2, rfl, o2, b2⟩
    have k2 := k1.below b2 k1.lt
    clear x0 x1 x2 x3 x4 o2
    simp only [List.length_nil]
    obtain ⟨x0, x1, x2, x3, x4⟩ := blk5 k2
    go_wp2_with fail
    refine (check_is 70 A s.al.length c s w2 (HG1.out.below b2) HC.out).mono ?_
    rintro e w3 ⟨rfl, b3⟩
    have k3 := k2.below b3 k2.lt
    clear x0 x1 x2 x3 x4
    obtain ⟨x0, x1, x2, x3, x4⟩ := blk5 k3
    have b13 := below_step b2 b3
    go_wp2_with fail
    refine (least_is 0 A s.al.length c s w3 (HG1.out.below b13) (by rw [HE.out]; rfl)).mono ?_
    rintro e w4 ⟨rfl, b4⟩
    have k4 := k3.below b4 k3.lt
    clear x0 x1 x2 x3 x4
    obtain ⟨x0, x1, x2, x3, x4⟩ := blk5 k4
    have b14 := below_step b13 b4
    go_wp2_with fail
    refine (allows_is false A s.al.length c s 0 1 w4 (HG1.out.below b14) (by unfold allowsB; rw [HE.out]; rfl)).mono ?_
    rintro e w5 ⟨rfl, b5⟩
    go_wp2_with fail
    refine (HAw.out _).mono ?_
    rintro e w6 ⟨rfl, b6⟩
    go_wp2_with fail
    go_ret
    exact ⟨rfl, below_step b01 (below_step (below_step b14 b5) b6)⟩
  have HC := Lib.hid (chkE_yes hck)
  have hl1 := opt_len hck
  have hl48 := opt_few (s := s)
  have HOne : Hid (∀ a, a ∈ optL s → chkE ⟨1, [a], 0, 0, 0⟩ = 0) := fun a ha => opt_one hck ha
  have HAl : Hid (∀ (i : Nat) a, (optL s)[i]? = some a → allowsB s (i : Int) a.nd = true) := fun i a ha => opt_allowed ha
  have HLe : Hid (∀ a, a ∈ optL s → leastN (optL s) ≤ a.nd) := fun a ha => opt_least ha
  have HMo : Hid (∀ a, a ∈ optL s → a.nd ≤ mostN (optL s)) := fun a ha => opt_most ha
  have HAp : Hid (∀ (i k : Nat) (a b : Al), k < i → (optL s)[i]? = some a → (optL s)[k]? = some b → b.nd ≠ a.nd) := fun i k a b h ha hb => opt_apart hck h ha hb
  obtain ⟨l, hl⟩ : ∃ l, l = optL s := ⟨_, rfl⟩
  rw [← hl] at hl1 hl48 HOne HAl HLe HMo HAp
  have Hl := Lib.hid hl.symm
  clear hl hck
  have t1 : decide (l.length < 1) = false := by rw [decide_eq_false_iff_not]; omega
  have t1' : ¬ (l.length : Int) < 1 := by omega
  have t2 : decide (48 < l.length) = false := by rw [decide_eq_false_iff_not]; omega
  have t2' : ¬ (48 : Int) < (l.length : Int) := by omega
  go_enter Try.func5, Try.ntmps5
  go_wp2_with fail
  rw [← hV]
  clear hV
  refine HF.out.mono ?_
  rintro e w1 ⟨rfl, b1⟩
  have b01 := below_step bV b1
  have k1 := k0.below b1 k0.lt
  clear x0 x1 x2 x3 x4
  obtain ⟨x0, x1, x2, x3, x4⟩ := blk5 k1
  have HG1 := Lib.hid (HG.out.below b1)
  go_wp2_with fail
  refine (options_is l A s.al.length c s w1 HG1.out Hl.out).mono ?_
  rintro e w2 ⟨A2, c2, rfl, o2, b2⟩
  have k2 := k1.below b2 k1.lt
  have HO2 := Lib.hid o2
  clear x0 x1 x2 x3 x4 o2
  obtain ⟨x0, x1, x2, x3, x4⟩ := blk5 k2
  go_wp2_with fail
  refine (check_is 0 A s.al.length c s w2 (HG1.out.below b2) HC.out).mono ?_
  rintro e w3 ⟨rfl, b3⟩
  have k3 := k2.below b3 k2.lt
  have HO3 := Lib.hid ((HO2.out.below b3).lst layA)
  clear x0 x1 x2 x3 x4
  have b13 := below_step b2 b3
  have b03 := below_step b01 b13
  have HG3 := Lib.hid (HG1.out.below b13)
  have HK3 := Lib.hid k3
  clear k0 k1 k2 k3
  go_wp2_with fail
  go_loopw [4] (fun Y wr => OpRel w3 l Y wr) (fun Y _ => l.length - (intOf Y).toNat)
  case atStart => exact ⟨0, by omega, rfl, Below.refl _ _⟩
  case round =>
    obtain ⟨k, hk, rfl, hbel⟩ := hrel
    obtain ⟨wo, hwo⟩ : ∃ wo : World, wo = wr := ⟨_, rfl⟩
    by_cases hlt : k < l.length
    · have kr := HK3.out.below hbel HK3.out.lt
      obtain ⟨x0, x1, x2, x3, x4⟩ := blk5 kr
      have HOr := Lib.hid (HO3.out.below hbel)
      obtain ⟨b, off, a, rfl, hb, ha, d0, d1⟩ := Lst.alt HOr.out hlt
      have ham := mem_of_at ha
      have hle := HLe.out a ham
      have hmo := HMo.out a ham
      have HC1 := Lib.hid (HOne.out a ham)
      have HA1 := Lib.hid (HAl.out k a ha)
      have HA := Lib.hid ha
      have HGr := Lib.hid (HG3.out.below hbel)
      have HCk : Hid (Calls Try.prog 13 #[.agg #[.int .i64 1, .slice (some ⟨wr.heap.size, 0, none⟩) 1 1, .int .i64 0, .int .i64 0, .int .i64 0]] (wr.alloc (.cells #[.int .i64 a.nd, .int .i64 a.wl] 38)).drew (InC wr (.int .i64 0))) := (check_is 0 _ 1 1 ⟨1, [a], 0, 0, 0⟩ _ ((arg1 wr a).below (below_drewN (Below.refl _ _) 1)) HC1.out).mono fun e w h => InC.of (below_drewN ((Below.refl _ _).alloc (Nat.le_refl _) _) 1) h
      have HAs : Hid (∀ w', Below wr.heap.size wr w' → Calls Try.prog 25 #[shV A s.al.length c s, .int .i64 k, .int .i64 a.nd] w' (InC wr (.bool true))) := fun w' bb => (allows_is true A _ c s k a.nd w' (HGr.out.below bb) HA1.out).mono fun e w h => InC.of bb h
      have HLs : Hid (∀ w', Below wr.heap.size wr w' → Calls Try.prog 18 #[shV A s.al.length c s] w' (InC wr (.int .i64 (leastN l)))) := fun w' bb => (least_is (leastN l) A _ c s w' (HGr.out.below bb) (by rw [Hl.out])).mono fun e w h => InC.of bb h
      have HMs : Hid (∀ w', Below wr.heap.size wr w' → Calls Try.prog 20 #[shV A s.al.length c s] w' (InC wr (.int .i64 (mostN l)))) := fun w' bb => (most_is (mostN l) A _ c s w' (HGr.out.below bb) (by rw [Hl.out])).mono fun e w h => InC.of bb h
      have u1 : decide (a.nd < leastN l) = false := by simp; omega
      have u2 : decide (mostN l < a.nd) = false := by simp; omega
      obtain ⟨le, hle'⟩ : ∃ le, le = leastN l := ⟨_, rfl⟩
      obtain ⟨mo, hmo'⟩ : ∃ mo, mo = mostN l := ⟨_, rfl⟩
      rw [← hle'] at HLs u1 hle
      rw [← hmo'] at HMs u2 hmo
      have b0 : Below wr.heap.size wr wr.drew := below_drewN (Below.refl _ _) 1
      have ba : Below wr.heap.size wr (wr.alloc (.cells #[.int .i64 a.nd, .int .i64 a.wl] 38)) := (Below.refl _ _).alloc (Nat.le_refl _) _
      have bd : Below wr.heap.size wr (wr.alloc (.cells #[.int .i64 a.nd, .int .i64 a.wl] 38)).drew := below_drewN ba 1
      have HSw : Hid (∀ w', Below wr.heap.size wr w' → w'.cell? ⟨W.heap.size, 0, none⟩ = some (.int .i64 s.kd) ∧ w'.cell? ⟨W.heap.size, 1, none⟩ = some (.slice A s.al.length c) ∧ w'.cell? ⟨W.heap.size, 2, none⟩ = some (.int .i64 s.mn) ∧ w'.cell? ⟨W.heap.size, 3, none⟩ = some (.int .i64 s.mx) ∧ w'.cell? ⟨W.heap.size, 4, none⟩ = some (.int .i64 s.wl) ∧ w'.cell? ⟨b, off + k * 2, none⟩ = some (.int .i64 a.nd) ∧ w'.cell? ⟨b, off + k * 2 + 1, none⟩ = some (.int .i64 a.wl)) := fun w' bb => by
        obtain ⟨y0, y1, y2, y3, y4⟩ := blk5 (kr.below bb kr.lt)
        exact ⟨y0, y1, y2, y3, y4, (bb.cell (p := ⟨b, off + k * 2, none⟩) hb).trans d0, (bb.cell (p := ⟨b, off + k * 2 + 1, none⟩) hb).trans d1⟩
      clear ha ham hle' hmo' kr hwo
      go_wp2_with fail
      go_region_held3 (fun w' => w'.cell? ⟨W.heap.size, 0, none⟩ = some (.int .i64 s.kd) ∧ w'.cell? ⟨W.heap.size, 1, none⟩ = some (.slice A s.al.length c) ∧ w'.cell? ⟨W.heap.size, 2, none⟩ = some (.int .i64 s.mn) ∧ w'.cell? ⟨W.heap.size, 3, none⟩ = some (.int .i64 s.mx) ∧ w'.cell? ⟨W.heap.size, 4, none⟩ = some (.int .i64 s.wl) ∧ w'.cell? ⟨b, off + k * 2, none⟩ = some (.int .i64 a.nd) ∧ w'.cell? ⟨b, off + k * 2 + 1, none⟩ = some (.int .i64 a.wl))
        (first | with_reducible exact HSw.out _ b0 | with_reducible exact HSw.out _ ba | with_reducible exact HSw.out _ bd | with_reducible exact HSw.out _ b5 | with_reducible exact HSw.out _ b6 | with_reducible exact HSw.out _ b7 | with_reducible exact HSw.out _ b8)
        (first
          | (go_at_call 13; with_reducible refine HCk.out.mono ?_; rintro e w5 ⟨rfl, b5⟩)
          | (go_at_call 25; with_reducible refine (HAs.out _ ?_).mono ?_; (with_reducible assumption); rintro e w6 ⟨rfl, b6⟩)
          | (go_at_call 18; with_reducible refine (HLs.out _ ?_).mono ?_; (with_reducible assumption); rintro e w7 ⟨rfl, b7⟩)
          | (go_at_call 20; with_reducible refine (HMs.out _ ?_).mono ?_; (with_reducible assumption); rintro e w8 ⟨rfl, b8⟩))
      go_wp2_with fail
      have b38 := below_step hbel b8
      go_loopw [5] (fun Y wq => OpRel2 w8 k Y wq) (fun Y _ => k - (intOf Y).toNat)
      case atStart => exact ⟨0, by omega, rfl, Below.refl _ _⟩
      case round =>
        rename_i wq
        obtain ⟨j, hj, rfl, hb2⟩ := hrel
        have b3q := below_step b38 hb2
        clear x0 x1 x2 x3 x4 d0 d1
        by_cases hjk : j < k
        · obtain ⟨b', off', z, e', _, hz, f0, f1⟩ := Lst.alt (HO3.out.below b3q) (show j < l.length by omega)
          injection e' with e'
          injection e' with e1 e2
          subst e1 e2
          obtain ⟨b', off', z', e', _, hz', d0, d1⟩ := Lst.alt (HO3.out.below b3q) hlt
          injection e' with e'
          injection e' with e1 e2
          subst e1 e2
          obtain rfl : z' = a := by
            have := HA.out
            rw [hz'] at this
            exact Option.some.inj this
          have hne : (z.nd == z'.nd) = false := by rw [beq_eq_false_iff_ne]; exact HAp.out k j z' z hjk hz' hz
          clear hz hz'
          go_wp2_with fail
          go_quiet (fail)
          go_wp2_with fail
          exact ⟨⟨j + 1, by omega, by go_num, below_drewN hb2 _⟩, by simp [intOf]; omega⟩
        · obtain rfl : j = k := by omega
          go_wp2_with fail
          exact ⟨⟨j + 1, by omega, by go_num, b3q⟩, by simp [intOf]; omega⟩
    · obtain rfl : k = l.length := by omega
      clear hwo
      go_wp2_with fail
      refine (HAw.out _).mono ?_
      rintro e w9 ⟨rfl, b9⟩
      go_wp2_with fail
      go_ret
      exact ⟨rfl, below_step (below_step b03 hbel) b9⟩
end Go.Proofs.Ythfnmighhoighaa.ShapeW
