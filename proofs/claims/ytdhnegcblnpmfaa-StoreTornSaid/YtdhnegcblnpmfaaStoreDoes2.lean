/-
  The law's does: read, arm, boot, off, and any other kind.
-/
import Derived.Test.YtdhnegcblnpmfaaStoreDoes
namespace Go.Proofs.Ytdhnegcblnpmfaa.StorW
open Go.RowKit Mem Stor
set_option linter.unusedVariables false

set_option maxHeartbeats 4000000 in
set_option maxRecDepth 100000 in
theorem does_read (base g : Nat) (A : Option Addr) (c : Nat) (s : Sto) (a b : Int) (t : ByteArray) (w : World) (h : ROwn w base A s.bs.length c s.bs) (hi : Is w base g s) (hbase : base ≤ w.heap.size) (hok : s.Ok) :
    Calls Try.prog 23 #[.pointer (some ⟨g, 0, none⟩), rv A s.bs.length c s, av 0 a b t] w (DoesPost base g s.bs.length s w) := by
  have HB := Lib.hid (Boxes.new w A s.bs.length c s ⟨0, a, b, t⟩)
  simp only at HB
  have HH := Lib.hid h
  have HI := Lib.hid hi
  have HOk := Lib.hid hok
  obtain ⟨rd, hrd⟩ : ∃ rd, readS s a = rd := ⟨_, rfl⟩
  obtain ⟨r1, r2⟩ := rd
  have HRd := Lib.hid hrd
  clear h hi hok hrd
  unfold rv av
  go_enter Try.func23, Try.ntmps23
  go_wp2_with fail
  obtain ⟨W, hW⟩ : ∃ W, W = (((w.alloc (.cells #[.slice A s.bs.length c, .bool s.off, .int .i64 s.wr, .int .i64 s.left, .int .i64 s.keep] 42)).alloc (.cells #[.int .i64 0, .int .i64 a, .int .i64 b, .string t] 24)).alloc (.cells #[.slice none 0 0, .bool false, .int .i64 0, .int .i64 0, .int .i64 0] 42)) := ⟨_, rfl⟩
  have hb0 : Below w.heap.size w W := by rw [hW]; exact below_box3 _ _ _ _
  rw [← hW]
  rw [← hW] at HB
  clear hW
  obtain ⟨p0, p1, p2, p3⟩ := blk4 HB.out.ac
  obtain ⟨⟨q0, q1, q2, q3, q4⟩, _⟩ := blk5 HB.out.st
  simp only at p0 p1 p2 p3
  refine (read_is r1 r2 _ _ _ a _ (HI.out.below hb0) HOk.out HRd.out).mono ?_
  rintro e w2 ⟨rfl, rfl⟩
  go_wp2_with fail
  refine (rread_any A c s a _ (HH.out.below hb0).txs (by have := HOk.out.few; omega)).mono ?_
  rw [HRd.out]
  rintro e w3 ⟨rfl, hb3⟩
  have hx3 := HB.out.below hb3
  have hb4 := below_step hb0 hb3
  clear p0 p1 p2 p3 q0 q1 q2 q3 q4 hb0 hb3
  obtain ⟨⟨q0, q1, q2, q3, q4⟩, _⟩ := blk5 hx3.st
  obtain ⟨⟨z0, z1, z2, z3, z4⟩, y0, y1, y2, y3, y4⟩ := blk5 hx3.re
  have hre := hx3.re
  clear hx3
  go_wp2_with fail
  refine bodyPost_ret (v := .tuple #[rv A s.bs.length c s, .bool true]) (by simp [results, Try.results23, go_sem, rv, z0, z1, z2, z3, z4]) rfl ?_
  exact does_end (Nat.le_trans hbase (by omega)) (HI.out.below hb4) (HH.out.below hb4) hre (hb4.mono hbase) (by omega) (keepS_below hb4)

set_option maxHeartbeats 4000000 in
set_option maxRecDepth 100000 in
theorem does_none (base g : Nat) (A : Option Addr) (c : Nat) (s : Sto) (k a b : Int) (t : ByteArray) (w : World) (h : ROwn w base A s.bs.length c s.bs) (hi : Is w base g s) (hbase : base ≤ w.heap.size) (h0 : k ≠ 0) (h1 : k ≠ 1) (h2 : k ≠ 2) (h3 : k ≠ 3) (h4 : k ≠ 4) :
    Calls Try.prog 23 #[.pointer (some ⟨g, 0, none⟩), rv A s.bs.length c s, av k a b t] w (DoesPost base g s.bs.length s w) := by
  have HB := Lib.hid (Boxes.new w A s.bs.length c s ⟨k, a, b, t⟩)
  simp only at HB
  have HH := Lib.hid h
  have HI := Lib.hid hi
  have e0 : (k == 0) = false := by simpa using h0
  have e1 : (k == 1) = false := by simpa using h1
  have e2 : (k == 2) = false := by simpa using h2
  have e3 : (k == 3) = false := by simpa using h3
  have e4 : (k == 4) = false := by simpa using h4
  clear h hi h0 h1 h2 h3 h4
  unfold rv av
  go_enter Try.func23, Try.ntmps23
  go_wp2_with fail
  refine bodyPost_ret (v := .tuple #[rv A s.bs.length c s, .bool true]) (by simp [results, Try.results23, go_sem, rv]) rfl ?_
  exact ⟨A, c, rfl, HH.out.below (below_box3 _ _ _ _), HI.out.below (below_box3 _ _ _ _), (below_box3 _ _ _ _).mono hbase, keepS_below (below_box3 _ _ _ _)⟩

set_option maxHeartbeats 4000000 in
set_option maxRecDepth 100000 in
theorem does_boot (base g : Nat) (A : Option Addr) (c : Nat) (s : Sto) (a b : Int) (t : ByteArray) (w : World) (h : ROwn w base A s.bs.length c s.bs) (hi : Is w base g s) (hbase : base ≤ w.heap.size) (hok : s.Ok) :
    Calls Try.prog 23 #[.pointer (some ⟨g, 0, none⟩), rv A s.bs.length c s, av 3 a b t] w (DoesPost base g s.bs.length (power s true) w) := by
  have HB := Lib.hid (Boxes.new w A s.bs.length c s ⟨3, a, b, t⟩)
  simp only at HB
  have HH := Lib.hid h
  have HI := Lib.hid hi
  have HOk := Lib.hid hok
  clear h hi hok
  unfold rv av
  go_enter Try.func23, Try.ntmps23
  go_wp2_with fail
  obtain ⟨W, hW⟩ : ∃ W, W = (((w.alloc (.cells #[.slice A s.bs.length c, .bool s.off, .int .i64 s.wr, .int .i64 s.left, .int .i64 s.keep] 42)).alloc (.cells #[.int .i64 3, .int .i64 a, .int .i64 b, .string t] 24)).alloc (.cells #[.slice none 0 0, .bool false, .int .i64 0, .int .i64 0, .int .i64 0] 42)) := ⟨_, rfl⟩
  have hb0 : Below w.heap.size w W := by rw [hW]; exact below_box3 _ _ _ _
  rw [← hW]
  rw [← hW] at HB
  clear hW
  refine (rpower_any A s.bs.length c s true W).mono ?_
  rintro e w3 ⟨rfl, hb3⟩
  have hx3 := HB.out.below hb3
  have hb4 := below_step hb0 hb3
  clear hb0 hb3
  unfold rv power
  go_wp2_with fail
  refine (boot_any base g s _ (HI.out.below hb4) HOk.out).mono ?_
  rintro e w5 ⟨rfl, hi5, hb5, hk5⟩
  have hx5 := hx3.keep hk5
  clear hx3
  obtain ⟨⟨z0, z1, z2, z3, z4⟩, y0, y1, y2, y3, y4⟩ := blk5 hx5.re
  have hre := hx5.re
  clear hx5
  go_wp2_with fail
  refine bodyPost_ret (v := .tuple #[rv A s.bs.length c (power s true), .bool true]) (by simp [results, Try.results23, go_sem, rv, power, z0, z1, z2, z3, z4]) rfl ?_
  exact does_end (s' := power s true) (Nat.le_trans hbase (by omega)) hi5 ((HH.out.below hb4).keep hk5) hre ((hb4.mono hbase).trans hb5) (by omega) ((keepS_below hb4).trans hk5)

set_option maxHeartbeats 4000000 in
set_option maxRecDepth 100000 in
theorem does_off (base g : Nat) (A : Option Addr) (c : Nat) (s : Sto) (a b : Int) (t : ByteArray) (w : World) (h : ROwn w base A s.bs.length c s.bs) (hi : Is w base g s) (hbase : base ≤ w.heap.size) (hok : s.Ok) :
    Calls Try.prog 23 #[.pointer (some ⟨g, 0, none⟩), rv A s.bs.length c s, av 4 a b t] w (DoesPost base g s.bs.length (power s false) w) := by
  have HB := Lib.hid (Boxes.new w A s.bs.length c s ⟨4, a, b, t⟩)
  simp only at HB
  have HH := Lib.hid h
  have HI := Lib.hid hi
  have HOk := Lib.hid hok
  clear h hi hok
  unfold rv av
  go_enter Try.func23, Try.ntmps23
  go_wp2_with fail
  obtain ⟨W, hW⟩ : ∃ W, W = (((w.alloc (.cells #[.slice A s.bs.length c, .bool s.off, .int .i64 s.wr, .int .i64 s.left, .int .i64 s.keep] 42)).alloc (.cells #[.int .i64 4, .int .i64 a, .int .i64 b, .string t] 24)).alloc (.cells #[.slice none 0 0, .bool false, .int .i64 0, .int .i64 0, .int .i64 0] 42)) := ⟨_, rfl⟩
  have hb0 : Below w.heap.size w W := by rw [hW]; exact below_box3 _ _ _ _
  rw [← hW]
  rw [← hW] at HB
  clear hW
  refine (rpower_any A s.bs.length c s false W).mono ?_
  rintro e w3 ⟨rfl, hb3⟩
  have hx3 := HB.out.below hb3
  have hb4 := below_step hb0 hb3
  clear hb0 hb3
  unfold rv power
  go_wp2_with fail
  refine (off_any base g s _ (HI.out.below hb4) HOk.out).mono ?_
  rintro e w5 ⟨rfl, hi5, hb5, hk5⟩
  have hx5 := hx3.keep hk5
  clear hx3
  obtain ⟨⟨z0, z1, z2, z3, z4⟩, y0, y1, y2, y3, y4⟩ := blk5 hx5.re
  have hre := hx5.re
  clear hx5
  go_wp2_with fail
  refine bodyPost_ret (v := .tuple #[rv A s.bs.length c (power s false), .bool true]) (by simp [results, Try.results23, go_sem, rv, power, z0, z1, z2, z3, z4]) rfl ?_
  exact does_end (s' := power s false) (Nat.le_trans hbase (by omega)) hi5 ((HH.out.below hb4).keep hk5) hre ((hb4.mono hbase).trans hb5) (by omega) ((keepS_below hb4).trans hk5)

set_option maxHeartbeats 4000000 in
set_option maxRecDepth 100000 in
theorem does_arm (base g : Nat) (A : Option Addr) (c : Nat) (s : Sto) (a b : Int) (t : ByteArray) (w : World) (h : ROwn w base A s.bs.length c s.bs) (hi : Is w base g s) (hbase : base ≤ w.heap.size) (hok : s.Ok) :
    Calls Try.prog 23 #[.pointer (some ⟨g, 0, none⟩), rv A s.bs.length c s, av 2 a b t] w (DoesPost base g s.bs.length (arm s a b).1 w) := by
  have HB := Lib.hid (Boxes.new w A s.bs.length c s ⟨2, a, b, t⟩)
  simp only at HB
  have HH := Lib.hid h
  have HI := Lib.hid hi
  have HOk := Lib.hid hok
  have hbs : (arm s a b).1.bs = s.bs := by
    unfold arm
    repeat' split
    all_goals rfl
  have HBs := Lib.hid hbs
  obtain ⟨s', hs'⟩ : ∃ s', s' = arm s a b := ⟨_, rfl⟩
  have HE := Lib.hid hs'
  rw [← hs'] at HBs
  rw [← hs']
  clear h hi hok hbs hs'
  obtain ⟨s', e'⟩ := s'
  simp only at HBs
  unfold rv av
  go_enter Try.func23, Try.ntmps23
  go_wp2_with fail
  obtain ⟨W, hW⟩ : ∃ W, W = (((w.alloc (.cells #[.slice A s.bs.length c, .bool s.off, .int .i64 s.wr, .int .i64 s.left, .int .i64 s.keep] 42)).alloc (.cells #[.int .i64 2, .int .i64 a, .int .i64 b, .string t] 24)).alloc (.cells #[.slice none 0 0, .bool false, .int .i64 0, .int .i64 0, .int .i64 0] 42)) := ⟨_, rfl⟩
  have hb0 : Below w.heap.size w W := by rw [hW]; exact below_box3 _ _ _ _
  rw [← hW]
  rw [← hW] at HB
  clear hW
  refine (rarm_any A s.bs.length c s a b W).mono ?_
  rw [← HE.out]
  rintro e w3 ⟨rfl, hb3⟩
  have hx3 := HB.out.below hb3
  have hb4 := below_step hb0 hb3
  clear hb0 hb3
  unfold rv
  go_wp2_with fail
  obtain ⟨V, hV⟩ : ∃ V, V = w3.alloc (.cells #[.slice A s.bs.length c, .bool s'.off, .int .i64 s'.wr, .int .i64 s'.left, .int .i64 s'.keep] 42) := ⟨_, rfl⟩
  have hkP : Blk V w3.heap.size 42 #[.slice A s.bs.length c, .bool s'.off, .int .i64 s'.wr, .int .i64 s'.left, .int .i64 s'.keep] := by rw [hV]; exact Blk.new _ _ _
  have hbV : Below w3.heap.size w3 V := by rw [hV]; exact (Below.refl _ _).alloc (Nat.le_refl _) _
  rw [← hV]
  clear hV
  have hx4 := hx3.below hbV
  have hb6 := below_step hb4 hbV
  have hxa := hx4.ac
  have hxr := hx4.re
  have hlt := hx3.re.lt
  simp only at hxa
  obtain ⟨P, hP⟩ : ∃ P, P = w3.heap.size := ⟨_, rfl⟩
  rw [← hP] at hkP hlt
  rw [← hP]
  have hne : P ≠ w.heap.size + 1 + 1 := by omega
  have hne2 : w.heap.size + 1 ≠ w.heap.size + 1 + 1 := by omega
  clear hP hx4 hx3 hbV hb4
  have HS : Hid (∀ w', Blk w' P 42 #[.slice A s.bs.length c, .bool s'.off, .int .i64 s'.wr, .int .i64 s'.left, .int .i64 s'.keep] → Blk w' (w.heap.size + 1) 24 #[.int .i64 2, .int .i64 a, .int .i64 b, .string t] →
      ((w'.cell? ⟨P, 0, none⟩ = some (.slice A s.bs.length c) ∧ w'.cell? ⟨P, 1, none⟩ = some (.bool s'.off) ∧ w'.cell? ⟨P, 2, none⟩ = some (.int .i64 s'.wr) ∧ w'.cell? ⟨P, 3, none⟩ = some (.int .i64 s'.left) ∧ w'.cell? ⟨P, 4, none⟩ = some (.int .i64 s'.keep)) ∧
     (w'.cell? ⟨w.heap.size + 1, 0, none⟩ = some (.int .i64 2) ∧ w'.cell? ⟨w.heap.size + 1, 1, none⟩ = some (.int .i64 a) ∧ w'.cell? ⟨w.heap.size + 1, 2, none⟩ = some (.int .i64 b) ∧ w'.cell? ⟨w.heap.size + 1, 3, none⟩ = some (.string t)))) := by
    show ∀ w', _
    intro w' h1 h2
    exact ⟨(blk5 h1).1, blk4 h2⟩
  have HWr : Hid (∀ w5, Is w5 base g s → Calls Try.prog 16 #[.pointer (some ⟨g, 0, none⟩), .int .i64 a, .int .i64 b] w5 (IsPost base g s' e' w5)) := by
    show ∀ w5, _
    intro w5 h5
    have := arm_any base g s a b w5 h5 HOk.out
    rw [← HE.out] at this
    exact this
  go_region_held3 (fun w' => (w'.cell? ⟨P, 0, none⟩ = some (.slice A s.bs.length c) ∧ w'.cell? ⟨P, 1, none⟩ = some (.bool s'.off) ∧ w'.cell? ⟨P, 2, none⟩ = some (.int .i64 s'.wr) ∧ w'.cell? ⟨P, 3, none⟩ = some (.int .i64 s'.left) ∧ w'.cell? ⟨P, 4, none⟩ = some (.int .i64 s'.keep)) ∧
     (w'.cell? ⟨w.heap.size + 1, 0, none⟩ = some (.int .i64 2) ∧ w'.cell? ⟨w.heap.size + 1, 1, none⟩ = some (.int .i64 a) ∧ w'.cell? ⟨w.heap.size + 1, 2, none⟩ = some (.int .i64 b) ∧ w'.cell? ⟨w.heap.size + 1, 3, none⟩ = some (.string t)))
      (first | with_reducible exact HS.out _ hkP.drew hxa.drew | with_reducible exact HS.out _ k7 x7 | with_reducible exact HS.out _ k9 x9)
      (first
        | (go_at_call 16; refine (HWr.out V.drew (HI.out.below (Below.drew hb6))).mono ?_; rintro e w7 ⟨rfl, hi7, hb7, hk7⟩; have k7 := hk7.blk hkP.drew (by decide) (by decide); have x7 := hk7.blk hxa.drew (by decide) (by decide); have r7 := hk7.blk hxr.drew (by decide) (by decide); obtain ⟨⟨z0, z1, z2, z3, z4⟩, y0, y1, y2, y3, y4⟩ := blk5 r7; have k9 := blk_other5 k7 hne (.slice A s.bs.length c) (.bool s'.off) (.int .i64 s'.wr) (.int .i64 s'.left) (.int .i64 s'.keep); have x9 := blk_other5 x7 hne2 (.slice A s.bs.length c) (.bool s'.off) (.int .i64 s'.wr) (.int .i64 s'.left) (.int .i64 s'.keep)))
  all_goals go_wp2_with fail
  refine bodyPost_ret (v := .tuple #[rv A s.bs.length c s', .bool true]) (by simp [results, Try.results23, go_sem, rv, z0, z1, z2, z3, z4]) rfl ?_
  exact does_end (Nat.le_trans hbase (by omega)) hi7 (by rw [HBs.out]; exact (HH.out.below (Below.drew hb6)).keep hk7) r7 (((Below.drew hb6).mono hbase).trans hb7) (by omega) ((keepS_below (Below.drew hb6)).trans hk7)
end Go.Proofs.Ytdhnegcblnpmfaa.StorW
