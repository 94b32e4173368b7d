/-
  Contract: frame.Take.
-/
import Derived.Test.YtgmoakbmomaffaaFrameLay
import Derived.Deep.DeepCutAuto
import Derived.Deep.CutBlock
namespace Go.Proofs.Ytgmoakbmomaffaa.FrameW
open Go.RowKit Mem Frm PackW
set_option linter.unusedVariables false
set_option linter.unusedSimpArgs false

theorem takeNum_eq (s : List UInt8) (a w : Int) : ∃ r x y, Pack.takeNum s a w = (r, x, y) := ⟨(Pack.takeNum s a w).1, (Pack.takeNum s a w).2.1, (Pack.takeNum s a w).2.2, rfl⟩
theorem takeText_eq (s : List UInt8) (a : Int) : ∃ r x y, Pack.takeText s a = (r, x, y) := ⟨(Pack.takeText s a).1, (Pack.takeText s a).2.1, (Pack.takeText s a).2.2, rfl⟩
theorem takeText_len (s : List UInt8) (a : Int) : (Pack.takeText s a).1.length ≤ s.length := by
  unfold Pack.takeText
  split
  · simp
  · split
    · simp
    · simp only
      have := List.length_take_le (Pack.takeNum s a 2).1.toNat (s.drop (Pack.takeNum s a 2).2.1.toNat)
      have h2 := List.length_take_le' (Pack.takeNum s a 2).1.toNat (s.drop (Pack.takeNum s a 2).2.1.toNat)
      simp at h2 ⊢
      omega
theorem guess_len (s : List UInt8) : (guess s).ln.length ≤ s.length := by
  unfold guess
  split
  · exact takeText_len s 1
  · split <;> simp
abbrev ev0C : Array Value := #[.int .i64 0, .string ⟨#[]⟩, .int .i64 0, .int .i64 0, .int .i64 0, .int .i64 0]
theorem lay_is (r : List UInt8) (x : Int) (e : Ev) (w : World) (hl : e.ln.length ≤ 1000000) (h : lay e = (r, x)) : Calls Try.prog 44 #[evV e] w (Ret (.tuple #[.string (str r), .int .i64 x]) w) := by
  have := lay_any e w hl
  rw [h] at this
  exact this
abbrev st6 (w : World) (B : Nat) (v0 v1 v2 v3 v4 v5 : Value) : World := (((((w.setCell ⟨B, 0, none⟩ v0).setCell ⟨B, 1, none⟩ v1).setCell ⟨B, 2, none⟩ v2).setCell ⟨B, 3, none⟩ v3).setCell ⟨B, 4, none⟩ v4).setCell ⟨B, 5, none⟩ v5
theorem st6_blk {w : World} {B : Nat} {t : TypeId} {u0 u1 u2 u3 u4 u5 : Value} (h : Blk w B t #[u0, u1, u2, u3, u4, u5]) (v0 v1 v2 v3 v4 v5 : Value) : Blk (st6 w B v0 v1 v2 v3 v4 v5) B t #[v0, v1, v2, v3, v4, v5] := (((((h.set 0 v0).set 1 v1).set 2 v2).set 3 v3).set 4 v4).set 5 v5
theorem st6_below {w0 w : World} {base B : Nat} (h : Below base w0 w) (hB : base ≤ B) (v0 v1 v2 v3 v4 v5 : Value) : Below base w0 (st6 w B v0 v1 v2 v3 v4 v5) := (((((h.setCell (p := ⟨B, 0, none⟩) hB v0).setCell (p := ⟨B, 1, none⟩) hB v1).setCell (p := ⟨B, 2, none⟩) hB v2).setCell (p := ⟨B, 3, none⟩) hB v3).setCell (p := ⟨B, 4, none⟩) hB v4).setCell (p := ⟨B, 5, none⟩) hB v5
def TkRel (w : World) (s : ByteArray) (wx : World) : Prop := Blk wx w.heap.size 73 ev0C ∧ Blk wx (w.heap.size + 1) 73 (evC (guess s.data.toList)) ∧ Below w.heap.size w wx
set_option maxHeartbeats 4000000 in
set_option maxRecDepth 100000 in
theorem take_any (s : ByteArray) (w : World) (hs : s.size ≤ 1000000) : Calls Try.prog 46 #[.string s] w (Ret (.tuple #[evV (take s.data.toList).1, .int .i64 (take s.data.toList).2]) w) := by
  have hsl : s.data.toList.length = s.size := by simp
  have hm : s.size ≤ maxLen := by unfold maxLen; omega
  have HM := Lib.hid hm
  have HGl : Hid ((guess s.data.toList).ln.length ≤ 1000000) := Nat.le_trans (guess_len _) (by omega)
  obtain ⟨k, p1, q1, h0⟩ := takeNum_eq s.data.toList 0 1
  have H0 := Lib.hid fun w => takeNum_is k p1 q1 s 0 1 w h0 HM.out
  have hk0 : (Pack.takeNum s.data.toList 0 1).1 = k := by rw [h0]
  obtain ⟨V, hV⟩ : ∃ V, V = (w.alloc (.cells ev0C 73)).alloc (.cells #[.int .i64 k, .string ⟨#[]⟩, .int .i64 0, .int .i64 0, .int .i64 0, .int .i64 0] 73) := ⟨_, rfl⟩
  have bV : Below w.heap.size w V := by rw [hV]; exact ((Below.refl _ _).alloc (Nat.le_refl _) _).alloc (by simp) _
  have kZ : Blk V w.heap.size 73 ev0C := by rw [hV]; exact (Blk.new _ _ _).alloc _
  have kE : Blk V (w.heap.size + 1) 73 #[.int .i64 k, .string ⟨#[]⟩, .int .i64 0, .int .i64 0, .int .i64 0, .int .i64 0] := by
    rw [hV]
    have := Blk.new (w.alloc (.cells ev0C 73)) 73 #[.int .i64 k, .string ⟨#[]⟩, .int .i64 0, .int .i64 0, .int .i64 0, .int .i64 0]
    simpa using this
  have HG1 := Lib.hid fun h => guess_1 (s := s.data.toList) h
  have HG3 := Lib.hid fun h => guess_3 (s := s.data.toList) h
  have HG0 := Lib.hid fun h => guess_0 (s := s.data.toList) h
  rw [hk0] at HG1 HG3 HG0
  obtain ⟨x0, x1, x2, x3, x4, x5⟩ := blk6 kE
  clear h0 hk0 hsl hm
  go_enter Try.func46, Try.ntmps46
  go_wp2_with fail
  refine (H0.out _).mono ?_
  rintro e w1 ⟨rfl, rfl⟩
  go_upto_block 0 with fail
  rw [← hV]
  clear hV
  go_cut [18] (fun X wx => X = .int .i64 k ∧ TkRel w s wx)
  case first =>
    by_cases k1 : k = 1
    · have e1 : (k == 1) = true := by simp [k1]
      obtain ⟨t, p2, q2, h1⟩ := takeText_eq s.data.toList 1
      have H1 : Hid (∀ w, Calls Try.prog 32 #[.string s, .int .i64 1] w (fun e w' => e = .returned (.tuple #[.string (str t), .int .i64 p2, .int .i64 q2]) ∧ w = w')) := fun w => takeText_is t p2 q2 s 1 w h1 HM.out
      have HG := Lib.hid (HG1.out k1)
      rw [h1] at HG
      have fz := kE.frozen 1
      have kE2 := Lib.hid (kE.set 1 (.string (str t)))
      have kZ2 := Lib.hid (kZ.far (p := ⟨w.heap.size + 1, 1, none⟩) (by simp) (.string (str t)))
      have b2 : Below w.heap.size w (V.setCell ⟨w.heap.size + 1, 1, none⟩ (.string (str t))) := bV.setCell (p := ⟨w.heap.size + 1, 1, none⟩) (by simp) _
      have HK := Lib.hid k1
      clear k1 h1
      go_wp2_with fail
      refine (H1.out _).mono ?_
      rintro e w1 ⟨rfl, rfl⟩
      go_wp2_with fail
      go_meet
      refine ⟨rfl, kZ2.out, ?_, b2⟩
      rw [HG.out, ← HK.out]
      exact kE2.out
    have e1 : (k == 1) = false := by simpa using k1
    by_cases k3 : k = 3
    · have e3 : (k == 3) = true := by simp [k3]
      obtain ⟨a1, p1, q1, h1⟩ := takeNum_eq s.data.toList 1 1
      obtain ⟨a2, p2, q2, h2⟩ := takeNum_eq s.data.toList 2 1
      obtain ⟨a3, p3, q3, h3⟩ := takeNum_eq s.data.toList 3 4
      obtain ⟨a4, p4, q4, h4⟩ := takeNum_eq s.data.toList 7 4
      have H1 := Lib.hid fun w => takeNum_is a1 p1 q1 s 1 1 w h1 HM.out
      have H2 := Lib.hid fun w => takeNum_is a2 p2 q2 s 2 1 w h2 HM.out
      have H3 := Lib.hid fun w => takeNum_is a3 p3 q3 s 3 4 w h3 HM.out
      have H4 := Lib.hid fun w => takeNum_is a4 p4 q4 s 7 4 w h4 HM.out
      have HG := Lib.hid (HG3.out k3)
      rw [h1, h2, h3, h4] at HG
      have f2 := kE.frozen 2
      have f3 := kE.frozen 3
      have f4 := kE.frozen 4
      have f5 := kE.frozen 5
      have kE2 := Lib.hid ((((kE.set 2 (.int .i64 a1)).set 3 (.int .i64 a2)).set 4 (.int .i64 a3)).set 5 (.int .i64 a4))
      have kZ2 := Lib.hid ((((kZ.far (p := ⟨w.heap.size + 1, 2, none⟩) (by simp) (.int .i64 a1)).far (p := ⟨w.heap.size + 1, 3, none⟩) (by simp) (.int .i64 a2)).far (p := ⟨w.heap.size + 1, 4, none⟩) (by simp) (.int .i64 a3)).far (p := ⟨w.heap.size + 1, 5, none⟩) (by simp) (.int .i64 a4))
      have b2 := (((bV.setCell (p := ⟨w.heap.size + 1, 2, none⟩) (by simp) (.int .i64 a1)).setCell (p := ⟨w.heap.size + 1, 3, none⟩) (by simp) (.int .i64 a2)).setCell (p := ⟨w.heap.size + 1, 4, none⟩) (by simp) (.int .i64 a3)).setCell (p := ⟨w.heap.size + 1, 5, none⟩) (by simp) (.int .i64 a4)
      have HK := Lib.hid k3
      clear k1 k3 h1 h2 h3 h4
      go_wp2_with fail
      refine (H1.out _).mono ?_
      rintro e w1 ⟨rfl, rfl⟩
      go_wp2_with fail
      refine (H2.out _).mono ?_
      rintro e w1 ⟨rfl, rfl⟩
      go_wp2_with fail
      refine (H3.out _).mono ?_
      rintro e w1 ⟨rfl, rfl⟩
      go_wp2_with fail
      refine (H4.out _).mono ?_
      rintro e w1 ⟨rfl, rfl⟩
      go_wp2_with fail
      go_meet
      refine ⟨rfl, kZ2.out, ?_, b2⟩
      rw [HG.out, ← HK.out]
      exact kE2.out
    · have e3 : (k == 3) = false := by simpa using k3
      have HG := Lib.hid (HG0.out k1 k3)
      clear k1 k3
      go_wp2_with fail
      go_meet
      refine ⟨rfl, kZ, ?_, bV⟩
      rw [HG.out]
      exact kE
  case rest =>
    obtain ⟨rfl, kZ', kE', b'⟩ := hcut
    clear x0 x1 x2 x3 x4 x5
    obtain ⟨r, x, hrx⟩ : ∃ r x, lay (guess s.data.toList) = (r, x) := pair_of _
    have HT1 : Hid (x ≠ 0 → take s.data.toList = (ev0, 320)) := fun h => take_no (.inl (by rw [hrx]; exact h))
    have HT2 : Hid (r ≠ s.data.toList → take s.data.toList = (ev0, 320)) := fun h => take_no (.inr (by rw [hrx]; exact h))
    have HT3 : Hid (x = 0 → r = s.data.toList → take s.data.toList = (guess s.data.toList, 0)) := fun h g => take_yes (by rw [hrx]; exact h) (by rw [hrx]; exact g)
    have HLy := Lib.hid (lay_is r x (guess s.data.toList) wc HGl.out hrx)
    obtain ⟨g, hg⟩ : ∃ g, g = guess s.data.toList := ⟨_, rfl⟩
    rw [← hg] at kE' HLy HT3
    obtain ⟨x0, x1, x2, x3, x4, x5⟩ := blk6 kE'
    clear hg hrx HG1 HG3 HG0 HGl
    by_cases hx : x = 0
    · subst hx
      by_cases hr : r = s.data.toList
      · have HT := Lib.hid (HT3.out rfl hr)
        have er : ((str r).toList == s.toList) = true := by rw [hr, str_of]; simp
        have hrs : str r = s := by rw [hr, str_of]
        rw [hrs] at HLy
        clear HT1 HT2 HT3 hr er hrs
        go_wp2_with fail
        refine HLy.out.mono ?_
        rintro e w1 ⟨rfl, b1⟩
        have kE1 := kE'.below b1 kE'.lt
        have kZ1 := kZ'.below b1 kZ'.lt
        clear x0 x1 x2 x3 x4 x5
        obtain ⟨x0, x1, x2, x3, x4, x5⟩ := blk6 kE1
        obtain ⟨z0, z1, z2, z3, z4, z5⟩ := blk6 kZ1
        have g0 := kZ1.frozen 0
        have g1 := kZ1.frozen 1
        have g2 := kZ1.frozen 2
        have g3 := kZ1.frozen 3
        have g4 := kZ1.frozen 4
        have g5 := kZ1.frozen 5
        have HF := Lib.hid (st6_blk kZ1 (.int .i64 g.kd) (.string (str g.ln)) (.int .i64 g.nk) (.int .i64 g.nn) (.int .i64 g.nj) (.int .i64 g.ne))
        have HBn := Lib.hid (st6_below (b'.trans (b1.mono b'.size)) (Nat.le_refl _) (.int .i64 g.kd) (.string (str g.ln)) (.int .i64 g.nk) (.int .i64 g.nn) (.int .i64 g.nj) (.int .i64 g.ne))
        go_wp2_with fail
        obtain ⟨y0, y1, y2, y3, y4, y5⟩ := blk6 HF.out
        refine bodyPost_ret (v := .tuple #[evV g, .int .i64 0]) (by simp [results, Try.results46, go_sem, y0, y1, y2, y3, y4, y5]) rfl ?_
        exact ⟨by rw [HT.out], HBn.out⟩
      · have HT := Lib.hid (HT2.out hr)
        have er : ((str r).toList == s.toList) = false := by
          rw [ByteArray.toList_eq, ByteArray.toList_eq, str_data, beq_eq_false_iff_ne]
          exact hr
        clear HT1 HT2 HT3 hr x0 x1 x2 x3 x4 x5
        obtain ⟨x0, x1, x2, x3, x4, x5⟩ := blk6 kE'
        go_wp2_with fail
        refine HLy.out.mono ?_
        rintro e w1 ⟨rfl, b1⟩
        have kZ1 := kZ'.below b1 kZ'.lt
        obtain ⟨z0, z1, z2, z3, z4, z5⟩ := blk6 kZ1
        have g0 := kZ1.frozen 0
        have g1 := kZ1.frozen 1
        have g2 := kZ1.frozen 2
        have g3 := kZ1.frozen 3
        have g4 := kZ1.frozen 4
        have g5 := kZ1.frozen 5
        have HF := Lib.hid (st6_blk kZ1 (.int .i64 0) (.string ⟨#[]⟩) (.int .i64 0) (.int .i64 0) (.int .i64 0) (.int .i64 0))
        have HBn := Lib.hid (st6_below (b'.trans (b1.mono b'.size)) (Nat.le_refl _) (.int .i64 0) (.string ⟨#[]⟩) (.int .i64 0) (.int .i64 0) (.int .i64 0) (.int .i64 0))
        go_wp2_with fail
        obtain ⟨y0, y1, y2, y3, y4, y5⟩ := blk6 HF.out
        refine bodyPost_ret (v := .tuple #[.agg ev0C, .int .i64 320]) (by simp [results, Try.results46, go_sem, y0, y1, y2, y3, y4, y5]) rfl ?_
        exact ⟨by rw [HT.out]; rfl, HBn.out⟩
    · have HT := Lib.hid (HT1.out hx)
      have ex : (x != 0) = true := by simpa using hx
      clear HT1 HT2 HT3 hx
      go_wp2_with fail
      refine HLy.out.mono ?_
      rintro e w1 ⟨rfl, b1⟩
      have kZ1 := kZ'.below b1 kZ'.lt
      obtain ⟨z0, z1, z2, z3, z4, z5⟩ := blk6 kZ1
      have g0 := kZ1.frozen 0
      have g1 := kZ1.frozen 1
      have g2 := kZ1.frozen 2
      have g3 := kZ1.frozen 3
      have g4 := kZ1.frozen 4
      have g5 := kZ1.frozen 5
      have HF := Lib.hid (st6_blk kZ1 (.int .i64 0) (.string ⟨#[]⟩) (.int .i64 0) (.int .i64 0) (.int .i64 0) (.int .i64 0))
      have HBn := Lib.hid (st6_below (b'.trans (b1.mono b'.size)) (Nat.le_refl _) (.int .i64 0) (.string ⟨#[]⟩) (.int .i64 0) (.int .i64 0) (.int .i64 0) (.int .i64 0))
      go_wp2_with fail
      obtain ⟨y0, y1, y2, y3, y4, y5⟩ := blk6 HF.out
      refine bodyPost_ret (v := .tuple #[.agg ev0C, .int .i64 320]) (by simp [results, Try.results46, go_sem, y0, y1, y2, y3, y4, y5]) rfl ?_
      exact ⟨by rw [HT.out]; rfl, HBn.out⟩
end Go.Proofs.Ytgmoakbmomaffaa.FrameW
