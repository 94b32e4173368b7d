/-
  Contracts: frame.Lay, frame.Take.
-/
import Derived.Test.YtgmoakbmomaffaaFrameEv
namespace Go.Proofs.Ytgmoakbmomaffaa.FrameW
open Go.RowKit Mem Frm PackW
set_option linter.unusedVariables false
set_option linter.unusedSimpArgs false

theorem echeck_is (r : Int) (e : Ev) (w : World) (hl : e.ln.length ≤ 1000000) (h : evE e = r) : Calls Try.prog 45 #[evV e] w (Ret (.int .i64 r) w) := by rw [← h]; exact echeck_any e w hl
theorem num1 {k : Int} (h0 : 0 ≤ k) (h1 : k < 256) : nums 1 [k] = (Pack.be 1 k.toNat, true) := by
  rw [nums_yes (by simp [Pack.fitB, Pack.isW]; omega)]
  simp
theorem num2 {k n : Int} (h0 : 0 ≤ k) (h1 : k < 256) (g0 : 0 ≤ n) (g1 : n < 256) : nums 1 [k, n] = (Pack.be 1 k.toNat ++ Pack.be 1 n.toNat, true) := by
  rw [nums_yes (by simp [Pack.fitB, Pack.isW]; omega)]
  simp
theorem num24 {k n : Int} (h0 : 0 ≤ k) (h1 : k < 4294967296) (g0 : 0 ≤ n) (g1 : n < 4294967296) : nums 4 [k, n] = (Pack.be 4 k.toNat ++ Pack.be 4 n.toNat, true) := by
  rw [nums_yes (by simp [Pack.fitB, Pack.isW]; omega)]
  simp
theorem str_cat (x y : List UInt8) : (str x ++ str y : ByteArray) = str (x ++ y) := by rw [str_app]; rfl
theorem text_str (r : List UInt8) (x : Int) (s : ByteArray) (w : World) (h : Pack.text s.data.toList = (r, x)) (hs : s.size ≤ maxLen) :
    Calls Try.prog 34 #[.string s] w fun e w' => e = .returned (.tuple #[.string (str r), .int .i64 x]) ∧ Below w.heap.size w w' := text_is r x s w h hs
set_option maxHeartbeats 4000000 in
set_option maxRecDepth 100000 in
theorem lay_any (e : Ev) (w : World) (hl : e.ln.length ≤ 1000000) : Calls Try.prog 44 #[evV e] w (Ret (.tuple #[.string (str (lay e).1), .int .i64 (lay e).2]) w) := by
  obtain ⟨V, hV⟩ : ∃ V, V = w.alloc (evO e) := ⟨_, rfl⟩
  have bV : Below w.heap.size w V := by rw [hV]; exact (Below.refl _ _).alloc (Nat.le_refl _) _
  have kE : Blk V w.heap.size 73 (evC e) := by rw [hV]; exact Blk.new _ _ _
  obtain ⟨x0, x1, x2, x3, x4, x5⟩ := blk6 kE
  cases hb : evB e
  · have HC := Lib.hid (echeck_is 320 e V hl (evE_no hb))
    have HL : Hid (lay e = ([], 320)) := lay_no hb
    clear hb
    go_enter Try.func44, Try.ntmps44
    go_wp2_with fail
    rw [← hV]
    clear hV
    refine HC.out.mono ?_
    rintro en w1 ⟨rfl, b1⟩
    go_wp2_with fail
    go_ret2
    exact ⟨by rw [HL.out]; rfl, below_step bV b1⟩
  have HC := Lib.hid (echeck_is 0 e V hl (evE_yes hb))
  have HL : Hid (lay e = (Pack.be 1 e.kd.toNat ++ tailL e, 0)) := lay_yes hb
  have hkd := evB_kd hb
  have HN1 : Hid (∀ w' : World, Calls Try.prog 56 #[.int .i64 1, .slice (some ⟨w'.heap.size, 0, none⟩) 1 1] (w'.alloc (.cells #[.int .i64 e.kd] 3)) (Ret (.tuple #[.string (str (Pack.be 1 e.kd.toNat)), .bool true]) (w'.alloc (.cells #[.int .i64 e.kd] 3)))) := fun w' =>
    nums_is _ _ 1 _ 1 1 [e.kd] _ (num1 (by omega) (by omega)) (lit_1 w' _) (by omega) (by omega) rfl (by intro x hx; simp at hx; omega)
  have hz1 : (str (Pack.be 1 e.kd.toNat)).size ≤ 1 := by rw [str_size, Pack.be_length]; omega
  obtain ⟨K, hK⟩ : ∃ K, K = Pack.be 1 e.kd.toNat := ⟨_, rfl⟩
  rw [← hK] at HN1 HL hz1
  clear hK
  by_cases k1 : e.kd = 1
  · have e1 : (e.kd == 1) = true := by simp [k1]
    have hln : e.ln.length ≤ 1000 := by rw [evB_1 k1] at hb; simp at hb; exact hb.1
    have HT : Hid (Pack.text (str e.ln).data.toList = (Pack.be 2 e.ln.length ++ e.ln, 0)) := by show _ = _; rw [str_data, text_small (by omega)]
    have HX := Lib.hid fun w => text_str _ _ (str e.ln) w HT.out (by rw [str_size]; unfold maxLen; omega)
    have hz2 : (str (Pack.be 2 e.ln.length ++ e.ln)).size ≤ 1002 := by rw [str_size, List.length_append, Pack.be_length]; omega
    have HTl := Lib.hid (tail_1 k1)
    rw [HTl.out] at HL
    obtain ⟨M, hM⟩ : ∃ M, M = Pack.be 2 e.ln.length ++ e.ln := ⟨_, rfl⟩
    rw [← hM] at HX hz2 HL
    clear k1 hb hkd hM
    go_enter Try.func44, Try.ntmps44
    go_wp2_with fail
    rw [← hV]
    clear hV
    refine HC.out.mono ?_
    rintro en w1 ⟨rfl, b1⟩
    have k1 := kE.below b1 kE.lt
    clear x0 x1 x2 x3 x4 x5
    obtain ⟨x0, x1, x2, x3, x4, x5⟩ := blk6 k1
    go_wp2_with fail
    refine (HN1.out w1).mono ?_
    rintro en w2 ⟨rfl, b2⟩
    have b12 := below_step (new_1 w1 _) b2
    have k2 := k1.below b12 k1.lt
    clear x0 x1 x2 x3 x4 x5
    obtain ⟨x0, x1, x2, x3, x4, x5⟩ := blk6 k2
    go_wp2_with fail
    refine (HX.out _).mono ?_
    rintro en w3 ⟨rfl, b3⟩
    go_wp2_with fail
    go_ret2
    exact ⟨by rw [HL.out]; exact ret2 (congrArg Value.string (str_cat _ _)) rfl, below_step bV (below_step (below_step b1 b12) b3)⟩
  have e1 : (e.kd == 1) = false := by simpa using k1
  by_cases k3 : e.kd = 3
  · have e3 : (e.kd == 3) = true := by simp [k3]
    obtain ⟨n1, n2, n3, n4, n5, n6, n7, n8⟩ := noteB_bd (k := e.nk) (n := e.nn) (j := e.nj) (e := e.ne) (by rw [evB_3 k3] at hb; simp only [Bool.and_eq_true] at hb; exact hb.2)
    have HN2 : Hid (∀ w' : World, Calls Try.prog 56 #[.int .i64 1, .slice (some ⟨w'.heap.size, 0, none⟩) 2 2] (w'.alloc (.cells #[.int .i64 e.nk, .int .i64 e.nn] 3)) (Ret (.tuple #[.string (str (Pack.be 1 e.nk.toNat ++ Pack.be 1 e.nn.toNat)), .bool true]) (w'.alloc (.cells #[.int .i64 e.nk, .int .i64 e.nn] 3)))) := fun w' =>
      nums_is _ _ 1 _ 2 2 [e.nk, e.nn] _ (num2 (by omega) (by omega) (by omega) (by omega)) (lit_2 w' _ _) (by omega) (by omega) rfl (by intro x hx; simp at hx; omega)
    have HN3 : Hid (∀ w' : World, Calls Try.prog 56 #[.int .i64 4, .slice (some ⟨w'.heap.size, 0, none⟩) 2 2] (w'.alloc (.cells #[.int .i64 e.nj, .int .i64 e.ne] 3)) (Ret (.tuple #[.string (str (Pack.be 4 e.nj.toNat ++ Pack.be 4 e.ne.toNat)), .bool true]) (w'.alloc (.cells #[.int .i64 e.nj, .int .i64 e.ne] 3)))) := fun w' =>
      nums_is _ _ 4 _ 2 2 [e.nj, e.ne] _ (num24 (by omega) (by omega) (by omega) (by omega)) (lit_2 w' _ _) (by omega) (by omega) rfl (by intro x hx; simp at hx; omega)
    have HTl := Lib.hid (tail_3 k3)
    rw [HTl.out] at HL
    have hz2 : (str (Pack.be 1 e.nk.toNat ++ Pack.be 1 e.nn.toNat)).size ≤ 2 := by rw [str_size, List.length_append, Pack.be_length, Pack.be_length]; omega
    have hz3 : (str (Pack.be 4 e.nj.toNat ++ Pack.be 4 e.ne.toNat)).size ≤ 8 := by rw [str_size, List.length_append, Pack.be_length, Pack.be_length]; omega
    obtain ⟨M2, hM2⟩ : ∃ M, M = Pack.be 1 e.nk.toNat ++ Pack.be 1 e.nn.toNat := ⟨_, rfl⟩
    obtain ⟨M3, hM3⟩ : ∃ M, M = Pack.be 4 e.nj.toNat ++ Pack.be 4 e.ne.toNat := ⟨_, rfl⟩
    rw [← hM2] at HN2 HL hz2
    rw [← hM3] at HN3 HL hz3
    clear k1 k3 hb hkd hM2 hM3
    go_enter Try.func44, Try.ntmps44
    go_wp2_with fail
    rw [← hV]
    clear hV
    refine HC.out.mono ?_
    rintro en w1 ⟨rfl, b1⟩
    have k1 := kE.below b1 kE.lt
    clear x0 x1 x2 x3 x4 x5
    obtain ⟨x0, x1, x2, x3, x4, x5⟩ := blk6 k1
    go_wp2_with fail
    refine (HN1.out w1).mono ?_
    rintro en w2 ⟨rfl, b2⟩
    have b12 := below_step (new_1 w1 _) b2
    have k2 := k1.below b12 k1.lt
    clear x0 x1 x2 x3 x4 x5
    obtain ⟨x0, x1, x2, x3, x4, x5⟩ := blk6 k2
    go_wp2_with fail
    refine (HN2.out w2).mono ?_
    rintro en w3 ⟨rfl, b3⟩
    have b13 := below_step (new_1 w2 _) b3
    have k3 := k2.below b13 k2.lt
    clear x0 x1 x2 x3 x4 x5
    obtain ⟨x0, x1, x2, x3, x4, x5⟩ := blk6 k3
    go_wp2_with fail
    refine (HN3.out w3).mono ?_
    rintro en w4 ⟨rfl, b4⟩
    have b14 := below_step (new_1 w3 _) b4
    go_wp2_with fail
    go_ret2
    exact ⟨by rw [HL.out]; exact ret2 (congrArg Value.string (by rw [str_cat, str_cat])) rfl, below_step bV (below_step (below_step (below_step b1 b12) b13) b14)⟩
  have k2 : e.kd = 2 := by omega
  have e3 : (e.kd == 3) = false := by simp [k2]
  have HTl := Lib.hid (tail_2 k2)
  rw [HTl.out, List.append_nil] at HL
  clear k1 k2 k3 hb hkd
  go_enter Try.func44, Try.ntmps44
  go_wp2_with fail
  rw [← hV]
  clear hV
  refine HC.out.mono ?_
  rintro en w1 ⟨rfl, b1⟩
  have k1 := kE.below b1 kE.lt
  clear x0 x1 x2 x3 x4 x5
  obtain ⟨x0, x1, x2, x3, x4, x5⟩ := blk6 k1
  go_wp2_with fail
  refine (HN1.out w1).mono ?_
  rintro en w2 ⟨rfl, b2⟩
  have b12 := below_step (new_1 w1 _) b2
  have k2 := k1.below b12 k1.lt
  clear x0 x1 x2 x3 x4 x5
  obtain ⟨x0, x1, x2, x3, x4, x5⟩ := blk6 k2
  go_wp2_with fail
  go_ret2
  exact ⟨by rw [HL.out]; rfl, below_step bV (below_step b1 b12)⟩
end Go.Proofs.Ytgmoakbmomaffaa.FrameW
