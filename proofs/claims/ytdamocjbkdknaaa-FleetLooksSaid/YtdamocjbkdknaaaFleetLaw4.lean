/-
  FleetLooks: the law's walk.
-/
import Derived.Test.YtdamocjbkdknaaaFleetAwake
import Derived.Test.YtdamocjbkdknaaaFleetOpen
import Derived.Test.YtdamocjbkdknaaaFleetRSets
import Derived.Test.YtdamocjbkdknaaaFleetRNote
namespace Go.Proofs.Ytdamocjbkdknaaa.FleetW
open Go.RowKit Mem Fleet
set_option linter.unusedVariables false
set_option linter.unusedSimpArgs false
set_option linter.unnecessarySimpa false

set_option maxHeartbeats 4000000 in
set_option maxRecDepth 100000 in
theorem looks_any (A : Option Addr) (m c : Nat) (l : List Nd) (n state : Int) (W : World) (h : ArgN W A m c l) :
    Calls Try.prog 3 #[.slice A m c, .int .i64 n, .int .i64 state] W (TrueB W) := by
  have hl := h.st.len
  subst hl
  have HAw := Lib.hid fawake_any
  by_cases h1 : l.length ≤ 100
  case neg =>
    have HF := Lib.hid (nfew_is false A l.length c W (by simp; omega))
    clear h
    go_enter Try.func3, Try.ntmps3
    go_wp2_with fail
    refine HF.out.mono ?_
    rintro e w1 ⟨rfl, rfl⟩
    go_wp2_with fail
    refine (HAw.out W).mono ?_
    rintro e w1 ⟨rfl, b1⟩
    go_wp2_with fail
    go_ret
    exact ⟨rfl, b1⟩
  have HF := Lib.hid (nfew_is true A l.length c W (by simp; omega))
  have HH := Lib.hid h
  have HN1 := Lib.hid (new_any n)
  have HN2 := Lib.hid (rnew_any n)
  have HT1 : Hid (∀ w', Below W.heap.size W w' → Calls Try.prog 16 #[.slice A l.length c, .int .i64 n] w' (Ret (NoteV (noteT l n)) w')) := fun w' hb' => note_any A l.length c l n w' (HH.out.st.below hb') HH.out.max
  have HT2 : Hid (∀ w', Below W.heap.size W w' → Calls Try.prog 17 #[.slice A l.length c, .int .i64 n] w' (Ret (NoteV (noteT l n)) w')) := fun w' hb' => rnote_any A l.length c l n w' (HH.out.st.below hb') HH.out.max
  have HC1 : Hid (∀ w', Below W.heap.size W w' → Calls Try.prog 19 #[.slice A l.length c] w' (Ret (.int .i64 (chkE l)) w')) := fun w' hb' => check_any A l.length c l w' (HH.out.st.below hb') HH.out.max
  have HC2 : Hid (∀ w', Below W.heap.size W w' → Calls Try.prog 20 #[.slice A l.length c] w' (Ret (.int .i64 (chkE l)) w')) := fun w' hb' => rcheck_any A l.length c l w' (HH.out.st.below hb') HH.out.max
  have HF1 : Hid (∀ w', Below W.heap.size W w' → Calls Try.prog 21 #[.slice A l.length c] w' (Ret (.int .u64 (whereN freeQ l : Int)) w')) := fun w' hb' => free_any A l.length c l w' (HH.out.st.below hb') HH.out.max
  have HF2 : Hid (∀ w', Below W.heap.size W w' → Calls Try.prog 22 #[.slice A l.length c] w' (Ret (.int .u64 (whereN freeQ l : Int)) w')) := fun w' hb' => rfree_any A l.length c l w' (HH.out.st.below hb') HH.out.max
  have HU1 : Hid (∀ w', Below W.heap.size W w' → Calls Try.prog 23 #[.slice A l.length c] w' (Ret (.int .u64 (whereN upQ l : Int)) w')) := fun w' hb' => up_any A l.length c l w' (HH.out.st.below hb') HH.out.max
  have HU2 : Hid (∀ w', Below W.heap.size W w' → Calls Try.prog 24 #[.slice A l.length c] w' (Ret (.int .u64 (whereN upQ l : Int)) w')) := fun w' hb' => rup_any A l.length c l w' (HH.out.st.below hb') HH.out.max
  have HO1 : Hid (∀ w', Below W.heap.size W w' → Calls Try.prog 25 #[.slice A l.length c, .int .i64 n, .int .i64 state] w' (Ret (.int .u64 (whereN (ofQ n state) l : Int)) w')) := fun w' hb' => fof_any A l.length c l n state w' (HH.out.st.below hb') HH.out.max
  have HO2 : Hid (∀ w', Below W.heap.size W w' → Calls Try.prog 26 #[.slice A l.length c, .int .i64 n, .int .i64 state] w' (Ret (.int .u64 (whereN (ofQ n state) l : Int)) w')) := fun w' hb' => rof_any A l.length c l n state w' (HH.out.st.below hb') HH.out.max
  generalize newT n = r at HN1 HN2
  generalize noteT l n = t at HT1 HT2
  generalize chkE l = e0 at HC1 HC2
  generalize whereN freeQ l = s1 at HF1 HF2
  generalize whereN upQ l = s2 at HU1 HU2
  generalize whereN (ofQ n state) l = s3 at HO1 HO2
  obtain ⟨⟨tk, tn, tj, te⟩, tb⟩ := t
  clear h
  go_enter Try.func3, Try.ntmps3
  go_wp2_with fail
  refine HF.out.mono ?_
  rintro e w1 ⟨rfl, rfl⟩
  go_wp2_with fail
  refine (HN1.out W).mono ?_
  rintro e w1 ⟨A1, c1, rfl, o1, b1⟩
  have HO1' := Lib.hid o1
  clear o1
  go_wp2_with fail
  refine (HN2.out w1).mono ?_
  rintro e w2 ⟨A2, c2, rfl, o2, b2⟩
  have b02 := below_step b1 b2
  have HO2' := Lib.hid o2
  clear o2
  go_wp2_with fail
  refine (HT1.out w2 b02).mono ?_
  rintro e w3 ⟨rfl, b3⟩
  have b03 := below_step b02 b3
  obtain ⟨V, hV⟩ : ∃ V, V = w3.alloc (.cells #[.int .i64 tk, .int .i64 tn, .int .i64 tj, .int .i64 te] 31) := ⟨_, rfl⟩
  have bV : Below w3.heap.size w3 V := by rw [hV]; exact (Below.refl _ _).alloc (Nat.le_refl _) _
  have kV : Blk V w3.heap.size 31 #[.int .i64 tk, .int .i64 tn, .int .i64 tj, .int .i64 te] := by rw [hV]; exact Blk.new _ _ _
  have b0V := below_step b03 bV
  simp only [NoteV]
  go_wp2_with fail
  rw [← hV]
  clear hV
  refine (HT2.out V b0V).mono ?_
  rintro e w4 ⟨rfl, b4⟩
  have b04 := below_step b0V b4
  have k4 := kV.below b4 kV.lt
  obtain ⟨U, hU⟩ : ∃ U, U = w4.alloc (.cells #[.int .i64 tk, .int .i64 tn, .int .i64 tj, .int .i64 te] 31) := ⟨_, rfl⟩
  have bU : Below w4.heap.size w4 U := by rw [hU]; exact (Below.refl _ _).alloc (Nat.le_refl _) _
  have kU : Blk U w4.heap.size 31 #[.int .i64 tk, .int .i64 tn, .int .i64 tj, .int .i64 te] := by rw [hU]; exact Blk.new _ _ _
  have kVU := k4.below bU k4.lt
  have b0U := below_step b04 bU
  have b2U := below_step (below_step (below_step b3 bV) b4) bU
  clear kV k4
  have HS := Lib.hid (rnsame_t A1 A2 _ c1 c2 r.1 U (((HO1'.out.below b2).below b2U).lst layN) ((HO2'.out.below b2U).lst layN) (SOwn.max HO1'.out))
  have er : (r.2 == r.2) = true := by simp
  simp only [NoteV]
  go_wp2_with fail
  rw [← hU]
  clear hU
  refine HS.out.mono ?_
  rintro e w5 ⟨rfl, b5⟩
  have b05 := below_step b0U b5
  obtain ⟨x0, x1, x2, x3⟩ := blk4 (kVU.below b5 kVU.lt)
  obtain ⟨y0, y1, y2, y3⟩ := blk4 (kU.below b5 kU.lt)
  have et : (tb == tb) = true := by simp
  have ek : (tk == tk) = true := by simp
  have en : (tn == tn) = true := by simp
  have ej : (tj == tj) = true := by simp
  have ee : (te == te) = true := by simp
  have e00 : (e0 == e0) = true := by simp
  have es1 : ((s1 : Int) == (s1 : Int)) = true := by simp
  have es1' : (s1 == s1) = true := by simp
  have es2 : ((s2 : Int) == (s2 : Int)) = true := by simp
  have es2' : (s2 == s2) = true := by simp
  have es3 : ((s3 : Int) == (s3 : Int)) = true := by simp
  have es3' : (s3 == s3) = true := by simp
  go_wp2_with fail
  refine (HC1.out w5 b05).mono ?_
  rintro e w6 ⟨rfl, b6⟩
  have b06 := below_step b05 b6
  clear x0 x1 x2 x3 y0 y1 y2 y3
  go_wp2_with fail
  refine (HC2.out w6 b06).mono ?_
  rintro e w7 ⟨rfl, b7⟩
  have b07 := below_step b06 b7
  go_wp2_with fail
  refine (HF1.out w7 b07).mono ?_
  rintro e w8 ⟨rfl, b8⟩
  have b08 := below_step b07 b8
  go_wp2_with fail
  refine (HF2.out w8 b08).mono ?_
  rintro e w9 ⟨rfl, b9⟩
  have b09 := below_step b08 b9
  go_wp2_with fail
  refine (HU1.out w9 b09).mono ?_
  rintro e w10 ⟨rfl, b10⟩
  have b010 := below_step b09 b10
  go_wp2_with fail
  refine (HU2.out w10 b010).mono ?_
  rintro e w11 ⟨rfl, b11⟩
  have b011 := below_step b010 b11
  go_wp2_with fail
  refine (HO1.out w11 b011).mono ?_
  rintro e w12 ⟨rfl, b12⟩
  have b012 := below_step b011 b12
  go_wp2_with fail
  refine (HO2.out w12 b012).mono ?_
  rintro e w13 ⟨rfl, b13⟩
  have b013 := below_step b012 b13
  go_wp2_with fail
  refine (HAw.out _).mono ?_
  rintro e w14 ⟨rfl, b14⟩
  go_wp2_with fail
  go_ret
  exact ⟨rfl, below_step b013 b14⟩
end Go.Proofs.Ytdamocjbkdknaaa.FleetW
