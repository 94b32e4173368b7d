/-
  BookTaken: the law's walk.
-/
import Derived.Test.YthfnmighhoighaaBookLaw
import Derived.Test.YthfnmighhoighaaBookRef3
import Derived.Test.YthfnmighhoighaaProfLaw4
namespace Go.Proofs.Ythfnmighhoighaa.BookW
open Go.RowKit Mem Prof Book ProfW
set_option linter.unusedVariables false
set_option linter.unusedSimpArgs false

set_option maxHeartbeats 2000000 in
set_option maxRecDepth 100000 in
theorem taken_any (A : Option Addr) (m c : Nat) (p : List Stp) (B : Option Addr) (n d : Nat) (l : List Bk) (E : Option Addr) (q f : Nat) (o : List Bk) (W : World) (h : ArgS W A m c p) (g : ArgB W B n d l) (i : ArgB W E q f o) :
    Calls Try.prog 8 #[.slice A m c, .slice B n d, .slice E q f] W (TrueB W) := by
  have hl := h.st.len
  have hk := g.st.len
  have ho := i.st.len
  subst hl hk ho
  have HAw := Lib.hid bawake_any
  by_cases h1 : p.length ≤ 200
  case neg =>
    have HF := Lib.hid (few_is false A p.length c W (by simp; omega))
    go_enter Try.func8, Try.ntmps8
    go_wp2_with fail
    refine HF.out.mono ?_
    rintro e w1 ⟨rfl, rfl⟩
    go_wp2_with fail
    refine (HAw.out W).mono ?_
    rintro e w1 ⟨rfl, b1⟩
    go_wp2_with fail
    go_ret
    exact ⟨rfl, b1⟩
  have HF := Lib.hid (few_is true A p.length c W (by simp; omega))
  by_cases h2 : l.length ≤ 100
  case neg =>
    have HF2 := Lib.hid (bfew_is false B l.length d W (by simp; omega))
    go_enter Try.func8, Try.ntmps8
    go_wp2_with fail
    refine HF.out.mono ?_
    rintro e w1 ⟨rfl, rfl⟩
    go_wp2_with fail
    refine HF2.out.mono ?_
    rintro e w1 ⟨rfl, rfl⟩
    go_wp2_with fail
    refine (HAw.out W).mono ?_
    rintro e w1 ⟨rfl, b1⟩
    go_wp2_with fail
    go_ret
    exact ⟨rfl, b1⟩
  have HF2 := Lib.hid (bfew_is true B l.length d W (by simp; omega))
  by_cases h3 : o.length ≤ 100
  case neg =>
    have HF3 := Lib.hid (bfew_is false E o.length f W (by simp; omega))
    go_enter Try.func8, Try.ntmps8
    go_wp2_with fail
    refine HF.out.mono ?_
    rintro e w1 ⟨rfl, rfl⟩
    go_wp2_with fail
    refine HF2.out.mono ?_
    rintro e w1 ⟨rfl, rfl⟩
    go_wp2_with fail
    refine HF3.out.mono ?_
    rintro e w1 ⟨rfl, rfl⟩
    go_wp2_with fail
    refine (HAw.out W).mono ?_
    rintro e w1 ⟨rfl, b1⟩
    go_wp2_with fail
    go_ret
    exact ⟨rfl, b1⟩
  have HF3 := Lib.hid (bfew_is true E o.length f W (by simp; omega))
  have HTk := Lib.hid (take_any A p.length c p B l.length d l W h.st h.max h.bare g.st g.max)
  have HH := Lib.hid h
  have HG := Lib.hid g
  have HI := Lib.hid i
  clear h g i
  have HRt : Hid (∀ w', Below W.heap.size W w' → Calls Try.prog 41 #[.slice A p.length c, .slice B l.length d] w' (RTPost (takeT p l) w')) := fun w' hb' => rbtake_any A p.length c p B l.length d l w' (HH.out.st.below hb') HH.out.max (HG.out.st.below hb') HG.out.max
  obtain ⟨r, hr⟩ : ∃ r, r = takeT p l := ⟨_, rfl⟩
  rw [← hr] at HTk HRt
  clear hr
  go_enter Try.func8, Try.ntmps8
  go_wp2_with fail
  refine HF.out.mono ?_
  rintro e w1 ⟨rfl, rfl⟩
  go_wp2_with fail
  refine HF2.out.mono ?_
  rintro e w1 ⟨rfl, rfl⟩
  go_wp2_with fail
  refine HF3.out.mono ?_
  rintro e w1 ⟨rfl, rfl⟩
  go_wp2_with fail
  refine HTk.out.mono ?_
  rintro e w1 ⟨A1, c1, rfl, o1, b1⟩
  have HO1 := Lib.hid o1
  clear o1
  go_wp2_with fail
  refine (HRt.out w1 b1).mono ?_
  rintro e w2 ⟨A2, c2, rfl, s2, m2, b2⟩
  have b02 := below_step b1 b2
  have HSm := Lib.hid (rsame_is true A1 A2 _ _ c1 c2 r.1 r.1 w2 ((HO1.out.below b2).lst layS) s2 (SOwn.max HO1.out) m2 (by simp))
  clear s2
  go_wp2_with fail
  refine (HSm.out.mono fun e w h => Drew.below h).mono ?_
  rintro e w3 ⟨rfl, b3⟩
  have b03 := below_step b02 b3
  have HS1 := Lib.hid (bsame_any B E l.length o.length d f l o _ (HG.out.st.below b03) (HI.out.st.below b03) HG.out.max HI.out.max)
  have hee : (r.2 == r.2) = true := by simp
  go_wp2_with fail
  refine (HS1.out.mono fun e w h => Drew.below h).mono ?_
  rintro e w4 ⟨rfl, b4⟩
  have b04 := below_step b03 b4
  have HS2 := Lib.hid (rbsame_any B E l.length o.length d f l o _ (HG.out.st.below b04) (HI.out.st.below b04) HG.out.max HI.out.max)
  generalize decide (l = o) = z at HS2 ⊢
  have hzz : (z == z) = true := by simp
  go_wp2_with fail
  refine (HS2.out.mono fun e w h => Drew.below h).mono ?_
  rintro e w5 ⟨rfl, b5⟩
  have b05 := below_step b04 b5
  go_wp2_with fail
  refine (HAw.out _).mono ?_
  rintro e w6 ⟨rfl, b6⟩
  go_wp2_with fail
  go_ret
  exact ⟨rfl, below_step b05 b6⟩
end Go.Proofs.Ythfnmighhoighaa.BookW
