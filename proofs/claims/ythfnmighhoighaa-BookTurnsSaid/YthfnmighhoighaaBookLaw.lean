/-
  BookTakes: the law's walk.
-/
import Derived.Test.YthfnmighhoighaaBookAwake
import Derived.Test.YthfnmighhoighaaBookOpen
import Derived.Test.YthfnmighhoighaaProfLaw2
namespace Go.Proofs.Ythfnmighhoighaa.BookW
open Go.RowKit Mem Prof Book ProfW
set_option linter.unusedVariables false
set_option linter.unusedSimpArgs false

theorem sumAt_snoc {l : List Bk} {k : Nat} {s : Bk} (t : Int) (h : l[k]? = some s) : sumAt (l.take (k + 1)) t = sumAt (l.take k) t + if s.fr ≤ t ∧ t < s.to then s.nd else 0 := by
  rw [take_snoc_some h]
  simp [sumAt]
theorem sumAt_bd {l : List Bk} (h : ∀ b ∈ l, fineB b = true) (t : Int) : ∀ m : List Bk, (∀ b ∈ m, b ∈ l) → 0 ≤ sumAt m t ∧ sumAt m t ≤ 48 * m.length
  | [], _ => by simp [sumAt]
  | b :: r, hm => by
    have ih := sumAt_bd h t r (fun x hx => hm x (by simp [hx]))
    obtain ⟨_, _, _, _, _, h6, h7⟩ := fine_iff.1 (h b (hm b (by simp)))
    simp only [sumAt, List.map_cons, List.sum_cons, List.length_cons] at ih ⊢
    split <;> omega
def SumRel (W w5 : World) (l : List Bk) (t : Int) (X Y : Value) (wr : World) : Prop := ∃ k : Nat, k ≤ l.length ∧ X = .int .i64 (sumAt (l.take k) t) ∧ Y = .int .i64 k ∧ w5 = wr
set_option maxHeartbeats 2000000 in
set_option maxRecDepth 100000 in
theorem takes_any (A : Option Addr) (m c : Nat) (p : List Stp) (B : Option Addr) (n d : Nat) (l : List Bk) (t : Int) (W : World) (h : ArgS W A m c p) (g : ArgB W B n d l) :
    Calls Try.prog 9 #[.slice A m c, .slice B n d, .int .i64 t] W (TrueB W) := by
  have hl := h.st.len
  have hk := g.st.len
  subst hl hk
  have HAw := Lib.hid bawake_any
  by_cases h1 : p.length ≤ 200
  case neg =>
    have HF := Lib.hid (few_is false A p.length c W (by simp; omega))
    go_enter Try.func9, Try.ntmps9
    go_wp2_with fail
    refine HF.out.mono ?_
    rintro e w1 ⟨rfl, rfl⟩
    go_wp2_with fail
    refine (HAw.out W).mono ?_
    rintro e w1 ⟨rfl, b1⟩
    go_wp2_with fail
    go_ret
    exact ⟨rfl, b1⟩
  have HF := Lib.hid (few_is true A p.length c W (by simp; omega))
  by_cases h2 : l.length ≤ 100
  case neg =>
    have HF2 := Lib.hid (bfew_is false B l.length d W (by simp; omega))
    go_enter Try.func9, Try.ntmps9
    go_wp2_with fail
    refine HF.out.mono ?_
    rintro e w1 ⟨rfl, rfl⟩
    go_wp2_with fail
    refine HF2.out.mono ?_
    rintro e w1 ⟨rfl, rfl⟩
    go_wp2_with fail
    refine (HAw.out W).mono ?_
    rintro e w1 ⟨rfl, b1⟩
    go_wp2_with fail
    go_ret
    exact ⟨rfl, b1⟩
  have HF2 := Lib.hid (bfew_is true B l.length d W (by simp; omega))
  by_cases h3 : t < 0
  · go_enter Try.func9, Try.ntmps9
    go_wp2_with fail
    refine HF.out.mono ?_
    rintro e w1 ⟨rfl, rfl⟩
    go_wp2_with fail
    refine HF2.out.mono ?_
    rintro e w1 ⟨rfl, rfl⟩
    go_wp2_with fail
    refine (HAw.out W).mono ?_
    rintro e w1 ⟨rfl, b1⟩
    go_wp2_with fail
    go_ret
    exact ⟨rfl, b1⟩
  by_cases h4 : 1000000 < t
  · have h3' : 0 ≤ t := by omega
    go_enter Try.func9, Try.ntmps9
    go_wp2_with fail
    refine HF.out.mono ?_
    rintro e w1 ⟨rfl, rfl⟩
    go_wp2_with fail
    refine HF2.out.mono ?_
    rintro e w1 ⟨rfl, rfl⟩
    go_wp2_with fail
    refine (HAw.out W).mono ?_
    rintro e w1 ⟨rfl, b1⟩
    go_wp2_with fail
    go_ret
    exact ⟨rfl, b1⟩
  have h3' : 0 ≤ t := by omega
  have h4' : t ≤ 1000000 := by omega
  clear h3 h4
  have HTk := Lib.hid (take_any A p.length c p B l.length d l W h.st h.max h.bare g.st g.max)
  have HAt := Lib.hid (takeT_at (p := p) (l := l) h3' h4')
  have HBad := Lib.hid (takeT_bad (p := p) (l := l))
  have HH := Lib.hid h
  have HG := Lib.hid g
  obtain ⟨r, hr⟩ : ∃ r, r = takeT p l := ⟨_, rfl⟩
  have HOk : Hid (r.2 = 0 → Book.chk l = true) := by
    show _ → _
    intro h0
    rw [hr, takeT] at h0
    split at h0
    · cases h0
    · split at h0
      · cases h0
      · rename_i q; simpa using q
  rw [← hr] at HTk HAt HBad
  clear hr h g
  go_enter Try.func9, Try.ntmps9
  go_wp2_with fail
  refine HF.out.mono ?_
  rintro e w1 ⟨rfl, rfl⟩
  go_wp2_with fail
  refine HF2.out.mono ?_
  rintro e w1 ⟨rfl, rfl⟩
  go_wp2_with fail
  refine HTk.out.mono ?_
  rintro e w1 ⟨A1, c1, rfl, o1, b1⟩
  by_cases he : r.2 = 0
  · have e1 : (r.2 != 0) = false := by simp [he]
    have HE := Lib.hid (HAt.out he)
    have HCk := Lib.hid (chk_of (HOk.out he))
    have hl8 := HCk.out.few
    have HO := Lib.hid o1
    clear he o1
    go_wp2_with fail
    go_loopw [9, 10] (fun X Y wr => SumRel W w1 l t X Y wr) (fun _ Y _ => l.length - (intOf Y).toNat)
    case atStart => exact ⟨0, by omega, rfl, rfl, rfl⟩
    case round =>
      obtain ⟨k, hk, rfl, rfl, rfl⟩ := hrel
      by_cases hlt : k < l.length
      · obtain ⟨b, off, s, rfl, hb, hs, d0, d1, d2, d3⟩ := Lst.four (HG.out.st.below b1) hlt
        obtain ⟨u1, u2⟩ := sumAt_bd HCk.out.fine t (l.take k) (fun x hx => List.mem_of_mem_take hx)
        have u3 : (l.take k).length ≤ k := List.length_take_le _ _
        obtain ⟨_, _, _, _, _, n1, n2⟩ := fine_iff.1 (HCk.out.fine s (mem_of_at hs))
        have HSn := Lib.hid (sumAt_snoc t hs)
        clear hs
        by_cases q1 : s.fr ≤ t
        · by_cases q2 : t < s.to
          · go_wp2_with fail
            exact ⟨⟨k + 1, by omega, by rw [HSn.out, if_pos ⟨q1, q2⟩], by go_num, rfl⟩, by simp [intOf]; omega⟩
          · go_wp2_with fail
            exact ⟨⟨k + 1, by omega, by rw [HSn.out, if_neg (fun q => q2 q.2), Int.add_zero], by go_num, rfl⟩, by simp [intOf]; omega⟩
        · go_wp2_with fail
          exact ⟨⟨k + 1, by omega, by rw [HSn.out, if_neg (fun q => q1 q.1), Int.add_zero], by go_num, rfl⟩, by simp [intOf]; omega⟩
      · obtain rfl : k = l.length := by omega
        rw [List.take_length]
        obtain ⟨u1, u2⟩ := sumAt_bd HCk.out.fine t l (fun x hx => hx)
        obtain ⟨v1, v2⟩ := atT_bd p t
        have HA1 := Lib.hid (at_any A1 r.1.length c1 r.1 t w1 (HO.out.lst layS) (SOwn.max HO.out))
        go_wp2_with fail
        refine HA1.out.mono ?_
        rintro e w2 ⟨rfl, b2⟩
        have b02 := below_step b1 b2
        have HA2 := Lib.hid (at_any A p.length c p t w2 (HH.out.st.below b02) HH.out.max)
        go_wp2_with fail
        refine HA2.out.mono ?_
        rintro e w3 ⟨rfl, b3⟩
        have b03 := below_step b02 b3
        have e3 : (atT r.1 t == atT p t - sumAt l t) = true := by rw [HE.out]; simp
        go_wp2_with fail
        refine (HAw.out w3).mono ?_
        rintro e w4 ⟨rfl, b4⟩
        go_wp2_with fail
        go_ret
        exact ⟨rfl, below_step b03 b4⟩
  · have e1 : (r.2 != 0) = true := by simpa using he
    have HB0 := Lib.hid (HBad.out he)
    clear he
    have e0 : r.1.length = 0 := by rw [HB0.out]; rfl
    rw [e0]
    clear e0 o1
    go_wp2_with fail
    refine (HAw.out w1).mono ?_
    rintro e w2 ⟨rfl, b2⟩
    go_wp2_with fail
    go_ret
    exact ⟨rfl, below_step b1 b2⟩
end Go.Proofs.Ythfnmighhoighaa.BookW
