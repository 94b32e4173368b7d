/-
  Plain laws of layer 3: what was laid is taken again, wherever it stands; what is taken, laid, is the bytes that it was taken from. No program in sight.
-/
import Derived.Test.YtgmoakbmomaffaaPackPlain
namespace Go.Proofs.Ytgmoakbmomaffaa.Pack

theorem isW_bd {w : Int} (h : isW w = true) : 1 ≤ w ∧ w ≤ 8 := by rcases isW_of h with rfl | rfl | rfl | rfl <;> omega

theorem takeNum_at (p q : List UInt8) (n : Nat) (w : Int) (hw : isW w = true) (h : n < 256 ^ w.toNat) (hn : n ≤ 9223372036854775807) :
    takeNum (p ++ (be w.toNat n ++ q)) (p.length : Int) w = ((n : Int), (p.length : Int) + w, 0) := by
  have hb := isW_bd hw
  have hlen : (p ++ (be w.toNat n ++ q)).length = p.length + (w.toNat + q.length) := by simp [be_length]
  have htk : ((p ++ (be w.toNat n ++ q)).drop (p.length : Int).toNat).take w.toNat = be w.toNat n := by
    rw [Int.toNat_natCast, List.drop_left]
    exact List.take_left' (be_length _ _)
  unfold takeNum
  rw [htk, num_be _ _ h, hlen, if_neg (by rw [hw]; simp; omega), if_neg (by omega), if_neg (by omega)]

theorem takeText_at (p q s : List UInt8) (h : s.length ≤ 65535) : takeText (p ++ (be 2 s.length ++ s ++ q)) (p.length : Int) = (s, (p.length : Int) + (be 2 s.length ++ s).length, 0) := by
  have hT := takeNum_at p (s ++ q) s.length 2 (by decide) (by show s.length < 256 ^ 2; omega) (by omega)
  rw [show (2 : Int).toNat = 2 from rfl, ← List.append_assoc (be 2 s.length)] at hT
  unfold takeText
  rw [hT]
  simp only
  have hlen : (p ++ (be 2 s.length ++ s ++ q)).length = p.length + (2 + s.length + q.length) := by simp [be_length]; omega
  rw [if_neg (by simp), hlen, if_neg (by omega)]
  have hd : (p ++ (be 2 s.length ++ s ++ q)).drop ((p.length : Int) + 2).toNat = s ++ q := by
    rw [show ((p.length : Int) + 2).toNat = p.length + 2 by omega, List.append_assoc (be 2 s.length), ← List.append_assoc p]
    exact List.drop_left' (by simp [be_length])
  rw [hd, Int.toNat_natCast, List.take_left]
  simp [be_length]
  omega

theorem takeFold_at (l : List (List UInt8)) (hl : ∀ s ∈ l, s.length ≤ 65535) (p q : List UInt8) (acc : List (List UInt8)) :
    takeFold (p ++ (flat l ++ q)) l.length (p.length : Int) acc = (acc ++ l, (p.length : Int) + (flat l).length, 0) := by
  induction l generalizing p acc with
  | nil => simp [takeFold, flat]
  | cons s l ih =>
    have hs := hl s (by simp)
    have hf : flat (s :: l) = be 2 s.length ++ s ++ flat l := by simp [flat]
    have e1 : p ++ (flat (s :: l) ++ q) = p ++ (be 2 s.length ++ s ++ (flat l ++ q)) := by rw [hf]; simp
    have hT := takeText_at p (flat l ++ q) s hs
    rw [List.length_cons, takeFold, e1, hT]
    simp only
    rw [if_pos trivial]
    have e2 : p ++ (be 2 s.length ++ s ++ (flat l ++ q)) = (p ++ (be 2 s.length ++ s)) ++ (flat l ++ q) := by simp
    have e3 : (p.length : Int) + (be 2 s.length ++ s).length = ((p ++ (be 2 s.length ++ s)).length : Int) := by simp only [List.length_append]; omega
    rw [e2, e3, ih (fun x hx => hl x (by simp [hx])) (p ++ (be 2 s.length ++ s)) (acc ++ [s])]
    rw [hf]
    simp
    omega

theorem texts_back (l : List (List UInt8)) (hn : l.length ≤ 65535) (hl : ∀ s ∈ l, s.length ≤ 65535) : texts l = (be 2 l.length ++ flat l, 0) := by
  unfold texts
  rw [if_neg (by omega), if_neg]
  rw [List.any_eq_true]
  rintro ⟨s, hs, h⟩
  have := hl s hs
  simp at h
  omega
theorem takeTexts_at (l : List (List UInt8)) (hn : l.length ≤ 65535) (hl : ∀ s ∈ l, s.length ≤ 65535) (p q : List UInt8) :
    takeTexts (p ++ ((be 2 l.length ++ flat l) ++ q)) (p.length : Int) = (l, (p.length : Int) + (be 2 l.length ++ flat l).length, 0) := by
  have hT := takeNum_at p (flat l ++ q) l.length 2 (by decide) (by show l.length < 256 ^ 2; omega) (by omega)
  rw [show (2 : Int).toNat = 2 from rfl, ← List.append_assoc (be 2 l.length)] at hT
  unfold takeTexts
  rw [hT]
  simp only
  rw [if_pos trivial, Int.toNat_natCast]
  have e1 : p ++ (be 2 l.length ++ flat l ++ q) = (p ++ be 2 l.length) ++ (flat l ++ q) := by simp
  have e2 : (p.length : Int) + 2 = ((p ++ be 2 l.length).length : Int) := by simp [be_length]
  rw [e1, e2, takeFold_at l hl]
  simp [be_length]
  omega

theorem takeNum_ok {s : List UInt8} {a w n to : Int} (h : takeNum s a w = (n, to, 0)) :
    0 ≤ a ∧ isW w = true ∧ to = a + w ∧ to ≤ s.length ∧ n = (num ((s.drop a.toNat).take w.toNat) : Nat) ∧ n ≤ 9223372036854775807 ∧ ((s.drop a.toNat).take w.toNat).length = w.toNat := by
  unfold takeNum at h
  split at h
  · simp at h
  · rename_i h1
    have hw : isW w = true := by
      cases hk : isW w
      · exact absurd (.inr (.inr hk)) h1
      · rfl
    have hb := isW_bd hw
    split at h
    · simp at h
    · split at h
      · simp at h
      · simp only [Prod.mk.injEq, and_true] at h
        refine ⟨by omega, hw, h.2.symm, by omega, h.1.symm, by omega, ?_⟩
        rw [List.length_take, List.length_drop]
        omega

theorem number_of {s : List UInt8} {a w n to : Int} (h : takeNum s a w = (n, to, 0)) : number n w = ((s.drop a.toNat).take (to.toNat - a.toNat), 0) := by
  obtain ⟨ha, hw, rfl, _, rfl, _, hl⟩ := takeNum_ok h
  have hb := isW_bd hw
  have hlt := num_lt ((s.drop a.toNat).take w.toNat)
  rw [hl] at hlt
  have hbn := be_num ((s.drop a.toNat).take w.toNat)
  rw [hl] at hbn
  have hf : fitB ((num ((s.drop a.toNat).take w.toNat) : Nat) : Int) w = true := by
    simp only [fitB, hw, Bool.true_and, decide_eq_true_eq]
    exact ⟨by omega, by have := Int.ofNat_lt.2 hlt; rwa [Int.natCast_pow] at this⟩
  rw [number, if_pos hf, Int.toNat_natCast, hbn, show (a + w).toNat - a.toNat = w.toNat by omega]

theorem takeText_ok {s t : List UInt8} {a to : Int} (h : takeText s a = (t, to, 0)) :
    0 ≤ a ∧ t.length ≤ 65535 ∧ to = a + 2 + t.length ∧ to ≤ s.length ∧ s.drop a.toNat = be 2 t.length ++ t ++ s.drop to.toNat := by
  obtain ⟨n, u, e, hT⟩ : ∃ n u e, takeNum s a 2 = (n, u, e) := ⟨_, _, _, rfl⟩
  unfold takeText at h
  rw [hT] at h
  simp only at h
  split at h
  · rename_i he
    simp at h
    exact absurd h.2.2 he
  · rename_i he
    obtain rfl : e = 0 := by omega
    split at h
    · simp at h
    · rename_i hsh
      obtain ⟨ha, _, rfl, hle, rfl, _, hl⟩ := takeNum_ok hT
      simp only [Prod.mk.injEq, and_true] at h
      obtain ⟨rfl, rfl⟩ := h
      rw [show (2 : Int).toNat = 2 from rfl] at *
      have hlt := num_lt ((s.drop a.toNat).take 2)
      have hbn := be_num ((s.drop a.toNat).take 2)
      rw [hl] at hlt hbn
      generalize hN : num ((s.drop a.toNat).take 2) = N at *
      rw [Int.toNat_natCast]
      have htl : ((s.drop (a + 2).toNat).take N).length = N := by rw [List.length_take, List.length_drop]; omega
      refine ⟨ha, by rw [htl]; omega, by rw [htl], by omega, ?_⟩
      rw [htl, hbn]
      have e1 : s.drop (a + 2 + (N : Int)).toNat = (s.drop (a + 2).toNat).drop N := by rw [List.drop_drop]; congr 1; omega
      have e2 : s.drop (a + 2).toNat = (s.drop a.toNat).drop 2 := by rw [List.drop_drop]; congr 1; omega
      rw [e1, List.append_assoc, List.take_append_drop, e2, List.take_append_drop]

theorem takeFold_ok {s : List UInt8} {n : Nat} {to to' : Int} {acc l : List (List UInt8)} (h : takeFold s n to acc = (l, to', 0)) (h0 : 0 ≤ to) (h1 : to ≤ s.length) :
    ∃ m, l = acc ++ m ∧ m.length = n ∧ (∀ x ∈ m, x.length ≤ 65535) ∧ to' = to + (flat m).length ∧ to' ≤ s.length ∧ s.drop to.toNat = flat m ++ s.drop to'.toNat := by
  induction n generalizing to acc with
  | zero =>
    simp only [takeFold, Prod.mk.injEq, and_true] at h
    obtain ⟨rfl, rfl⟩ := h
    exact ⟨[], by simp, rfl, by simp, by simp [flat], h1, by simp [flat]⟩
  | succ n ih =>
    rw [takeFold] at h
    split at h
    · rename_i he
      obtain ⟨t, u, e, hT⟩ : ∃ t u e, takeText s to = (t, u, e) := ⟨_, _, _, rfl⟩
      rw [hT] at h he
      simp only at h he
      subst he
      obtain ⟨_, ht, rfl, hle, hd⟩ := takeText_ok hT
      obtain ⟨m, rfl, hm, hx, rfl, hle', hd'⟩ := ih h (by omega) hle
      refine ⟨t :: m, by simp, by simp [hm], ?_, ?_, hle', ?_⟩
      · intro x hx'
        rcases List.mem_cons.1 hx' with rfl | hx'
        · exact ht
        · exact hx x hx'
      · simp [flat, be_length]; omega
      · rw [hd, hd']
        simp [flat]
    · rename_i he
      simp only [Prod.mk.injEq] at h
      exact absurd h.2.2 he

theorem takeTexts_ok {s : List UInt8} {a to : Int} {l : List (List UInt8)} (h : takeTexts s a = (l, to, 0)) :
    0 ≤ a ∧ a ≤ to ∧ to ≤ s.length ∧ l.length ≤ 65535 ∧ (∀ x ∈ l, x.length ≤ 65535) ∧ texts l = ((s.drop a.toNat).take (to.toNat - a.toNat), 0) := by
  obtain ⟨n, u, e, hT⟩ : ∃ n u e, takeNum s a 2 = (n, u, e) := ⟨_, _, _, rfl⟩
  unfold takeTexts at h
  rw [hT] at h
  simp only at h
  split at h
  · rename_i he
    subst he
    obtain ⟨ha, _, rfl, hle, rfl, _, hl⟩ := takeNum_ok hT
    rw [show (2 : Int).toNat = 2 from rfl] at *
    have hlt := num_lt ((s.drop a.toNat).take 2)
    have hbn := be_num ((s.drop a.toNat).take 2)
    rw [hl] at hlt hbn
    rw [Int.toNat_natCast] at h
    obtain ⟨m, hlm, hm, hx, rfl, hle', hd⟩ := takeFold_ok h (by omega) hle
    rw [List.nil_append] at hlm
    subst hlm
    rw [← hm] at hbn hlt
    refine ⟨ha, by omega, hle', by omega, hx, ?_⟩
    rw [texts_back _ (by omega) hx, hbn]
    have e2 : s.drop (a + 2).toNat = (s.drop a.toNat).drop 2 := by rw [List.drop_drop]; congr 1; omega
    congr 1
    have e3 : s.drop a.toNat = (s.drop a.toNat).take 2 ++ (flat l ++ s.drop (a + 2 + (flat l).length).toNat) := by rw [← hd, e2, List.take_append_drop]
    conv => rhs; rw [e3, ← List.append_assoc]
    rw [List.take_left']
    rw [List.length_append, hl]
    omega
  · rename_i he
    simp only [Prod.mk.injEq] at h
    exact absurd h.2.2 he
end Go.Proofs.Ytgmoakbmomaffaa.Pack
