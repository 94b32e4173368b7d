/-
  Reservations as plain data: which may be, what is added, dropped, past, and what is taken from a profile.
-/
import Derived.Test.YthfnmighhoighaaProfPlain4
namespace Go.Proofs.Ythfnmighhoighaa.Book
open Prof
set_option linter.unusedVariables false

structure Bk where
  id : Int
  fr : Int
  to : Int
  nd : Int
deriving DecidableEq

def fineB (b : Bk) : Bool := decide (1 ≤ b.id) && decide (b.id ≤ 99999) && decide (0 ≤ b.fr) && decide (b.fr < b.to) && decide (b.to ≤ 1000000) && decide (1 ≤ b.nd) && decide (b.nd ≤ 48)
theorem fine_iff {b : Bk} : fineB b = true ↔ (1 ≤ b.id ∧ b.id ≤ 99999 ∧ 0 ≤ b.fr ∧ b.fr < b.to ∧ b.to ≤ 1000000 ∧ 1 ≤ b.nd ∧ b.nd ≤ 48) := by
  simp only [fineB, Bool.and_eq_true, decide_eq_true_eq]
  constructor
  · rintro ⟨⟨⟨⟨⟨⟨h1, h2⟩, h3⟩, h4⟩, h5⟩, h6⟩, h7⟩
    exact ⟨h1, h2, h3, h4, h5, h6, h7⟩
  · rintro ⟨h1, h2, h3, h4, h5, h6, h7⟩
    exact ⟨⟨⟨⟨⟨⟨h1, h2⟩, h3⟩, h4⟩, h5⟩, h6⟩, h7⟩
/-- the k-th stands as may be -/
def okB (l : List Bk) (k : Nat) : Bool :=
  match l[k]? with
  | none => false
  | some b => fineB b && (match k with | 0 => true | j + 1 => match l[j]? with | none => false | some a => decide (a.id < b.id))
def chk (l : List Bk) : Bool := decide (l.length ≤ 8) && (List.range l.length).all (okB l)
def chkE (l : List Bk) : Int := if chk l then 0 else 190
theorem chkE_yes {l : List Bk} (h : chk l = true) : chkE l = 0 := by simp [chkE, h]
theorem chkE_no {l : List Bk} (h : chk l = false) : chkE l = 190 := by simp [chkE, h]
theorem okB_zero {l : List Bk} {b : Bk} (h : l[0]? = some b) : okB l 0 = fineB b := by simp [okB, h]
theorem okB_succ {l : List Bk} {k : Nat} {a b : Bk} (ha : l[k]? = some a) (h : l[k + 1]? = some b) : okB l (k + 1) = (fineB b && decide (a.id < b.id)) := by simp [okB, h, ha]
theorem chk_all {l : List Bk} (h1 : l.length ≤ 8) (h : ∀ j, j < l.length → okB l j = true) : chk l = true := by
  simp only [chk, Bool.and_eq_true, decide_eq_true_eq, List.all_eq_true, List.mem_range]
  exact ⟨h1, h⟩
theorem chk_long {l : List Bk} (h : 8 < l.length) : chk l = false := by
  have : decide (l.length ≤ 8) = false := by simp; omega
  simp [chk, this]
theorem chk_not {l : List Bk} {k : Nat} (hk : k < l.length) (h : okB l k = false) : chk l = false := by
  cases hc : chk l
  · rfl
  · simp only [chk, Bool.and_eq_true, decide_eq_true_eq, List.all_eq_true, List.mem_range] at hc
    rw [hc.2 k hk] at h
    cases h
/-- reservations that may be -/
structure Ok (l : List Bk) : Prop where
  few : l.length ≤ 8
  fine : ∀ b ∈ l, fineB b = true
  up : l.Pairwise (fun a b => a.id < b.id)
theorem pairwise_of_next : ∀ (l : List Bk), (∀ k a b, l[k]? = some a → l[k + 1]? = some b → a.id < b.id) → l.Pairwise (fun a b => a.id < b.id)
  | [], _ => List.Pairwise.nil
  | [x], _ => List.pairwise_singleton _ _
  | x :: y :: r, h => by
    have ih := pairwise_of_next (y :: r) (fun k a b ha hb => h (k + 1) a b (by simpa using ha) (by simpa using hb))
    refine List.pairwise_cons.2 ⟨fun z hz => ?_, ih⟩
    have hxy : x.id < y.id := h 0 x y rfl rfl
    rcases List.mem_cons.1 hz with rfl | hz
    · exact hxy
    · have := (List.pairwise_cons.1 ih).1 z hz
      omega
theorem chk_of {l : List Bk} (h : chk l = true) : Ok l := by
  simp only [chk, Bool.and_eq_true, decide_eq_true_eq, List.all_eq_true, List.mem_range] at h
  obtain ⟨h1, h2⟩ := h
  refine ⟨h1, fun b hb => ?_, pairwise_of_next l fun k a b ha hb => ?_⟩
  · obtain ⟨k, hk⟩ := List.mem_iff_getElem?.1 hb
    have := h2 k (List.getElem?_eq_some_iff.1 hk).1
    simp only [okB, hk, Bool.and_eq_true] at this
    exact this.1
  · have := h2 (k + 1) (List.getElem?_eq_some_iff.1 hb).1
    rw [okB_succ ha hb, Bool.and_eq_true, decide_eq_true_eq] at this
    exact this.2
theorem of_chk {l : List Bk} (h : Ok l) : chk l = true := by
  refine chk_all h.few fun j hj => ?_
  have hb := List.getElem?_eq_getElem hj
  have hf := h.fine _ (List.getElem_mem hj)
  cases j with
  | zero => rw [okB_zero hb]; exact hf
  | succ j =>
    have ha := List.getElem?_eq_getElem (show j < l.length by omega)
    rw [okB_succ ha hb, hf, Bool.true_and, decide_eq_true_eq]
    exact List.pairwise_iff_getElem.1 h.up j (j + 1) (by omega) hj (by omega)
theorem Ok.sub {l m : List Bk} (h : Ok l) (hs : m.Sublist l) : Ok m := ⟨by have := hs.length_le; have := h.few; omega, fun b hb => h.fine b (hs.subset hb), h.up.sublist hs⟩

/-- what Add returns -/
def addT (l : List Bk) (b : Bk) : List Bk × Int :=
  if chk l = false then ([], 190) else if l.length = 8 then ([], 150) else if chk (l ++ [b]) = false then ([], 190) else (l ++ [b], 0)
/-- what Past returns -/
def pastT (l : List Bk) (now : Int) : List Bk := if chk l = false then [] else l.filter (fun b => decide (now < b.to))
def dropOne (l : List Bk) (id : Int) : List Bk := l.filter (fun b => b.id != id)
/-- the program's way to drop -/
def dropL : List Bk → List Int → Option (List Bk)
  | l, [] => some l
  | l, id :: r => if (dropOne l id).length = l.length then none else dropL (dropOne l id) r
def dropT (l : List Bk) (ids : List Int) : List Bk × Int :=
  if chk l = false then ([], 190) else match dropL l ids with | none => ([], 190) | some m => (m, 0)
/-- what Take returns -/
def takeL : List Stp → List Bk → List Stp × Int
  | p, [] => (p, 0)
  | p, b :: r => if (add p b.fr b.to (-b.nd)).2 = 0 then takeL (add p b.fr b.to (-b.nd)).1 r else ([], (add p b.fr b.to (-b.nd)).2)
def takeT (p : List Stp) (l : List Bk) : List Stp × Int :=
  if chkB p = false then ([], 100) else if chk l = false then ([], 190) else takeL p l

/-- how many nodes are taken at a tick -/
def sumAt (l : List Bk) (t : Int) : Int := (l.map fun b => if b.fr ≤ t ∧ t < b.to then b.nd else 0).sum
theorem takeL_at : ∀ (l : List Bk) (p : List Stp) (t : Int), 0 ≤ t → t ≤ 1000000 → (takeL p l).2 = 0 → atT (takeL p l).1 t = atT p t - sumAt l t
  | [], p, t, h0, h1, _ => by simp [takeL, sumAt]
  | b :: r, p, t, h0, h1, h => by
    unfold takeL at h ⊢
    split at h
    · rename_i he
      rw [if_pos he, takeL_at r _ t h0 h1 h, back_at t he]
      simp only [sumAt, List.map_cons, List.sum_cons, moreT]
      by_cases hc : b.fr ≤ t ∧ t < b.to
      · rw [if_pos ⟨hc.1, hc.2, h0, h1⟩, if_pos hc]
        omega
      · rw [if_neg (fun g => hc ⟨g.1, g.2.1⟩), if_neg hc]
        omega
    · rename_i he
      exact absurd h he
theorem takeT_at {l : List Bk} {p : List Stp} {t : Int} (h0 : 0 ≤ t) (h1 : t ≤ 1000000) (h : (takeT p l).2 = 0) : atT (takeT p l).1 t = atT p t - sumAt l t := by
  unfold takeT at h ⊢
  split at h
  · cases h
  · split at h
    · cases h
    · rename_i g1 g2
      rw [if_neg g1, if_neg g2]
      exact takeL_at l p t h0 h1 h
theorem takeL_bad : ∀ (l : List Bk) (p : List Stp), (takeL p l).2 ≠ 0 → (takeL p l).1 = []
  | [], p, h => by simp [takeL] at h
  | b :: r, p, h => by
    unfold takeL at h ⊢
    split at h
    · rename_i he
      rw [if_pos he]
      exact takeL_bad r _ h
    · rename_i he
      rw [if_neg he]
theorem takeT_bad {l : List Bk} {p : List Stp} (h : (takeT p l).2 ≠ 0) : (takeT p l).1 = [] := by
  unfold takeT at h ⊢
  split
  · rfl
  · split
    · rfl
    · rename_i g1 g2
      rw [if_neg g1, if_neg g2] at h
      exact takeL_bad l p h
/-- what is past takes nothing -/
theorem sumAt_past (now t : Int) (ht : now ≤ t) : ∀ l : List Bk, sumAt (l.filter (fun b => decide (now < b.to))) t = sumAt l t
  | [] => rfl
  | b :: r => by
    have ih := sumAt_past now t ht r
    rw [List.filter_cons]
    split
    · simp only [sumAt, List.map_cons, List.sum_cons] at ih ⊢
      rw [ih]
    · rename_i hb
      have hb' : b.to ≤ now := by simpa using hb
      rw [ih]
      simp only [sumAt, List.map_cons, List.sum_cons]
      rw [if_neg (by omega)]
      omega
theorem pastT_ok {l : List Bk} {now : Int} : Ok (pastT l now) := by
  unfold pastT
  split
  · exact ⟨by simp, by simp, List.Pairwise.nil⟩
  · rename_i h
    exact (chk_of (by simpa using h)).sub List.filter_sublist
theorem pastT_to {l : List Bk} {now : Int} : ∀ b ∈ pastT l now, now < b.to := by
  unfold pastT
  split
  · simp
  · intro b hb
    simpa using (List.mem_filter.1 hb).2
end Go.Proofs.Ythfnmighhoighaa.Book
