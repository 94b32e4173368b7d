/-
  Profiles as plain data, part 2: the check, the document's ticks, what is added, the least of some ticks.
-/
import Derived.Test.YthfnmighhoighaaProfPlain
namespace Go.Proofs.Ythfnmighhoighaa.Prof

/-- may the i-th step stand where it stands? -/
def stepB (p : List Stp) (i : Nat) : Bool :=
  match p[i]? with
  | none => true
  | some s => decide (-1000000 ≤ s.2) && decide (s.2 ≤ 1000000) && decide (s.1 ≤ 1000000) && (decide (i = 0) || match p[i - 1]? with
    | none => true
    | some r => decide (r.1 < s.1) && decide (r.2 ≠ s.2))
def chkB (p : List Stp) : Bool := decide (1 ≤ p.length) && decide (p.length ≤ 1000) && decide ((p.getD 0 (1, 0)).1 = 0) && (List.range p.length).all (stepB p)
structure Chk (p : List Stp) : Prop where
  nf : Nf p
  few : p.length ≤ 1000
  lo : ∀ s ∈ p, -1000000 ≤ s.2
  hi : ∀ s ∈ p, s.2 ≤ 1000000
  le : ∀ s ∈ p, s.1 ≤ End

theorem stepB_zero {p : List Stp} {s : Stp} (h : p[0]? = some s) : stepB p 0 = (decide (-1000000 ≤ s.2) && decide (s.2 ≤ 1000000) && decide (s.1 ≤ 1000000)) := by simp [stepB, h]
theorem stepB_succ {p : List Stp} {i : Nat} {r s : Stp} (hr : p[i]? = some r) (h : p[i + 1]? = some s) :
    stepB p (i + 1) = (decide (-1000000 ≤ s.2) && decide (s.2 ≤ 1000000) && decide (s.1 ≤ 1000000) && (decide (r.1 < s.1) && decide (r.2 ≠ s.2))) := by simp [stepB, h, hr]
theorem chkB_empty {p : List Stp} (h : p.length = 0) : chkB p = false := by simp [chkB, h]
theorem chkB_long {p : List Stp} (h : 1000 < p.length) : chkB p = false := by
  have : decide (p.length ≤ 1000) = false := by simp; omega
  simp [chkB, this]
theorem chkB_head {p : List Stp} {s : Stp} (h : p[0]? = some s) (h0 : s.1 ≠ 0) : chkB p = false := by simp [chkB, h, h0]
theorem chkB_bad {p : List Stp} {i : Nat} (hi : i < p.length) (h : stepB p i = false) : chkB p = false := by
  have : (List.range p.length).all (stepB p) = false := by
    rw [List.all_eq_false]
    exact ⟨i, by simpa using hi, by simpa using h⟩
  simp [chkB, this]
theorem chkB_good {p : List Stp} {s : Stp} (h1 : p.length ≤ 1000) (h : p[0]? = some s) (h0 : s.1 = 0) (ha : ∀ i, i < p.length → stepB p i = true) : chkB p = true := by
  have hl : 1 ≤ p.length := by
    rcases Nat.eq_zero_or_pos p.length with h' | h'
    · rw [List.getElem?_eq_none (by omega)] at h; cases h
    · exact h'
  have : (List.range p.length).all (stepB p) = true := by
    rw [List.all_eq_true]
    intro i hi
    exact ha i (by simpa using hi)
  simp [chkB, this, h, h0, h1, hl]

theorem chk_of {p : List Stp} (h : chkB p = true) : Chk p := by
  simp only [chkB, Bool.and_eq_true, decide_eq_true_eq, List.all_eq_true, List.mem_range] at h
  obtain ⟨⟨⟨h1, h2⟩, h3⟩, h4⟩ := h
  have hs : ∀ (i : Nat) (s : Stp), p[i]? = some s → -1000000 ≤ s.2 ∧ s.2 ≤ 1000000 ∧ s.1 ≤ 1000000 := by
    intro i s hi
    have := h4 i (List.getElem?_eq_some_iff.1 hi).1
    simp only [stepB, hi, Bool.and_eq_true, decide_eq_true_eq] at this
    exact ⟨this.1.1.1, this.1.1.2, this.1.2⟩
  have hm : ∀ s ∈ p, -1000000 ≤ s.2 ∧ s.2 ≤ 1000000 ∧ s.1 ≤ 1000000 := by
    intro s hsm
    obtain ⟨i, hi⟩ := List.mem_iff_getElem?.1 hsm
    exact hs i s hi
  have key : ∀ k, k < p.length → Nf (p.take (k + 1)) := by
    intro k
    induction k with
    | zero =>
      intro _
      obtain ⟨s, hs0⟩ : ∃ s, p[0]? = some s := ⟨_, List.getElem?_eq_getElem (by omega)⟩
      have : (p.getD 0 (1, 0)) = s := by rw [List.getD_eq_getElem?_getD, hs0]; rfl
      rw [this] at h3
      have e : p.take (0 + 1) = [s] := by
        cases p with
        | nil => simp at hs0
        | cons x r => simp at hs0; simp [hs0]
      rw [e]
      obtain ⟨a, f⟩ := s
      simp at h3
      subst h3
      exact .one f
    | succ k ih =>
      intro hk
      have ih := ih (by omega)
      obtain ⟨r, hr⟩ : ∃ r, p[k]? = some r := ⟨_, List.getElem?_eq_getElem (by omega)⟩
      obtain ⟨s, hs'⟩ : ∃ s, p[k + 1]? = some s := ⟨_, List.getElem?_eq_getElem hk⟩
      have h5 := h4 (k + 1) hk
      rw [stepB_succ hr hs'] at h5
      simp only [Bool.and_eq_true, decide_eq_true_eq] at h5
      have e1 : p.take (k + 1) = p.take k ++ [r] := by
        obtain ⟨hk', rfl⟩ := List.getElem?_eq_some_iff.1 hr
        rw [List.take_succ_eq_append_getElem hk']
      have e2 : p.take (k + 1 + 1) = p.take (k + 1) ++ [s] := by
        obtain ⟨hk', rfl⟩ := List.getElem?_eq_some_iff.1 hs'
        rw [List.take_succ_eq_append_getElem hk']
      rw [e2, e1]
      rw [e1] at ih
      exact .snoc ih h5.2.1 h5.2.2
  refine ⟨?_, h2, fun s h => (hm s h).1, fun s h => (hm s h).2.1, fun s h => by have := (hm s h).2.2; unfold End; omega⟩
  have := key (p.length - 1) (by omega)
  rwa [List.take_of_length_le (by omega)] at this
theorem Nf.step {p : List Stp} (h : Nf p) : ∀ i r s, p[i]? = some r → p[i + 1]? = some s → r.1 < s.1 ∧ r.2 ≠ s.2 := by
  induction h with
  | one f => intro i r s _ h2; simp at h2
  | @snoc p a b h0 h1 h2 ih =>
    intro i r s hr hs
    by_cases hi : i + 1 < (p ++ [a]).length
    · rw [List.getElem?_append_left hi] at hs
      rw [List.getElem?_append_left (by omega)] at hr
      exact ih i r s hr hs
    · have hl := (List.getElem?_eq_some_iff.1 hs).1
      simp at hl hi
      obtain rfl : i = p.length := by omega
      rw [List.getElem?_append_right (by simp)] at hs
      rw [List.getElem?_append_left (by simp), List.getElem?_append_right (Nat.le_refl _)] at hr
      simp at hs hr
      subst hs hr
      exact ⟨h1, h2⟩
theorem of_chk {p : List Stp} (h : Chk p) : chkB p = true := by
  obtain ⟨f, r, e⟩ := h.nf.up.head
  refine chkB_good h.few (s := (0, f)) (by rw [e]; rfl) rfl (fun i hi => ?_)
  obtain ⟨s, hs⟩ : ∃ s, p[i]? = some s := ⟨_, List.getElem?_eq_getElem hi⟩
  have hm := List.mem_of_getElem? hs
  have h1 := h.lo s hm
  have h2 := h.hi s hm
  have h3 := h.le s hm
  unfold End at h3
  rcases Nat.eq_zero_or_pos i with rfl | h0
  · rw [stepB_zero hs]; simp [h1, h2, h3]
  · obtain ⟨k, rfl⟩ : ∃ k, i = k + 1 := ⟨i - 1, by omega⟩
    obtain ⟨r', hr⟩ : ∃ r, p[k]? = some r := ⟨_, List.getElem?_eq_getElem (by omega)⟩
    obtain ⟨h4, h5⟩ := h.nf.step k r' s hr hs
    rw [stepB_succ hr hs]
    simp [h1, h2, h3, h4, h5]

/-- a number in its place, if it is not there -/
def ins : List Int → Int → List Int
  | [], n => [n]
  | x :: r, n => if x < n then x :: ins r n else if x = n then x :: r else n :: x :: r
theorem mem_ins (l : List Int) (n x : Int) : x ∈ ins l n ↔ x = n ∨ x ∈ l := by
  induction l with
  | nil => simp [ins]
  | cons y r ih =>
    unfold ins
    split
    · simp [ih]; constructor <;> (rintro (h | h | h) <;> simp [h])
    · split
      · rename_i h; subst h; simp
      · simp
theorem ins_sorted (l : List Int) (n : Int) (h : l.Pairwise (· < ·)) : (ins l n).Pairwise (· < ·) := by
  induction l with
  | nil => simp [ins]
  | cons y r ih =>
    obtain ⟨h1, h2⟩ := List.pairwise_cons.1 h
    unfold ins
    split
    · refine List.pairwise_cons.2 ⟨fun x hx => ?_, ih h2⟩
      rcases (mem_ins r n x).1 hx with rfl | hx
      · assumption
      · exact h1 x hx
    · split
      · exact h
      · refine List.pairwise_cons.2 ⟨fun x hx => ?_, h⟩
        rcases List.mem_cons.1 hx with rfl | hx
        · omega
        · have := h1 x hx; omega
/-- the place of a number: ahead of it all are less -/
theorem ins_at (l : List Int) (n : Int) (i : Nat) (hl : ∀ j x, j < i → l[j]? = some x → x < n) (hi : i ≤ l.length) (hn : ∀ x, l[i]? = some x → n ≤ x) :
    ins l n = if l[i]? = some n then l else l.take i ++ [n] ++ l.drop i := by
  induction l generalizing i with
  | nil => simp at hi; subst hi; simp [ins]
  | cons y r ih =>
    cases i with
    | zero =>
      have := hn y rfl
      unfold ins
      rw [if_neg (by omega)]
      by_cases h : y = n
      · simp [h]
      · simp [h]
    | succ i =>
      have h0 := hl 0 y (by omega) rfl
      unfold ins
      rw [if_pos h0, ih i (fun j x hj hx => hl (j + 1) x (by omega) hx) (by simpa using hi) (fun x hx => hn x hx)]
      simp only [List.getElem?_cons_succ, List.take_succ_cons, List.drop_succ_cons]
      split <;> simp
def ticksP (p : List Stp) : List Int := p.foldl (fun l s => ins l s.1) []
def ticks (p : List Stp) (a b : Int) : List Int := if b ≤ End then ins (ins (ticksP p) a) b else ins (ticksP p) a
theorem ticksP_snoc (p : List Stp) (s : Stp) : ticksP (p ++ [s]) = ins (ticksP p) s.1 := by simp [ticksP, List.foldl_append]
theorem mem_ticksP (p : List Stp) (x : Int) : x ∈ ticksP p ↔ ∃ s ∈ p, s.1 = x := by
  unfold ticksP
  have : ∀ l : List Int, x ∈ p.foldl (fun l s => ins l s.1) l ↔ x ∈ l ∨ ∃ s ∈ p, s.1 = x := by
    induction p with
    | nil => simp
    | cons s r ih =>
      intro l
      rw [List.foldl_cons, ih, mem_ins]
      simp only [List.mem_cons, exists_eq_or_imp]
      constructor
      · rintro ((h | h) | h)
        · exact .inr (.inl h.symm)
        · exact .inl h
        · exact .inr (.inr h)
      · rintro (h | h | h)
        · exact .inl (.inr h)
        · exact .inl (.inl h.symm)
        · exact .inr h
  simpa using this []
theorem ticksP_sorted (p : List Stp) : (ticksP p).Pairwise (· < ·) := by
  unfold ticksP
  have : ∀ l : List Int, l.Pairwise (· < ·) → (p.foldl (fun l s => ins l s.1) l).Pairwise (· < ·) := by
    induction p with
    | nil => simp
    | cons s r ih => intro l hl; exact ih _ (ins_sorted l s.1 hl)
  exact this [] .nil
theorem ticks_sorted (p : List Stp) (a b : Int) : (ticks p a b).Pairwise (· < ·) := by
  unfold ticks
  split
  · exact ins_sorted _ _ (ins_sorted _ _ (ticksP_sorted p))
  · exact ins_sorted _ _ (ticksP_sorted p)
theorem mem_ticks (p : List Stp) (a b x : Int) : x ∈ ticks p a b ↔ x = a ∨ (x = b ∧ b ≤ End) ∨ ∃ s ∈ p, s.1 = x := by
  unfold ticks
  split
  · rename_i h
    rw [mem_ins, mem_ins, mem_ticksP]
    simp only [h, and_true]
    constructor
    · rintro (h | h | h)
      · exact .inr (.inl h)
      · exact .inl h
      · exact .inr (.inr h)
    · rintro (h | h | h)
      · exact .inr (.inl h)
      · exact .inl h
      · exact .inr (.inr h)
  · rename_i h
    rw [mem_ins, mem_ticksP]
    simp [h]
/-- the document's steps ahead of the putting together -/
def rawR (p : List Stp) (a b n : Int) : List Stp := (ticks p a b).map fun t => (t, val p a b n t)
theorem rawR_raw {p : List Stp} (hp : Chk p) {a b n : Int} (h0 : 0 ≤ a) (h1 : a ≤ End) (h2 : a ≤ b) : Raw p a b n (rawR p a b n) := by
  have hx : ∀ x ∈ ticks p a b, 0 ≤ x ∧ x ≤ End := by
    intro x hx
    rcases (mem_ticks p a b x).1 hx with rfl | ⟨rfl, h⟩ | ⟨s, hs, rfl⟩
    · exact ⟨h0, h1⟩
    · exact ⟨by omega, h⟩
    · exact ⟨hp.nf.up.nonneg s hs, hp.le s hs⟩
  have hmem : ∀ x, x ∈ ticks p a b → ∃ r ∈ rawR p a b n, r.1 = x := fun x hx => ⟨(x, val p a b n x), List.mem_map.2 ⟨x, hx, rfl⟩, rfl⟩
  refine ⟨up_of_pairwise _ _ rfl ?_ ?_, fun s hs => ?_, fun s hs => ?_, fun s hs => ?_, ?_, fun hb => ?_⟩
  · unfold rawR
    rw [List.pairwise_map]
    exact ticks_sorted p a b
  · obtain ⟨f, r, e⟩ := hp.nf.up.head
    have h0m : (0 : Int) ∈ ticks p a b := (mem_ticks p a b 0).2 (.inr (.inr ⟨(0, f), by rw [e]; simp, rfl⟩))
    have hso := ticks_sorted p a b
    unfold rawR
    cases hl : ticks p a b with
    | nil => rw [hl] at h0m; simp at h0m
    | cons x l =>
      rw [hl] at h0m hso hx
      have : x = 0 := by
        rcases List.mem_cons.1 h0m with h | h
        · exact h.symm
        · have := (List.pairwise_cons.1 hso).1 0 h
          have := (hx x (by simp)).1
          omega
      subst this
      exact ⟨_, _, rfl⟩
  · obtain ⟨x, hx', rfl⟩ := List.mem_map.1 hs
    exact (hx x hx').2
  · obtain ⟨x, _, rfl⟩ := List.mem_map.1 hs
    rfl
  · exact hmem _ ((mem_ticks p a b s.1).2 (.inr (.inr ⟨s, hs, rfl⟩)))
  · exact hmem _ ((mem_ticks p a b a).2 (.inl rfl))
  · exact hmem _ ((mem_ticks p a b b).2 (.inr (.inl ⟨rfl, hb⟩)))
/-- may something be added? -/
def argB (a b n : Int) : Bool := decide (0 ≤ a) && decide (a ≤ 1000000) && decide (a ≤ b) && decide (-1000000 ≤ n) && decide (n ≤ 1000000)
def out (p : List Stp) (a b n : Int) : List Stp := dd (rawR p a b n)
def add (p : List Stp) (a b n : Int) : List Stp × Int :=
  if chkB p = false then ([], 100) else if argB a b n = false then ([], 2) else if chkB (out p a b n) = false then ([], 3) else (out p a b n, 0)

/-- the least of some ticks -/
def leastF (a b : Int) (o : Int) (s : Stp) : Int := if a < s.1 ∧ s.1 < b ∧ s.2 < o then s.2 else o
def least (p : List Stp) (a b : Int) : Int := p.foldl (leastF a b) (now p a)
def tickB (t : Int) : Bool := decide (0 ≤ t) && decide (t ≤ 1000000)
def atT (p : List Stp) (t : Int) : Int := if chkB p = true ∧ tickB t = true then now p t else 0
def leastT (p : List Stp) (a b : Int) : Int := if chkB p = true ∧ tickB a = true ∧ a < b then least p a b else 0

/-- the step that counts at a tick -/
def Pl (p : List Stp) (t : Int) (i : Nat) : Prop := (∃ s, p[i]? = some s ∧ s.1 ≤ t) ∧ ∀ j s, i < j → p[j]? = some s → t < s.1
theorem Pl.split {p : List Stp} {t : Int} {i : Nat} (h : Pl p t i) : ∃ s, p[i]? = some s ∧ s.1 ≤ t ∧ now p t = s.2 ∧ p = p.take i ++ [s] ++ p.drop (i + 1) ∧ ∀ x ∈ p.drop (i + 1), t < x.1 := by
  obtain ⟨⟨s, hs, hst⟩, hr⟩ := h
  have hi := (List.getElem?_eq_some_iff.1 hs).1
  have e : p = p.take i ++ [s] ++ p.drop (i + 1) := by
    obtain ⟨_, rfl⟩ := List.getElem?_eq_some_iff.1 hs
    rw [← List.take_succ_eq_append_getElem hi, List.take_append_drop]
  have hd : ∀ x ∈ p.drop (i + 1), t < x.1 := by
    intro x hx
    obtain ⟨j, hj⟩ := List.mem_iff_getElem?.1 hx
    rw [List.getElem?_drop] at hj
    exact hr (i + 1 + j) x (by omega) hj
  refine ⟨s, hs, hst, ?_, e, hd⟩
  rw [e, now_append_late _ _ _ hd, Up.now_last hst]
end Go.Proofs.Ythfnmighhoighaa.Prof
