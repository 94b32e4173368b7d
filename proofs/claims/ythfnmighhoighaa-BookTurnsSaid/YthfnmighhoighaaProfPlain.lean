/-
  Profiles as plain data (no program in sight): what holds at a tick, the least of some ticks, what is added; a profile is told by its numbers at all ticks.
-/
namespace Go.Proofs.Ythfnmighhoighaa.Prof

/-- a step: from when on, how many are free -/
abbrev Stp := Int × Int

/-- how many are free at a tick: the last step that has begun -/
def now (p : List Stp) (t : Int) : Int := p.foldl (fun o s => if s.1 ≤ t then s.2 else o) 0
theorem now_snoc (p : List Stp) (s : Stp) (t : Int) : now (p ++ [s]) t = if s.1 ≤ t then s.2 else now p t := by simp [now, List.foldl_append]
theorem now_append_late (p q : List Stp) (t : Int) (h : ∀ s ∈ q, t < s.1) : now (p ++ q) t = now p t := by
  unfold now
  rw [List.foldl_append]
  generalize List.foldl (fun (o : Int) (s : Stp) => if s.1 ≤ t then s.2 else o) 0 p = o
  induction q generalizing o with
  | nil => rfl
  | cons s r ih =>
    rw [List.foldl_cons, if_neg (by have := h s (by simp); omega)]
    exact ih (fun x hx => h x (by simp [hx])) o
theorem now_congr (p : List Stp) (a b : Int) (h : ∀ s ∈ p, s.1 ≤ a ↔ s.1 ≤ b) : now p a = now p b := by
  unfold now
  generalize (0 : Int) = o
  induction p generalizing o with
  | nil => rfl
  | cons s r ih =>
    rw [List.foldl_cons, List.foldl_cons]
    have hs := h s (by simp)
    by_cases hc : s.1 ≤ a
    · rw [if_pos hc, if_pos (hs.1 hc)]; exact ih (fun x hx => h x (by simp [hx])) _
    · rw [if_neg hc, if_neg (fun e => hc (hs.2 e))]; exact ih (fun x hx => h x (by simp [hx])) _

/-- ticks rise from nought on -/
inductive Up : List Stp → Prop
  | one (f : Int) : Up [(0, f)]
  | snoc {p : List Stp} {r s : Stp} : Up (p ++ [r]) → r.1 < s.1 → Up (p ++ [r] ++ [s])
/-- and no step is as its neighbour -/
inductive Nf : List Stp → Prop
  | one (f : Int) : Nf [(0, f)]
  | snoc {p : List Stp} {r s : Stp} : Nf (p ++ [r]) → r.1 < s.1 → r.2 ≠ s.2 → Nf (p ++ [r] ++ [s])
theorem Nf.up {p : List Stp} (h : Nf p) : Up p := by
  induction h with
  | one f => exact .one f
  | snoc _ h1 _ ih => exact .snoc ih h1
theorem Up.ne {p : List Stp} (h : Up p) : p ≠ [] := by cases h <;> simp
theorem Up.le_last {p : List Stp} (h : Up p) : ∀ q s, p = q ++ [s] → 0 ≤ s.1 ∧ ∀ r ∈ q, r.1 < s.1 := by
  induction h with
  | one f =>
    intro q s e
    obtain ⟨rfl, rfl⟩ : q = [] ∧ s = (0, f) := by
      have := List.append_inj' (s₁ := []) (t₁ := [(0, f)]) (s₂ := q) (t₂ := [s]) e rfl
      simp at this
      exact ⟨this.1, this.2.symm⟩
    simp
  | @snoc p r x _ h1 ih =>
    intro q s e
    obtain ⟨rfl, h2⟩ := List.append_inj' (s₁ := p ++ [r]) (t₁ := [x]) e rfl
    injection h2 with h2
    subst h2
    obtain ⟨h3, h4⟩ := ih p r rfl
    refine ⟨by omega, fun y hy => ?_⟩
    rcases List.mem_append.1 hy with hy | hy
    · have := h4 y hy; omega
    · simp at hy; subst hy; exact h1
theorem Up.nonneg {p : List Stp} (h : Up p) : ∀ s ∈ p, 0 ≤ s.1 := by
  induction h with
  | one f => simp
  | snoc _ h1 ih =>
    intro s hs
    rcases List.mem_append.1 hs with hs | hs
    · exact ih s hs
    · simp at hs; subst hs; have := ih _ (List.mem_append.2 (.inr (List.mem_singleton.2 rfl))); omega
theorem Up.pairwise {p : List Stp} (h : Up p) : p.Pairwise (fun a b => a.1 < b.1) := by
  induction h with
  | one f => simp
  | @snoc p r x h0 h1 ih =>
    rw [List.pairwise_append]
    refine ⟨ih, by simp, fun a ha b hb => ?_⟩
    simp at hb
    subst hb
    rcases List.mem_append.1 ha with ha | ha
    · have := (h0.le_last p r rfl).2 a ha; omega
    · simp at ha; subst ha; exact h1
theorem Up.head {p : List Stp} (h : Up p) : ∃ f r, p = (0, f) :: r := by
  induction h with
  | one f => exact ⟨f, [], rfl⟩
  | snoc _ _ ih => obtain ⟨f, r, e⟩ := ih; rw [e]; exact ⟨f, _, rfl⟩
theorem snoc_of_ne {α : Type} {l : List α} (h : l ≠ []) : ∃ q s, l = q ++ [s] := ⟨l.dropLast, l.getLast h, (List.dropLast_concat_getLast h).symm⟩
theorem up_of_pairwise : ∀ (n : Nat) (l : List Stp), l.length = n → l.Pairwise (fun a b => a.1 < b.1) → (∃ f r, l = (0, f) :: r) → Up l := by
  intro n
  induction n with
  | zero => intro l hl _ h; obtain ⟨f, r, rfl⟩ := h; simp at hl
  | succ n ih =>
    intro l hl hp h
    obtain ⟨f, r, rfl⟩ := h
    by_cases hr : r = []
    · subst hr; exact .one f
    · obtain ⟨q, s, rfl⟩ := snoc_of_ne hr
      have e : (0, f) :: (q ++ [s]) = ((0, f) :: q) ++ [s] := rfl
      rw [e] at hp hl ⊢
      have hu := ih ((0, f) :: q) (by simpa using hl) (List.pairwise_append.1 hp).1 ⟨f, q, rfl⟩
      obtain ⟨q', y, e'⟩ := snoc_of_ne hu.ne
      have hy : y.1 < s.1 := (List.pairwise_append.1 hp).2.2 y (by rw [e']; simp) s (by simp)
      rw [e'] at hu ⊢
      exact .snoc hu hy
theorem Up.now_last {q : List Stp} {s : Stp} {t : Int} (h : s.1 ≤ t) : now (q ++ [s]) t = s.2 := by rw [now_snoc, if_pos h]

/-- what holds at a tick is a step's: the last one that has begun -/
theorem Up.now_spec {p : List Stp} (h : Up p) (t : Int) (ht : 0 ≤ t) : ∃ s ∈ p, s.1 ≤ t ∧ now p t = s.2 ∧ ∀ r ∈ p, r.1 ≤ t → r.1 ≤ s.1 := by
  induction h with
  | one f => exact ⟨(0, f), by simp, ht, by simp [now, ht], by simp⟩
  | @snoc p r x h0 h1 ih =>
    by_cases hx : x.1 ≤ t
    · refine ⟨x, by simp, hx, Up.now_last hx, fun y hy _ => ?_⟩
      rcases List.mem_append.1 hy with hy | hy
      · rcases List.mem_append.1 hy with hy | hy
        · have := (h0.le_last p r rfl).2 y hy; omega
        · simp at hy; subst hy; omega
      · simp at hy; subst hy; omega
    · obtain ⟨s, hs, h2, h3, h4⟩ := ih
      refine ⟨s, List.mem_append.2 (.inl hs), h2, by rw [now_snoc, if_neg hx]; exact h3, fun y hy hyt => ?_⟩
      rcases List.mem_append.1 hy with hy | hy
      · exact h4 y hy hyt
      · simp at hy; subst hy; omega
theorem Up.now_at {p : List Stp} (h : Up p) {s : Stp} (hs : s ∈ p) : now p s.1 = s.2 := by
  induction h with
  | one f => simp at hs; subst hs; simp [now]
  | @snoc p r x h0 h1 ih =>
    rcases List.mem_append.1 hs with hs | hs
    · rw [now_snoc, if_neg]
      · exact ih hs
      · rcases List.mem_append.1 hs with hs | hs
        · have := (h0.le_last p r rfl).2 s hs; omega
        · simp at hs; subst hs; omega
    · simp at hs; subst hs; exact Up.now_last (Int.le_refl _)

/-- a profile is told by what holds at all ticks -/
theorem uniq {p : List Stp} (h : Nf p) : ∀ (q : List Stp) (T : Int), Nf q → (∀ s ∈ p, s.1 < T) → (∀ s ∈ q, s.1 < T) → (∀ t, 0 ≤ t → t < T → now p t = now q t) → p = q := by
  induction h with
  | one f =>
    intro q T hq hp1 hq1 he
    cases hq with
    | one g =>
      have h0 := he 0 (by omega) (hp1 (0, f) (by simp))
      simp [now] at h0
      rw [h0]
    | @snoc q r x h0 h1 h2 =>
      exfalso
      have hr0 := h0.up.nonneg r (by simp)
      have a := he x.1 (by omega) (hq1 x (by simp))
      have b := he (x.1 - 1) (by omega) (by have := hq1 x (by simp); omega)
      rw [now_snoc, if_pos (Int.le_refl _)] at a
      rw [now_snoc, if_neg (by omega), Up.now_last (by omega)] at b
      simp only [now, List.foldl_cons, List.foldl_nil] at a b
      rw [if_pos (by omega)] at a
      rw [if_pos (by omega)] at b
      exact h2 (by omega)
  | @snoc p r x h0 h1 h2 ih =>
    intro q T hq hp1 hq1 he
    have hr0 := h0.up.nonneg r (by simp)
    cases hq with
    | one g =>
      exfalso
      have a := he x.1 (by omega) (hp1 x (by simp))
      have b := he (x.1 - 1) (by omega) (by have := hp1 x (by simp); omega)
      rw [now_snoc, if_pos (Int.le_refl _)] at a
      rw [now_snoc, if_neg (by omega), Up.now_last (by omega)] at b
      simp only [now, List.foldl_cons, List.foldl_nil] at a b
      rw [if_pos (by omega)] at a
      rw [if_pos (by omega)] at b
      exact h2 (by omega)
    | @snoc q r' x' k0 k1 k2 =>
      have hr0' := k0.up.nonneg r' (by simp)
      have hxT := hp1 x (by simp)
      have hxT' := hq1 x' (by simp)
      have hx : x.1 = x'.1 := by
        rcases Int.lt_trichotomy x.1 x'.1 with hlt | heq | hgt
        · exfalso
          have a := he x'.1 (by omega) hxT'
          have b := he (x'.1 - 1) (by omega) (by omega)
          rw [now_snoc, if_pos (by omega), now_snoc, if_pos (Int.le_refl _)] at a
          rw [now_snoc, if_pos (by omega), now_snoc, if_neg (by omega), Up.now_last (by omega)] at b
          exact k2 (by omega)
        · exact heq
        · exfalso
          have a := he x.1 (by omega) hxT
          have b := he (x.1 - 1) (by omega) (by omega)
          rw [now_snoc, if_pos (Int.le_refl _), now_snoc, if_pos (by omega)] at a
          rw [now_snoc, if_neg (by omega), now_snoc, if_pos (by omega), Up.now_last (by omega)] at b
          exact h2 (by omega)
      have hf : x.2 = x'.2 := by
        have a := he x.1 (by omega) hxT
        rw [now_snoc, if_pos (Int.le_refl _), now_snoc, if_pos (by omega)] at a
        exact a
      have hxx : x = x' := Prod.ext hx hf
      subst hxx
      have hrest := ih (q ++ [r']) x.1 k0 (fun s hs => ?_) (fun s hs => ?_) (fun t h0 h1 => ?_)
      · rw [hrest]
      · rcases List.mem_append.1 hs with hs | hs
        · have := (h0.up.le_last p r rfl).2 s hs; omega
        · simp at hs; subst hs; exact h1
      · rcases List.mem_append.1 hs with hs | hs
        · have := (k0.up.le_last q r' rfl).2 s hs; omega
        · simp at hs; subst hs; exact k1
      · have a := he t h0 (by omega)
        rw [now_snoc (p ++ [r]), if_neg (by omega), now_snoc (q ++ [r']), if_neg (by omega)] at a
        exact a

/-- a step is laid, unless it is as the last one -/
def put (l : List Stp) (s : Stp) : List Stp := if l.getLast?.map (·.2) = some s.2 then l else l ++ [s]
def dd (l : List Stp) : List Stp := l.foldl put []
theorem dd_snoc (l : List Stp) (s : Stp) : dd (l ++ [s]) = put (dd l) s := by simp [dd, List.foldl_append]
theorem put_snoc (l : List Stp) (r s : Stp) : put (l ++ [r]) s = if r.2 = s.2 then l ++ [r] else l ++ [r] ++ [s] := by simp [put]
theorem dd_spec {l : List Stp} (h : Up l) : ∀ q r, l = q ++ [r] → ∃ d x, dd l = d ++ [x] ∧ x.2 = r.2 ∧ x.1 ≤ r.1 ∧ Nf (d ++ [x]) ∧ (∀ t, now (d ++ [x]) t = now l t) ∧ ∀ s ∈ d ++ [x], s ∈ l := by
  induction h with
  | one f =>
    intro q r e
    obtain ⟨rfl, rfl⟩ : q = [] ∧ r = (0, f) := by
      have := List.append_inj' (s₁ := []) (t₁ := [(0, f)]) (s₂ := q) (t₂ := [r]) e rfl
      simp at this
      exact ⟨this.1, this.2.symm⟩
    exact ⟨[], (0, f), rfl, rfl, Int.le_refl _, .one f, fun _ => rfl, fun s hs => hs⟩
  | @snoc p r x h0 h1 ih =>
    intro q s e
    obtain ⟨rfl, h2⟩ := List.append_inj' (s₁ := p ++ [r]) (t₁ := [x]) e rfl
    injection h2 with h2
    subst h2
    obtain ⟨d, y, e1, e2, e3, e4, e5, e6⟩ := ih p r rfl
    rw [dd_snoc, e1, put_snoc]
    by_cases hy : y.2 = x.2
    · rw [if_pos hy]
      refine ⟨d, y, rfl, hy, by omega, e4, fun t => ?_, fun s hs => List.mem_append.2 (.inl (e6 s hs))⟩
      rw [now_snoc (p ++ [r])]
      split
      · rw [Up.now_last (by omega)]; exact hy
      · exact e5 t
    · rw [if_neg hy]
      refine ⟨d ++ [y], x, rfl, rfl, Int.le_refl _, .snoc e4 (by omega) hy, fun t => ?_, fun s hs => ?_⟩
      · rw [now_snoc, now_snoc (p ++ [r]), e5 t]
      · rcases List.mem_append.1 hs with hs | hs
        · exact List.mem_append.2 (.inl (e6 s hs))
        · exact List.mem_append.2 (.inr hs)
theorem dd_nf {l : List Stp} (h : Up l) : Nf (dd l) ∧ (∀ t, now (dd l) t = now l t) ∧ ∀ s ∈ dd l, s ∈ l := by
  obtain ⟨q, r, e⟩ := snoc_of_ne h.ne
  obtain ⟨d, x, h1, _, _, h4, h5, h6⟩ := dd_spec h q r e
  rw [h1]
  exact ⟨h4, h5, h6⟩
theorem dd_of_nf {p : List Stp} (h : Nf p) : dd p = p := by
  induction h with
  | one f => rfl
  | @snoc p r x h0 h1 h2 ih => rw [dd_snoc, ih, put_snoc, if_neg h2]

/-- what is to hold at a tick -/
def val (p : List Stp) (a b n t : Int) : Int := now p t + if a ≤ t ∧ t < b then n else 0
def End : Int := 1000000
structure Raw (p : List Stp) (a b n : Int) (raw : List Stp) : Prop where
  up : Up raw
  le : ∀ s ∈ raw, s.1 ≤ End
  val : ∀ s ∈ raw, s.2 = val p a b n s.1
  has : ∀ s ∈ p, ∃ r ∈ raw, r.1 = s.1
  from_ : ∃ r ∈ raw, r.1 = a
  to_ : b ≤ End → ∃ r ∈ raw, r.1 = b
theorem Raw.now {p : List Stp} {a b n : Int} {raw : List Stp} (h : Raw p a b n raw) (t : Int) (h0 : 0 ≤ t) (h1 : t ≤ End) : now raw t = Prof.val p a b n t := by
  obtain ⟨s, hs, hst, hn, hm⟩ := h.up.now_spec t h0
  rw [hn, h.val s hs]
  unfold Prof.val
  have e1 : Prof.now p s.1 = Prof.now p t := by
    refine now_congr p s.1 t (fun r hr => ⟨fun h => by omega, fun h2 => ?_⟩)
    obtain ⟨x, hx, hxe⟩ := h.has r hr
    have := hm x hx (by omega)
    omega
  rw [e1]
  congr 1
  have ha : a ≤ s.1 ↔ a ≤ t := ⟨fun h => by omega, fun h2 => by obtain ⟨x, hx, hxe⟩ := h.from_; have := hm x hx (by omega); omega⟩
  have hb : s.1 < b ↔ t < b := by
    refine ⟨fun h2 => ?_, fun h2 => by omega⟩
    rcases Int.lt_or_le t b with h3 | h3
    · exact h3
    · obtain ⟨x, hx, hxe⟩ := h.to_ (by omega)
      have := hm x hx (by omega)
      omega
  by_cases hc : a ≤ t ∧ t < b
  · rw [if_pos hc, if_pos ⟨ha.2 hc.1, hb.2 hc.2⟩]
  · rw [if_neg hc, if_neg (fun h => hc ⟨ha.1 h.1, hb.1 h.2⟩)]
theorem Raw.same {p : List Stp} {a b n : Int} {r1 r2 : List Stp} (h1 : Raw p a b n r1) (h2 : Raw p a b n r2) : dd r1 = dd r2 := by
  obtain ⟨a1, a2, a3⟩ := dd_nf h1.up
  obtain ⟨b1, b2, b3⟩ := dd_nf h2.up
  refine uniq a1 _ (End + 1) b1 (fun s hs => ?_) (fun s hs => ?_) (fun t h0 ht => ?_)
  · have := h1.le s (a3 s hs); omega
  · have := h2.le s (b3 s hs); omega
  · rw [a2, b2, h1.now t h0 (by omega), h2.now t h0 (by omega)]
end Go.Proofs.Ythfnmighhoighaa.Prof
