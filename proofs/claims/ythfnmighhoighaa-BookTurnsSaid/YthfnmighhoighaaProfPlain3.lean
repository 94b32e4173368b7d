/-
  Profiles as plain data, part 3: the program's way of adding comes to the document's.
-/
import Derived.Test.YthfnmighhoighaaProfPlain2
namespace Go.Proofs.Ythfnmighhoighaa.Prof

theorem dd_take {p : List Stp} (h : Nf p) : ∀ i, dd (p.take i) = p.take i := by
  induction h with
  | one f =>
    intro i
    cases i with
    | zero => rfl
    | succ i => simp [dd, put]
  | @snoc p r x h0 h1 h2 ih =>
    intro i
    rcases Nat.lt_or_ge i (p ++ [r] ++ [x]).length with hi | hi
    · simp only [List.length_append, List.length_cons, List.length_nil] at hi
      rw [List.take_append_of_le_length (by simp; omega)]
      exact ih i
    · rw [List.take_of_length_le hi]
      exact dd_of_nf (.snoc h0 h1 h2)
theorem put_len (l : List Stp) (s : Stp) : (put l s).length ≤ l.length + 1 := by
  unfold put
  split
  · omega
  · simp
theorem dd_len (l : List Stp) : (dd l).length ≤ l.length := by
  have : ∀ (l acc : List Stp), (l.foldl put acc).length ≤ acc.length + l.length := by
    intro l
    induction l with
    | nil => intro acc; simp
    | cons s r ih =>
      intro acc
      have h1 := ih (put acc s)
      have h2 := put_len acc s
      simp only [List.foldl_cons, List.length_cons]
      omega
  have h := this l []
  rw [List.length_nil, Nat.zero_add] at h
  exact h
def tailR (R2 : List Stp) (b lf : Int) : List Stp :=
  match R2 with
  | [] => if b ≤ End then [(b, lf)] else []
  | y :: r => (if b < y.1 then [(b, lf)] else []) ++ (y :: r)
def headR (L1 : List Stp) (x : Stp) (a n : Int) : List Stp := L1 ++ (if x.1 < a then [x] else []) ++ [(a, x.2 + n)]
def more (n : Int) (s : Stp) : Stp := (s.1, s.2 + n)

theorem raw1 {L1 R1 R2 : List Stp} {x : Stp} {a b n lf : Int} (hp : Chk (L1 ++ [x] ++ R1 ++ R2)) (h0 : 0 ≤ a) (ha : a ≤ End) (hab : a < b) (hx : x.1 ≤ a) (hR1 : ∀ s ∈ R1, a < s.1 ∧ s.1 < b) (hR2 : ∀ s ∈ R2, b ≤ s.1)
    (hlf : ∀ q s, [x] ++ R1 = q ++ [s] → lf = s.2) : Raw (L1 ++ [x] ++ R1 ++ R2) a b n (headR L1 x a n ++ R1.map (more n) ++ tailR R2 b lf) := by
  have hpw := hp.nf.up.pairwise
  obtain ⟨hpw1, hR2p, hcR2⟩ := List.pairwise_append.1 hpw
  obtain ⟨hpw2, hR1p, hcR1⟩ := List.pairwise_append.1 hpw1
  obtain ⟨hL1p, _, hcx⟩ := List.pairwise_append.1 hpw2
  have hcx' : ∀ s ∈ L1, s.1 < x.1 := fun s hs => hcx s hs x (by simp)
  have hmem : ∀ s, s ∈ L1 ++ [x] ++ R1 ++ R2 ↔ s ∈ L1 ∨ s = x ∨ s ∈ R1 ∨ s ∈ R2 := by intro s; simp
  have hnow : ∀ s, s ∈ L1 ++ [x] ++ R1 ++ R2 → now (L1 ++ [x] ++ R1 ++ R2) s.1 = s.2 := fun s hs => hp.nf.up.now_at hs
  have hle := hp.le
  have hnn := hp.nf.up.nonneg
  -- what stands at the end
  have hnb : (∀ s ∈ R2, b < s.1) → now (L1 ++ [x] ++ R1 ++ R2) b = lf := by
    intro h2
    rw [now_append_late _ _ _ h2]
    obtain ⟨q, s, e⟩ := snoc_of_ne (show [x] ++ R1 ≠ [] by simp)
    have hs : s.1 ≤ b := by
      have : s ∈ [x] ++ R1 := by rw [e]; simp
      rcases List.mem_append.1 this with h | h
      · simp at h; subst h; omega
      · have := hR1 s h; omega
    have e2 : L1 ++ [x] ++ R1 = (L1 ++ q) ++ [s] := by rw [List.append_assoc, e, List.append_assoc]
    rw [e2, Up.now_last hs]
    exact (hlf q s e).symm
  have hna : now (L1 ++ [x] ++ R1 ++ R2) a = x.2 := by
    rw [List.append_assoc, now_append_late _ (R1 ++ R2) a (fun s hs => by
      rcases List.mem_append.1 hs with h | h
      · exact (hR1 s h).1
      · have := hR2 s h; omega), Up.now_last hx]
  -- the end's steps
  have htail : ∀ s ∈ tailR R2 b lf, b ≤ s.1 ∧ s.1 ≤ End ∧ s.2 = now (L1 ++ [x] ++ R1 ++ R2) s.1 := by
    intro s hs
    unfold tailR at hs
    split at hs
    · split at hs
      · simp at hs; subst hs
        exact ⟨Int.le_refl _, by assumption, (hnb (by simp)).symm⟩
      · simp at hs
    · rename_i y r
      rcases List.mem_append.1 hs with h | h
      · split at h
        · rename_i hby
          simp at h; subst h
          have hyE := hle y ((hmem y).2 (.inr (.inr (.inr (by simp)))))
          refine ⟨Int.le_refl _, by show b ≤ End; omega, (hnb (fun z hz => ?_)).symm⟩
          rcases List.mem_cons.1 hz with rfl | hz
          · exact hby
          · have := (List.pairwise_cons.1 hR2p).1 z hz; omega
        · simp at h
      · exact ⟨hR2 s h, hle s ((hmem s).2 (.inr (.inr (.inr h)))), (hnow s ((hmem s).2 (.inr (.inr (.inr h))))).symm⟩
  have htp : (tailR R2 b lf).Pairwise (fun a b => a.1 < b.1) := by
    unfold tailR
    split
    · split <;> simp
    · rename_i y r
      split
      · rename_i hby
        refine List.pairwise_cons.2 ⟨fun z hz => ?_, hR2p⟩
        rcases List.mem_cons.1 hz with rfl | hz
        · exact hby
        · have := (List.pairwise_cons.1 hR2p).1 z hz; show b < z.1; omega
      · exact hR2p
  have hheadm : ∀ s ∈ headR L1 x a n, s.1 ≤ a ∧ 0 ≤ s.1 ∧ s.2 = val (L1 ++ [x] ++ R1 ++ R2) a b n s.1 := by
    intro s hs
    unfold headR at hs
    rcases List.mem_append.1 hs with hs | hs
    · rcases List.mem_append.1 hs with hs | hs
      · have h1 := hcx' s hs
        have h2 := (hmem s).2 (.inl hs)
        refine ⟨by omega, hnn s h2, ?_⟩
        rw [val, hnow s h2, if_neg (by omega), Int.add_zero]
      · split at hs
        · simp at hs; subst hs
          have h2 := (hmem s).2 (.inr (.inl rfl))
          refine ⟨hx, hnn s h2, ?_⟩
          rw [val, hnow s h2, if_neg (by omega), Int.add_zero]
        · simp at hs
    · simp at hs; subst hs
      refine ⟨Int.le_refl _, h0, ?_⟩
      show x.2 + n = val _ a b n a
      rw [val, hna, if_pos ⟨Int.le_refl _, hab⟩]
  have hmid : ∀ s ∈ R1.map (more n), a < s.1 ∧ s.1 < b ∧ s.1 ≤ End ∧ s.2 = val (L1 ++ [x] ++ R1 ++ R2) a b n s.1 := by
    intro s hs
    obtain ⟨y, hy, rfl⟩ := List.mem_map.1 hs
    have h2 := (hmem y).2 (.inr (.inr (.inl hy)))
    obtain ⟨h3, h4⟩ := hR1 y hy
    refine ⟨h3, h4, hle y h2, ?_⟩
    show y.2 + n = val _ a b n y.1
    rw [val, hnow y h2, if_pos ⟨by omega, h4⟩]
  have hin : ∀ s, s ∈ headR L1 x a n ++ R1.map (more n) ++ tailR R2 b lf ↔ s ∈ headR L1 x a n ∨ s ∈ R1.map (more n) ∨ s ∈ tailR R2 b lf := by intro s; simp
  refine ⟨up_of_pairwise _ _ rfl ?_ ?_, fun s hs => ?_, fun s hs => ?_, fun s hs => ?_, ?_, fun hb => ?_⟩
  · rw [List.pairwise_append, List.pairwise_append]
    refine ⟨⟨?_, ?_, fun s hs r hr => ?_⟩, htp, fun s hs r hr => ?_⟩
    · unfold headR
      rw [List.pairwise_append, List.pairwise_append]
      refine ⟨⟨hL1p, by split <;> simp, fun s hs r hr => ?_⟩, by simp, fun s hs r hr => ?_⟩
      · split at hr
        · simp at hr; subst hr; exact hcx' s hs
        · simp at hr
      · simp at hr; subst hr
        rcases List.mem_append.1 hs with hs | hs
        · have := hcx' s hs; show s.1 < a; omega
        · split at hs
          · simp at hs; subst hs; assumption
          · simp at hs
    · rw [List.pairwise_map]
      exact hR1p
    · have := (hheadm s hs).1
      have := (hmid r hr).1
      omega
    · have h3 := (htail r hr).1
      rcases List.mem_append.1 hs with hs | hs
      · have := (hheadm s hs).1; omega
      · have := (hmid s hs).2.1; omega
  · obtain ⟨f, r, e⟩ := hp.nf.up.head
    unfold headR
    cases L1 with
    | nil =>
      simp only [List.nil_append, List.cons_append, List.cons.injEq] at e
      obtain ⟨rfl, _⟩ := e
      by_cases hza : (0 : Int) < a
      · rw [if_pos hza]; exact ⟨_, _, rfl⟩
      · obtain rfl : a = 0 := by omega
        rw [if_neg (by simp)]
        exact ⟨_, _, rfl⟩
    | cons z q =>
      simp only [List.cons_append, List.cons.injEq] at e
      obtain ⟨rfl, _⟩ := e
      exact ⟨f, _, rfl⟩
  · rcases (hin s).1 hs with h | h | h
    · have := (hheadm s h).1; omega
    · exact (hmid s h).2.2.1
    · exact (htail s h).2.1
  · rcases (hin s).1 hs with h | h | h
    · exact (hheadm s h).2.2
    · exact (hmid s h).2.2.2
    · obtain ⟨h1, _, h3⟩ := htail s h
      rw [val, ← h3, if_neg (by omega), Int.add_zero]
  · rcases (hmem s).1 hs with h | rfl | h | h
    · exact ⟨s, (hin s).2 (.inl (List.mem_append.2 (.inl (List.mem_append.2 (.inl h))))), rfl⟩
    · by_cases hxa : s.1 < a
      · exact ⟨s, (hin s).2 (.inl (List.mem_append.2 (.inl (List.mem_append.2 (.inr (by rw [if_pos hxa]; simp)))))), rfl⟩
      · exact ⟨(a, s.2 + n), (hin _).2 (.inl (List.mem_append.2 (.inr (by simp)))), by show a = s.1; omega⟩
    · exact ⟨more n s, (hin _).2 (.inr (.inl (List.mem_map.2 ⟨s, h, rfl⟩))), rfl⟩
    · refine ⟨s, (hin _).2 (.inr (.inr ?_)), rfl⟩
      unfold tailR
      split
      · simp at h
      · exact List.mem_append.2 (.inr h)
  · exact ⟨(a, x.2 + n), (hin _).2 (.inl (List.mem_append.2 (.inr (by simp)))), rfl⟩
  · unfold tailR at hin htail ⊢
    cases R2 with
    | nil => exact ⟨(b, lf), by simp [hb], rfl⟩
    | cons y r =>
      by_cases hby : b < y.1
      · exact ⟨(b, lf), by simp [hby], rfl⟩
      · have := hR2 y (by simp)
        exact ⟨y, by simp, by omega⟩

/-- nothing is added: what it was -/
theorem out_same {p : List Stp} (hp : Chk p) {a n : Int} (h0 : 0 ≤ a) (h1 : a ≤ End) : out p a a n = p := by
  have hr := rawR_raw hp (n := n) h0 h1 (Int.le_refl a)
  obtain ⟨b1, b2, b3⟩ := dd_nf hr.up
  refine uniq b1 p (End + 1) hp.nf (fun s hs => ?_) (fun s hs => ?_) (fun t h0 ht => ?_)
  · have := hr.le s (b3 s hs); omega
  · have := hp.le s hs; omega
  · rw [b2, hr.now t h0 (by omega), val, if_neg (by omega), Int.add_zero]
theorem out_eq {L1 R1 R2 : List Stp} {x : Stp} {a b n lf : Int} (hp : Chk (L1 ++ [x] ++ R1 ++ R2)) (h0 : 0 ≤ a) (ha : a ≤ End) (hab : a < b) (hx : x.1 ≤ a) (hR1 : ∀ s ∈ R1, a < s.1 ∧ s.1 < b) (hR2 : ∀ s ∈ R2, b ≤ s.1)
    (hlf : ∀ q s, [x] ++ R1 = q ++ [s] → lf = s.2) : dd (headR L1 x a n ++ R1.map (more n) ++ tailR R2 b lf) = out (L1 ++ [x] ++ R1 ++ R2) a b n :=
  Raw.same (raw1 hp h0 ha hab hx hR1 hR2 hlf) (rawR_raw hp h0 ha (by omega))
theorem out_now {p : List Stp} (hp : Chk p) {a b n : Int} (h0 : 0 ≤ a) (h1 : a ≤ End) (h2 : a ≤ b) : Nf (out p a b n) ∧ (∀ t, 0 ≤ t → t ≤ End → now (out p a b n) t = val p a b n t) ∧ ∀ s ∈ out p a b n, s.1 ≤ End := by
  have hr := rawR_raw hp (n := n) h0 h1 h2
  obtain ⟨b1, b2, b3⟩ := dd_nf hr.up
  exact ⟨b1, fun t h0 ht => (b2 t).trans (hr.now t h0 ht), fun s hs => hr.le s (b3 s hs)⟩
end Go.Proofs.Ythfnmighhoighaa.Prof
