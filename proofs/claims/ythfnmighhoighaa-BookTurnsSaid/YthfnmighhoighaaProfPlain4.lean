/-
  Profiles as plain data, part 4: what the laws on profiles say.
-/
import Derived.Test.YthfnmighhoighaaProfPlain3
namespace Go.Proofs.Ythfnmighhoighaa.Prof

structure Args (a b n : Int) : Prop where
  a0 : 0 ≤ a
  a1 : a ≤ End
  ab : a ≤ b
  n0 : -1000000 ≤ n
  n1 : n ≤ 1000000
theorem args_of {a b n : Int} (h : argB a b n = true) : Args a b n := by
  simp only [argB, Bool.and_eq_true, decide_eq_true_eq] at h
  exact ⟨h.1.1.1.1, by unfold End; omega, h.1.1.2, h.1.2, h.2⟩
theorem of_args {a b n : Int} (h : Args a b n) : argB a b n = true := by
  have := h.a1
  unfold End at this
  simp only [argB, Bool.and_eq_true, decide_eq_true_eq]
  exact ⟨⟨⟨⟨h.a0, this⟩, h.ab⟩, h.n0⟩, h.n1⟩
theorem add_ok {p : List Stp} {a b n : Int} (h : (add p a b n).2 = 0) : Chk p ∧ Args a b n ∧ Chk (out p a b n) ∧ add p a b n = (out p a b n, 0) := by
  unfold add at h ⊢
  split at h
  · cases h
  · rename_i h1
    split at h
    · cases h
    · rename_i h2
      split at h
      · cases h
      · rename_i h3
        rw [if_neg h1, if_neg h2, if_neg h3]
        exact ⟨chk_of (by simpa using h1), args_of (by simpa using h2), chk_of (by simpa using h3), rfl⟩
theorem add_of {p : List Stp} {a b n : Int} (h1 : Chk p) (h2 : Args a b n) : add p a b n = if chkB (out p a b n) = false then ([], 3) else (out p a b n, 0) := by
  unfold add
  rw [if_neg (by simp [of_chk h1]), if_neg (by simp [of_args h2])]
/-- two ways to one profile -/
theorem same_now {p q : List Stp} (h1 : Nf p) (h2 : Nf q) (e1 : ∀ s ∈ p, s.1 ≤ End) (e2 : ∀ s ∈ q, s.1 ≤ End) (h : ∀ t, 0 ≤ t → t ≤ End → now p t = now q t) : p = q :=
  uniq h1 q (End + 1) h2 (fun s hs => by have := e1 s hs; omega) (fun s hs => by have := e2 s hs; omega) (fun t h0 ht => h t h0 (by omega))
theorem order {p : List Stp} {a b n a' b' n' : Int} (h : (add p a b n).2 = 0) (h' : (add p a' b' n').2 = 0) : add (add p a b n).1 a' b' n' = add (add p a' b' n').1 a b n := by
  obtain ⟨hp, ha, hq, e⟩ := add_ok h
  obtain ⟨_, ha', hq', e'⟩ := add_ok h'
  rw [e, e', add_of hq ha', add_of hq' ha]
  obtain ⟨_, n1, _⟩ := out_now hp (n := n) ha.a0 ha.a1 ha.ab
  obtain ⟨_, n2, _⟩ := out_now hp (n := n') ha'.a0 ha'.a1 ha'.ab
  obtain ⟨k3, n3, l3⟩ := out_now hq (n := n') ha'.a0 ha'.a1 ha'.ab
  obtain ⟨k4, n4, l4⟩ := out_now hq' (n := n) ha.a0 ha.a1 ha.ab
  have : out (out p a b n) a' b' n' = out (out p a' b' n') a b n := same_now k3 k4 l3 l4 (fun t h0 h1 => by
    rw [n3 t h0 h1, n4 t h0 h1]
    unfold val
    rw [n1 t h0 h1, n2 t h0 h1]
    unfold val
    omega)
  rw [this]
theorem back {p : List Stp} {a b n : Int} (h : (add p a b n).2 = 0) : add (add p a b n).1 a b (-n) = (p, 0) := by
  obtain ⟨hp, ha, hq, e⟩ := add_ok h
  have ha2 : Args a b (-n) := ⟨ha.a0, ha.a1, ha.ab, by have := ha.n1; omega, by have := ha.n0; omega⟩
  rw [e, add_of hq ha2]
  obtain ⟨_, n1, _⟩ := out_now hp (n := n) ha.a0 ha.a1 ha.ab
  obtain ⟨k3, n3, l3⟩ := out_now hq (n := -n) ha.a0 ha.a1 ha.ab
  have : out (out p a b n) a b (-n) = p := same_now k3 hp.nf l3 hp.le (fun t h0 h1 => by
    rw [n3 t h0 h1]
    unfold val
    rw [n1 t h0 h1]
    unfold val
    split <;> omega)
  rw [this, if_neg (by simp [of_chk hp])]
def moreT (a b n t : Int) : Int := if a ≤ t ∧ t < b ∧ 0 ≤ t ∧ t ≤ 1000000 then n else 0
theorem back_at {p : List Stp} {a b n : Int} (t : Int) (h : (add p a b n).2 = 0) : atT (add p a b n).1 t = atT p t + moreT a b n t := by
  obtain ⟨hp, ha, hq, e⟩ := add_ok h
  rw [e]
  unfold atT moreT
  simp only [of_chk hp, of_chk hq, true_and]
  by_cases ht : tickB t = true
  · rw [if_pos ht, if_pos ht]
    simp only [tickB, Bool.and_eq_true, decide_eq_true_eq] at ht
    obtain ⟨_, n1, _⟩ := out_now hp (n := n) ha.a0 ha.a1 ha.ab
    rw [n1 t ht.1 (by unfold End; omega), val]
    congr 1
    by_cases hc : a ≤ t ∧ t < b
    · rw [if_pos hc, if_pos ⟨hc.1, hc.2, ht⟩]
    · rw [if_neg hc, if_neg (fun h => hc ⟨h.1, h.2.1⟩)]
  · rw [if_neg ht, if_neg ht, if_neg (fun h => ht (by simp [tickB, h.2.2]))]
    rfl
theorem back_no {p : List Stp} {a b n : Int} (h : (add p a b n).2 ≠ 0) : (add p a b n).1 = [] := by
  unfold add at h ⊢
  split
  · rfl
  · split
    · rfl
    · split
      · rfl
      · rename_i h1 h2 h3
        rw [if_neg h1, if_neg h2, if_neg h3] at h
        exact absurd rfl h
/-- the least -/
theorem fold_le (a b : Int) : ∀ (l : List Stp) (o : Int), l.foldl (leastF a b) o ≤ o ∧ (∀ s ∈ l, a < s.1 → s.1 < b → l.foldl (leastF a b) o ≤ s.2) ∧ (l.foldl (leastF a b) o = o ∨ ∃ s ∈ l, a < s.1 ∧ s.1 < b ∧ l.foldl (leastF a b) o = s.2) := by
  intro l
  induction l with
  | nil => intro o; simp
  | cons x r ih =>
    intro o
    rw [List.foldl_cons]
    obtain ⟨h1, h2, h3⟩ := ih (leastF a b o x)
    have hx : leastF a b o x ≤ o ∧ (a < x.1 → x.1 < b → leastF a b o x ≤ x.2) ∧ (leastF a b o x = o ∨ (a < x.1 ∧ x.1 < b ∧ leastF a b o x = x.2)) := by
      unfold leastF
      split
      · rename_i hc
        exact ⟨by omega, fun _ _ => Int.le_refl _, .inr ⟨hc.1, hc.2.1, rfl⟩⟩
      · rename_i hc
        exact ⟨Int.le_refl _, fun g1 g2 => by rcases Int.lt_or_le x.2 o with h | h; exact absurd ⟨g1, g2, h⟩ hc; exact h, .inl rfl⟩
    refine ⟨by omega, fun s hs g1 g2 => ?_, ?_⟩
    · rcases List.mem_cons.1 hs with rfl | hs
      · have := hx.2.1 g1 g2; omega
      · exact h2 s hs g1 g2
    · rcases h3 with h3 | ⟨s, hs, g1, g2, g3⟩
      · rcases hx.2.2 with h4 | ⟨g1, g2, g3⟩
        · exact .inl (h3.trans h4)
        · exact .inr ⟨x, by simp, g1, g2, h3.trans g3⟩
      · exact .inr ⟨s, by simp [hs], g1, g2, g3⟩
theorem least_le {p : List Stp} (hp : Up p) {a b t : Int} (h0 : 0 ≤ a) (h1 : a ≤ t) (h2 : t < b) : least p a b ≤ now p t := by
  obtain ⟨k1, k2, _⟩ := fold_le a b p (now p a)
  obtain ⟨s, hs, hst, hn, hm⟩ := hp.now_spec t (by omega)
  rw [hn]
  by_cases hc : s.1 ≤ a
  · have : now p t = now p a := (now_congr p a t (fun r hr => ⟨fun h => by omega, fun h => by have := hm r hr h; omega⟩)).symm
    rw [hn] at this
    rw [this]
    exact k1
  · exact k2 s hs (by omega) (by omega)
theorem least_mem {p : List Stp} (hp : Up p) (a b : Int) : least p a b = now p a ∨ ∃ s ∈ p, a ≤ s.1 ∧ s.1 < b ∧ now p s.1 = least p a b := by
  obtain ⟨_, _, k3⟩ := fold_le a b p (now p a)
  rcases k3 with h | ⟨s, hs, g1, g2, g3⟩
  · exact .inl h
  · exact .inr ⟨s, hs, by omega, g2, by rw [hp.now_at hs]; exact g3.symm⟩
end Go.Proofs.Ythfnmighhoighaa.Prof
