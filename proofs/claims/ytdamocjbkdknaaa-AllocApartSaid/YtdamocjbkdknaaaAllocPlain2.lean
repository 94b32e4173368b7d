/-
  What a grant does: its nodes, the sets behind it, its notes. Plain.
-/
import Derived.Test.YtdamocjbkdknaaaAllocHeld
namespace Go.Proofs.Ytdamocjbkdknaaa.Fleet
open FleetW
set_option linter.unusedVariables false

/-- an act, done on some nodes of a row -/
structure Done (l m : List Nd) (ids : List Nat) (act job now : Int) : Prop where
  len : m.length = l.length
  at_ : ∀ i, m[i]? = if i ∈ ids then l[i]?.map (fun x => doneN x act job now) else l[i]?
  may : ∀ i ∈ ids, ∃ x, l[i]? = some x ∧ mayB x act job = true
  ok : chk l = true → chk m = true
theorem doT_err120 {l : List Nd} {n act job now : Int} (h : (doT l n act job now).2 ≠ 0) : (doT l n act job now).2 = 120 := by
  revert h
  unfold doT
  repeat' split
  all_goals simp
theorem chk_set {l : List Nd} {k : Nat} {y : Nd} (h : chk l = true) (hy : fineN y = true) : chk (l.set k y) = true := by
  have ok := chk_iff.1 h
  refine chk_iff.2 ⟨by simpa using ok.some, by simpa using ok.few, fun x hx => ?_⟩
  rcases List.mem_or_eq_of_mem_set hx with h | rfl
  · exact ok.fine x h
  · exact hy
theorem eachL_ok {act job now : Int} : ∀ (ids : List Nat) (l : List Nd), ids.Nodup → (eachL act job now l (nats ids)).2 = 0 → Done l (eachL act job now l (nats ids)).1 ids act job now
  | [], l, _, _ => ⟨rfl, fun i => by simp [nats, eachL], fun i hi => by simp at hi, fun h => h⟩
  | k :: r, l, hnd, h => by
    obtain ⟨hk, hr⟩ := List.nodup_cons.1 hnd
    simp only [nats, List.map_cons, eachL] at h ⊢
    by_cases h0 : (doT l (k : Int) act job now).2 = 0
    · rw [if_pos h0] at h ⊢
      obtain ⟨k', x, e1, hx, hc, ht, hm, e⟩ := doT_ok h0
      obtain rfl : k = k' := by omega
      have ih := eachL_ok r _ hr h
      rw [e] at ih
      rw [e]
      have hkl : k < l.length := (List.getElem?_eq_some_iff.1 hx).1
      refine ⟨?_, fun i => ?_, fun i hi => ?_, fun hcl => ?_⟩
      · have := ih.len
        rw [List.length_set] at this
        exact this
      · have ia := ih.at_ i
        simp only [nats] at ia
        rw [ia]
        by_cases hik : i = k
        · subst hik
          rw [if_neg hk, if_pos (by simp), hx, List.getElem?_set_self hkl]
          rfl
        · have hne : k ≠ i := fun h => hik h.symm
          rw [List.getElem?_set_ne hne]
          by_cases hir : i ∈ r
          · rw [if_pos hir, if_pos (by simp [hir])]
          · rw [if_neg hir, if_neg (by simp [hir, hik])]
      · rcases List.mem_cons.1 hi with rfl | hi
        · exact ⟨x, hx, hm⟩
        · obtain ⟨y, hy, hmy⟩ := ih.may i hi
          have hne : k ≠ i := fun h => hk (h ▸ hi)
          rw [List.getElem?_set_ne hne] at hy
          exact ⟨y, hy, hmy⟩
      · exact ih.ok (chk_set hcl (done_fine ((chk_iff.1 hcl).fine x (List.mem_of_getElem? hx)) hm ht))
    · rw [if_neg h0] at h
      exact absurd h h0
theorem eachL_err {act job now : Int} : ∀ (ns : List Int) (l : List Nd), (eachL act job now l ns).2 ≠ 0 → (eachL act job now l ns).2 = 120
  | [], l, h => absurd rfl h
  | k :: r, l, h => by
    simp only [eachL] at h ⊢
    by_cases h0 : (doT l k act job now).2 = 0
    · rw [if_pos h0] at h ⊢
      exact eachL_err r _ h
    · rw [if_neg h0] at h ⊢
      exact doT_err120 h0
/-- the nodes that a grant takes -/
def takes (l : List Nd) (N : Nat) : List Nat := (sel freeQ l l.length).take N
theorem takes_up (l : List Nd) (N : Nat) : (takes l N).Pairwise (· < ·) := (sel_up _ _ _).sublist (List.take_sublist _ _)
theorem sel_lt64 {l : List Nd} (h : l.length ≤ 48) : ∀ x ∈ sel freeQ l l.length, x < 64 := fun x hx => by
  have := sel_lt x hx
  omega
theorem takes_lt {l : List Nd} {N : Nat} (h : l.length ≤ 48) : ∀ x ∈ takes l N, x < 64 := fun x hx => sel_lt64 h x (List.mem_of_mem_take hx)
theorem takes_free {l : List Nd} {N i : Nat} (h : i ∈ takes l N) : (l[i]?.map freeQ).getD false = true := by
  have := List.mem_of_mem_take h
  unfold sel at this
  exact (List.mem_filter.1 this).2
theorem lowT_sel' {l : List Nd} {N : Nat} (h : chk l = true) : lowT (whereN freeQ l) (N : Int) = if (sel freeQ l l.length).length < N then (0, false) else (setM (takes l N), true) := by
  have hw : whereN freeQ l = setB freeQ l := by simp [whereN, h]
  have hm := memL_setB freeQ l (by have := (chk_iff.1 h).few; omega)
  rw [hw, lowT, hm]
  by_cases hl : (sel freeQ l l.length).length < N
  · rw [if_pos hl, if_pos (.inr (by omega))]
  · rw [if_neg hl, if_neg (by omega)]
    simp [takes]
structure Grants (l m : List Nd) (N : Nat) (act job now : Int) : Prop where
  pos : 1 ≤ N
  few : N ≤ 48
  isAct : act = 1 ∨ act = 2
  good : chk l = true
  len : (takes l N).length = N
  done : Done l m (takes l N) act job now
theorem grant_ok {l : List Nd} {nodes act job now : Int} (h : (grantT l nodes act job now).2.2.2 = 0) :
    ∃ (N : Nat) (m : List Nd), nodes = (N : Int) ∧ Grants l m N act job now ∧ grantT l nodes act job now = (m, setM (takes l N), notesT m (nats (takes l N)), 0) := by
  unfold grantT at h ⊢
  by_cases ha : act ≠ 1 ∧ act ≠ 2
  · rw [if_pos ha] at h; simp at h
  rw [if_neg ha] at h ⊢
  by_cases hc : chk l = false
  · rw [if_pos hc] at h; simp at h
  rw [if_neg hc] at h ⊢
  have hc' : chk l = true := by simpa using hc
  by_cases hn : nodes < 1 ∨ 48 < nodes
  · rw [if_pos hn] at h; simp at h
  rw [if_neg hn] at h ⊢
  obtain ⟨N, rfl⟩ : ∃ k : Nat, nodes = (k : Int) := ⟨nodes.toNat, by omega⟩
  have hlow := lowT_sel' (N := N) hc'
  by_cases hl : (sel freeQ l l.length).length < N
  · rw [if_pos hl] at hlow; rw [hlow] at h; simp at h
  rw [if_neg hl] at hlow
  rw [hlow] at h ⊢
  rw [if_neg (by simp)] at h ⊢
  have hfew := (chk_iff.1 hc').few
  have hmem : memL (setM (takes l N)) = takes l N := memL_setM (takes_up l N) (takes_lt hfew)
  have hact : act = 1 ∨ act = 2 := by
    by_cases h1 : act = 1
    · exact .inl h1
    · by_cases h2 : act = 2
      · exact .inr h2
      · exact absurd ⟨h1, h2⟩ ha
  have hsend : sendsB act = true := by rcases hact with rfl | rfl <;> rfl
  have hE : eachT l (setM (takes l N)) act job now = if (eachL act job now l (nats (takes l N))).2 = 0 then ((eachL act job now l (nats (takes l N))).1, notesT (eachL act job now l (nats (takes l N))).1 (nats (takes l N)), 0) else ([], [], (eachL act job now l (nats (takes l N))).2) := by
    rw [eachT, if_neg hc, hmem, hsend]
    simp
  rw [hE] at h ⊢
  by_cases h0 : (eachL act job now l (nats (takes l N))).2 = 0
  · rw [if_pos h0]
    rw [if_pos rfl]
    have hd := eachL_ok (takes l N) l ((takes_up l N).imp (fun h => by omega)) h0
    exact ⟨N, _, rfl, ⟨by omega, by omega, hact, hc', by rw [takes, List.length_take]; omega, hd⟩, rfl⟩
  · rw [if_neg h0] at h
    simp only [h0, if_false] at h
theorem grant_err {l : List Nd} {nodes act job now : Int} (h : (grantT l nodes act job now).2.2.2 ≠ 0) :
    (grantT l nodes act job now).1 = [] ∧ (grantT l nodes act job now).2.1 = 0 ∧ (grantT l nodes act job now).2.2.1 = [] ∧ ((grantT l nodes act job now).2.2.2 = 130 → ((memL (whereN freeQ l)).length : Int) < nodes) := by
  revert h
  unfold grantT
  by_cases ha : act ≠ 1 ∧ act ≠ 2
  · rw [if_pos ha]; simp
  rw [if_neg ha]
  by_cases hc : chk l = false
  · rw [if_pos hc]; simp
  rw [if_neg hc]
  by_cases hn : nodes < 1 ∨ 48 < nodes
  · rw [if_pos hn]; simp
  rw [if_neg hn]
  by_cases hl : (lowT (whereN freeQ l) nodes).2 = false
  · rw [if_pos hl]
    intro _
    refine ⟨rfl, rfl, rfl, fun _ => ?_⟩
    unfold lowT at hl
    by_cases hx : nodes < 0 ∨ ((memL (whereN freeQ l)).length : Int) < nodes
    · omega
    · rw [if_neg hx] at hl; simp at hl
  rw [if_neg hl]
  by_cases he : (eachT l (lowT (whereN freeQ l) nodes).1 act job now).2.2 = 0
  · rw [if_pos he]; simp
  · rw [if_neg he]
    intro _
    refine ⟨rfl, rfl, rfl, fun h130 => ?_⟩
    exfalso
    simp only at h130
    unfold eachT at h130 he
    rw [if_neg hc] at h130 he
    by_cases h0 : (eachL act job now l (nats (memL (lowT (whereN freeQ l) nodes).1))).2 = 0
    · rw [if_pos h0] at he; simp at he
    · rw [if_neg h0] at h130
      have := eachL_err _ _ h0
      simp only at h130
      omega
theorem free_setM {l : List Nd} (h : chk l = true) : whereN freeQ l = setM (sel freeQ l l.length) := by
  rw [setM_sel _ _ _ (Nat.le_refl _), List.take_length]
  simp [whereN, h]
theorem diff_drop {m : List Nat} (hp : m.Pairwise (· < ·)) (hm : ∀ x ∈ m, x < 64) (n : Nat) : diffN (setM m) (setM (m.take n)) = setM (m.drop n) := by
  apply Nat.eq_of_testBit_eq
  intro i
  have hpd : (m.drop n).Pairwise (· < ·) := hp.sublist (List.drop_sublist _ _)
  have hpt : (m.take n).Pairwise (· < ·) := hp.sublist (List.take_sublist _ _)
  rw [diffN_bit, setM_bit _ _ hp, setM_bit _ _ hpd, setM_bit _ _ hpt]
  have hnd : m.Nodup := hp.imp (fun h => by omega)
  rw [Bool.eq_iff_iff]
  simp only [Bool.and_eq_true, decide_eq_true_eq, Bool.not_eq_true', decide_eq_false_iff_not]
  have hsplit := List.take_append_drop n m
  rw [← hsplit] at hnd
  have hdis := List.nodup_append.1 hnd
  constructor
  · rintro ⟨⟨_, h1⟩, h2⟩
    rw [← hsplit] at h1
    rcases List.mem_append.1 h1 with h | h
    · exact absurd h h2
    · exact h
  · intro h
    have hin : i ∈ m := List.mem_of_mem_drop h
    refine ⟨⟨hm i hin, hin⟩, fun h' => ?_⟩
    exact hdis.2.2 i h' i h rfl
theorem diff_sub {m : List Nat} (hp : m.Pairwise (· < ·)) (n : Nat) : diffN (setM (m.take n)) (setM m) = 0 := by
  apply Nat.eq_of_testBit_eq
  intro i
  have hpt : (m.take n).Pairwise (· < ·) := hp.sublist (List.take_sublist _ _)
  rw [diffN_bit, setM_bit _ _ hp, setM_bit _ _ hpt, Nat.zero_testBit]
  by_cases h : i ∈ m.take n
  · have : i ∈ m := List.mem_of_mem_take h
    simp [h, this]
  · simp [h]
/-- the least member of a set alone: s & -s -/
theorem low_bit {p : Nat} {r : List Nat} (h : ∀ x ∈ r, p < x) (hlt : setM (p :: r) < 2 ^ 64) : setM (p :: r) &&& (2 ^ 64 - setM (p :: r)) = 2 ^ p := by
  obtain ⟨q, hq⟩ := setM_high r p h
  have hp := Nat.two_pow_pos p
  rw [setM_cons, hq] at hlt ⊢
  have hp64 : p < 64 := by
    rcases Nat.lt_or_ge p 64 with h | h
    · exact h
    · have := Nat.pow_le_pow_right (show 0 < 2 by omega) h
      omega
  have e64 : 2 ^ 64 = 2 ^ (p + 1) * 2 ^ (63 - p) := by rw [← Nat.pow_add]; congr 1; omega
  have hqlt : q < 2 ^ (63 - p) := by
    rcases Nat.lt_or_ge q (2 ^ (63 - p)) with h | h
    · exact h
    · have := Nat.mul_le_mul_left (2 ^ (p + 1)) h
      omega
  have l1 : 2 ^ p < 2 ^ (p + 1) := by rw [Nat.pow_succ]; omega
  have e1 : 2 ^ p + 2 ^ (p + 1) * q = 2 ^ (p + 1) * q + 2 ^ p := by omega
  have e2 : 2 ^ 64 - (2 ^ p + 2 ^ (p + 1) * q) = 2 ^ (p + 1) * (2 ^ (63 - p) - 1 - q) + 2 ^ p := by
    have h1 : 2 ^ (p + 1) * (2 ^ (63 - p) - 1 - q) + 2 ^ (p + 1) * (q + 1) = 2 ^ (p + 1) * 2 ^ (63 - p) := by
      rw [← Nat.mul_add]
      congr 1
      omega
    have h2 : 2 ^ (p + 1) * (q + 1) = 2 ^ (p + 1) * q + 2 * 2 ^ p := by rw [Nat.mul_add, Nat.pow_succ]; omega
    rw [h2] at h1
    rw [e64]
    omega
  rw [e2, e1]
  apply Nat.eq_of_testBit_eq
  intro i
  rw [Nat.testBit_and, Nat.testBit_two_pow_mul_add _ l1, Nat.testBit_two_pow_mul_add _ l1, Nat.testBit_two_pow]
  split
  · rw [Bool.and_self]
  · next hi =>
    have hne : ¬ p = i := by omega
    rw [decide_eq_false hne]
    generalize i - (p + 1) = j
    have hq2 : 2 ^ (63 - p) - 1 - q = 2 ^ (63 - p) - (q + 1) := by omega
    rw [hq2, Nat.testBit_two_pow_sub_succ hqlt]
    cases q.testBit j <;> simp
theorem grant_free {l m : List Nd} {N : Nat} {act job now : Int} (g : Grants l m N act job now) : whereN freeQ m = setM ((sel freeQ l l.length).drop N) := by
  have hc := g.done.ok g.good
  have hw : whereN freeQ m = setB freeQ m := by simp [whereN, hc]
  rw [hw]
  apply Nat.eq_of_testBit_eq
  intro i
  have hup := sel_up freeQ l l.length
  have hpd : ((sel freeQ l l.length).drop N).Pairwise (· < ·) := hup.sublist (List.drop_sublist _ _)
  rw [setB_bit, setM_bit _ _ hpd, g.done.at_]
  have hnd : (sel freeQ l l.length).Nodup := hup.imp (fun h => by omega)
  have hsplit := List.take_append_drop N (sel freeQ l l.length)
  rw [← hsplit] at hnd
  have hdis := (List.nodup_append.1 hnd).2.2
  by_cases hi : i ∈ takes l N
  · rw [if_pos hi]
    obtain ⟨x, hx, hm⟩ := g.done.may i hi
    rw [hx]
    have hf : freeQ (doneN x act job now) = false := by
      rcases g.isAct with rfl | rfl <;> simp [doneN, sendN, freeQ]
    simp only [Option.map_some, Option.getD_some, hf]
    rw [eq_comm, decide_eq_false_iff_not]
    intro h'
    exact hdis i hi i h' rfl
  · rw [if_neg hi]
    have hiff : i ∈ (sel freeQ l l.length).drop N ↔ (l[i]?.map freeQ).getD false = true := by
      constructor
      · intro h
        have := List.mem_of_mem_drop h
        unfold sel at this
        exact (List.mem_filter.1 this).2
      · intro h
        have hmem : i ∈ sel freeQ l l.length := by
          unfold sel
          refine List.mem_filter.2 ⟨List.mem_range.2 ?_, h⟩
          rcases Nat.lt_or_ge i l.length with h' | h'
          · exact h'
          · rw [List.getElem?_eq_none h'] at h; simp at h
        rw [← hsplit] at hmem
        rcases List.mem_append.1 hmem with h | h
        · exact absurd h hi
        · exact h
    cases hb : (l[i]?.map freeQ).getD false
    · rw [eq_comm, decide_eq_false_iff_not, hiff, hb]; simp
    · rw [eq_comm, decide_eq_true_iff, hiff]; exact hb
/-- the notes of a grant: one for each node, in their order -/
theorem grant_notes {l m : List Nd} {N : Nat} {act job now : Int} (g : Grants l m N act job now) : ∀ ids : List Nat, (∀ i ∈ ids, i ∈ takes l N) → ∃ t : List Nt, notesT m (nats ids) = t ∧ t.length = ids.length ∧ ∀ k, k < ids.length → ∃ x i, t[k]? = some x ∧ ids[k]? = some i ∧ x.jb = job ∧ x.nd = (i : Int)
  | [], _ => ⟨[], rfl, rfl, fun k hk => by simp at hk⟩
  | i :: r, h => by
    obtain ⟨t, ht, hl, hk⟩ := grant_notes g r (fun j hj => h j (by simp [hj]))
    have hi := h i (by simp)
    obtain ⟨x, hx, hm⟩ := g.done.may i hi
    have hmi : m[i]? = some (doneN x act job now) := by rw [g.done.at_, if_pos hi, hx]; rfl
    have hn := noteT_at (g.done.ok g.good) hmi
    have hw : (doneN x act job now).wt ≠ 0 := by rcases g.isAct with rfl | rfl <;> simp [doneN, sendN]
    have hj : (doneN x act job now).jb = job := by rcases g.isAct with rfl | rfl <;> simp [doneN, sendN]
    rw [if_neg hw] at hn
    refine ⟨⟨(doneN x act job now).wt, (i : Int), (doneN x act job now).jb, (doneN x act job now).ep⟩ :: t, ?_, by simp [hl], fun k hk' => ?_⟩
    · unfold notesT at ht ⊢
      simp only [nats, List.map_cons, List.flatMap_cons] at ht ⊢
      rw [ht, noteO, hn]
      rfl
    · cases k with
      | zero => exact ⟨_, i, rfl, rfl, hj, rfl⟩
      | succ k =>
        obtain ⟨y, j, h1, h2, h3, h4⟩ := hk k (by simpa using hk')
        exact ⟨y, j, by simpa using h1, by simpa using h2, h3, h4⟩
theorem grant_held {l m : List Nd} {N : Nat} {act job now other : Int} (g : Grants l m N act job now) (ho : other ≠ job) : heldN m other = heldN l other := by
  unfold heldN
  split
  · rfl
  · have hc := g.done.ok g.good
    have h1 : whereN (ofQ other 1) m = setB (ofQ other 1) m := by simp [whereN, hc]
    have h2 : whereN (ofQ other 1) l = setB (ofQ other 1) l := by simp [whereN, g.good]
    rw [h1, h2]
    apply Nat.eq_of_testBit_eq
    intro i
    rw [setB_bit, setB_bit, g.done.at_]
    by_cases hi : i ∈ takes l N
    · rw [if_pos hi]
      obtain ⟨x, hx, hm⟩ := g.done.may i hi
      have hst := once_may hm g.isAct
      have hjb : job ≠ other := fun h => ho h.symm
      rw [hx]
      simp only [Option.map_some, Option.getD_some]
      rcases g.isAct with rfl | rfl <;> simp [doneN, sendN, ofQ, hst, hjb]
    · rw [if_neg hi]
theorem grant_apart {l m : List Nd} {N : Nat} {act job now other : Int} (g : Grants l m N act job now) (ho : other ≠ job) : heldN m other &&& setM (takes l N) = 0 := by
  rw [grant_held g ho]
  apply Nat.eq_of_testBit_eq
  intro i
  rw [Nat.testBit_and, setM_bit _ _ (takes_up l N), Nat.zero_testBit]
  by_cases hi : i ∈ takes l N
  · have : (heldN l other).testBit i = false := by
      unfold heldN
      split
      · simp
      · have h2 : whereN (ofQ other 1) l = setB (ofQ other 1) l := by simp [whereN, g.good]
        obtain ⟨x, hx, hm⟩ := g.done.may i hi
        have hst := once_may hm g.isAct
        rw [h2, setB_bit, hx]
        simp [ofQ, hst]
    rw [this, Bool.false_and]
  · simp [hi]
theorem grant_own {l m : List Nd} {N : Nat} {job now : Int} (g : Grants l m N 1 job now) : heldN m job = heldN l job ||| setM (takes l N) := by
  have hc := g.done.ok g.good
  have hN := g.pos
  have hj : 1 ≤ job := by
    have hl := g.len
    obtain ⟨i, hi⟩ : ∃ i, i ∈ takes l N := by
      cases ht : takes l N with
      | nil => rw [ht] at hl; simp at hl; omega
      | cons i r => exact ⟨i, by simp⟩
    obtain ⟨x, hx, hm⟩ := g.done.may i hi
    unfold mayB at hm
    simp at hm
    omega
  have hj' : ¬ job < 1 := by omega
  unfold heldN
  rw [if_neg hj', if_neg hj']
  have h1 : whereN (ofQ job 1) m = setB (ofQ job 1) m := by simp [whereN, hc]
  have h2 : whereN (ofQ job 1) l = setB (ofQ job 1) l := by simp [whereN, g.good]
  rw [h1, h2]
  apply Nat.eq_of_testBit_eq
  intro i
  rw [Nat.testBit_or, setB_bit, setB_bit, g.done.at_, setM_bit _ _ (takes_up l N)]
  by_cases hi : i ∈ takes l N
  · rw [if_pos hi]
    obtain ⟨x, hx, hm⟩ := g.done.may i hi
    rw [hx]
    simp [doneN, sendN, ofQ, hi]
  · rw [if_neg hi]
    simp [hi]
end Go.Proofs.Ytdamocjbkdknaaa.Fleet
