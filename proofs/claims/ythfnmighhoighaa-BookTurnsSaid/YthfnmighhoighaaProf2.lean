/-
  Contracts of muster/profile: place (with sort.Search and its closure), At, Least.
-/
import Derived.Test.YthfnmighhoighaaProf
namespace Go.Proofs.Ythfnmighhoighaa.ProfW
open Go.RowKit Mem Prof
set_option linter.unusedVariables false

def Drew (r : Value) (w : World) (e : Ending) (w' : World) : Prop := e = .returned r ∧ ∃ m, w' = w.drewN m
theorem place1_any (bp bt : Nat) (A : Option Addr) (n c : Nat) (p : List Stp) (t : Int) (w : World) (h : Steps w A n p) (hp : Blk w bp 56 #[.slice A n c]) (ht : Blk w bt 3 #[.int .i64 t]) (i : Nat) (s : Stp) (hi : p[i]? = some s) (hn : n ≤ maxLen) :
    Calls Try.prog 76 #[.int .i64 i, .pointer (some ⟨bp, 0, none⟩), .pointer (some ⟨bt, 0, none⟩)] w (Drew (.bool (decide (t < s.1))) w) := by
  have hin : i < n := by rw [← h.len]; exact (List.getElem?_eq_some_iff.1 hi).1
  unfold maxLen at hn
  obtain ⟨b, off, s', rfl, hb, hs, c0, c1⟩ := Lst.two h hin
  rw [hi] at hs
  injection hs with hs
  subst hs
  have p0 : w.cell? ⟨bp, 0, none⟩ = some (.slice (some ⟨b, off, none⟩) n c) := hp.cell 0
  have t0 : w.cell? ⟨bt, 0, none⟩ = some (.int .i64 t) := ht.cell 0
  have hI : (i : Int) < (n : Int) := by omega
  have HI := Lib.hid hi
  clear hi h
  go_enter Try.func76, Try.ntmps76
  go_wp2_with fail
  go_quiet (fail)
  go_wp2_with fail
  go_ret
  exact ⟨rfl, _, rfl⟩
/-- from the first place on at which something is so it is so -/
def SearchPost (N : Nat) (q : Nat → Bool) (w : World) (e : Ending) (w' : World) : Prop := ∃ k m : Nat, k ≤ N ∧ (∀ j, j < k → q j = false) ∧ (∀ j, k ≤ j → j < N → q j = true) ∧ e = .returned (.int .i64 k) ∧ w' = w.drewN m
def lateB (p : List Stp) (t : Int) (j : Nat) : Bool := decide (t < (p.getD j (0, 0)).1)
theorem lateB_at {p : List Stp} {t : Int} {j : Nat} {s : Stp} (h : p[j]? = some s) : lateB p t j = decide (t < s.1) := by simp [lateB, List.getD, h]
theorem lateB_mono {p : List Stp} {t : Int} (hup : p.Pairwise (fun a b => a.1 < b.1)) {i j : Nat} (hij : i ≤ j) (hj : j < p.length) (h : lateB p t i = true) : lateB p t j = true := by
  rcases Nat.lt_or_ge i j with hlt | hge
  · have := List.pairwise_iff_getElem.1 hup i j (by omega) hj hlt
    rw [lateB_at (List.getElem?_eq_getElem (show i < p.length by omega))] at h
    rw [lateB_at (List.getElem?_eq_getElem hj)]
    simp at h ⊢
    omega
  · obtain rfl : i = j := by omega
    exact h
set_option maxHeartbeats 1000000 in
theorem search_any (bp bt : Nat) (A : Option Addr) (n c : Nat) (p : List Stp) (t : Int) (w : World) (h : Steps w A n p) (hp : Blk w bp 56 #[.slice A n c]) (ht : Blk w bt 3 #[.int .i64 t]) (hn : n ≤ 1000000) (hup : p.Pairwise (fun a b => a.1 < b.1)) :
    Calls Try.prog 75 #[.int .i64 n, .func (Fn.func 76) #[] #[.pointer (some ⟨bp, 0, none⟩), .pointer (some ⟨bt, 0, none⟩)]] w (SearchPost n (lateB p t) w) := by
  have HC : Hid (∀ (i m : Nat), i < n → Calls Try.prog 76 #[.int .i64 i, .pointer (some ⟨bp, 0, none⟩), .pointer (some ⟨bt, 0, none⟩)] (w.drewN m) (Drew (.bool (lateB p t i)) (w.drewN m))) := by
    show ∀ (i m : Nat), _
    intro i m hi
    have hl := h.len
    have hg := List.getElem?_eq_getElem (show i < p.length by omega)
    rw [lateB_at hg]
    exact place1_any bp bt A n c p t (w.drewN m) (h.below (below_drewN (Below.refl _ _) m)) (hp.drewN m) (ht.drewN m) i _ hg (by simp [maxLen]; omega)
  have HL := Lib.hid h.len
  have HU := Lib.hid hup
  clear h hp ht hup
  go_enter Try.func75, Try.ntmps75
  go_wp2_with fail
  go_loopw [5, 6] (fun x y wr => ∃ i j m : Nat, i ≤ j ∧ j ≤ n ∧ x = .int .i64 i ∧ y = .int .i64 j ∧ (∀ z, z < i → lateB p t z = false) ∧ (∀ z, j ≤ z → z < n → lateB p t z = true) ∧ wr = w.drewN m) (fun x y _ => (intOf y).toNat - (intOf x).toNat)
  case atStart => exact ⟨0, n, 0, by omega, by omega, rfl, rfl, by omega, by omega, rfl⟩
  case round =>
    obtain ⟨i, j, m, hij, hj, rfl, rfl, h1, h2, rfl⟩ := hrel
    have H1 := Lib.hid h1
    have H2 := Lib.hid h2
    clear h1 h2
    by_cases hlt : i < j
    · obtain ⟨g, hg⟩ : ∃ g : Nat, g = (i + j) / 2 := ⟨_, rfl⟩
      have hg1 : i ≤ g := by omega
      have hg2 : g < j := by omega
      have HG : Hid (((i : Int) + (j : Int)) / 2 = (g : Int)) := by show _ = _; omega
      clear hg
      go_wp2_with fail
      rw [HG.out]
      have hcal := HC.out g m (by omega)
      cases hq : lateB p t g
      · rw [hq] at hcal
        refine hcal.mono ?_
        rintro e w2 ⟨rfl, m2, rfl⟩
        have HQ := Lib.hid hq
        clear hq hcal
        go_wp2_with fail
        refine ⟨⟨g + 1, j, m + m2, by omega, hj, by go_num, rfl, fun z hz => ?_, H2.out, rfl⟩, by simp [intOf]; omega⟩
        cases hz' : lateB p t z
        · rfl
        · exact (lateB_mono HU.out (show z ≤ g by omega) (by rw [HL.out]; omega) hz').symm.trans HQ.out
      · rw [hq] at hcal
        refine hcal.mono ?_
        rintro e w2 ⟨rfl, m2, rfl⟩
        have HQ := Lib.hid hq
        clear hq hcal
        go_wp2_with fail
        exact ⟨⟨i, g, m + m2, by omega, by omega, rfl, rfl, H1.out, fun z hz hzn => lateB_mono HU.out hz (by rw [HL.out]; exact hzn) HQ.out, rfl⟩, by simp [intOf]; omega⟩
    · go_wp2_with fail
      go_ret
      obtain rfl : i = j := by omega
      exact ⟨i, m, hj, H1.out, H2.out, rfl, rfl⟩
theorem pl_of {p : List Stp} {t : Int} {k : Nat} (hc : Chk p) (ht : 0 ≤ t) (hk : k ≤ p.length) (h1 : ∀ j, j < k → lateB p t j = false) (h2 : ∀ j, k ≤ j → j < p.length → lateB p t j = true) : 1 ≤ k ∧ Pl p t (k - 1) := by
  obtain ⟨f, r, e⟩ := hc.nf.up.head
  have h0 : p[0]? = some (0, f) := by rw [e]; rfl
  have hl : 0 < p.length := by rw [e]; simp
  have hk1 : 1 ≤ k := by
    rcases Nat.eq_zero_or_pos k with rfl | h
    · have := h2 0 (Nat.le_refl _) hl
      rw [lateB_at h0] at this
      simp at this
      omega
    · exact h
  refine ⟨hk1, ⟨_, List.getElem?_eq_getElem (show k - 1 < p.length by omega), ?_⟩, fun j s hj hs => ?_⟩
  · have := h1 (k - 1) (by omega)
    rw [lateB_at (List.getElem?_eq_getElem (show k - 1 < p.length by omega))] at this
    simpa using this
  · have := h2 j (by omega) (List.getElem?_eq_some_iff.1 hs).1
    rw [lateB_at hs] at this
    simpa using this
def PlacePost (p : List Stp) (t : Int) (w : World) (e : Ending) (w' : World) : Prop := ∃ i : Nat, i < p.length ∧ Pl p t i ∧ e = .returned (.int .i64 i) ∧ Below w.heap.size w w'
set_option maxHeartbeats 1000000 in
theorem place_any (A : Option Addr) (n c : Nat) (p : List Stp) (t : Int) (w : World) (h : Steps w A n p) (hc : Chk p) (ht : 0 ≤ t) :
    Calls Try.prog 66 #[.slice A n c, .int .i64 t] w (PlacePost p t w) := by
  have hl := h.len
  have hf := hc.few
  subst hl
  obtain ⟨V, hV⟩ : ∃ V, V = (w.alloc (.cells #[.slice A p.length c] 56)).alloc (.cells #[.int .i64 t] 3) := ⟨_, rfl⟩
  have bV : Below w.heap.size w V := by rw [hV]; exact ((Below.refl _ _).alloc (Nat.le_refl _) _).alloc (by simp) _
  have hS := search_any w.heap.size (w.heap.size + 1) A p.length c p t V (h.below bV) (by rw [hV]; exact (Blk.new w _ _).alloc _) (by rw [hV]; have := Blk.new (w.alloc (.cells #[.slice A p.length c] 56)) 3 #[.int .i64 t]; simpa using this) (by omega) hc.nf.up.pairwise
  have HS := Lib.hid hS
  have HC := Lib.hid hc
  clear hS h hc
  go_enter Try.func66, Try.ntmps66
  go_wp2_with fail
  rw [← hV]
  clear hV
  refine HS.out.mono ?_
  rintro e w2 ⟨k, m, hk, h1, h2, rfl, rfl⟩
  obtain ⟨hk1, hpl⟩ := pl_of HC.out ht hk h1 h2
  have HP := Lib.hid hpl
  clear h1 h2 hpl
  go_wp2_with fail
  go_ret
  refine ⟨k - 1, by omega, HP.out, ret_int (by omega), below_drewN bV m⟩

theorem chkB_few {p : List Stp} (h : chkB p = true) : p.length ≤ 1000 := (chk_of h).few
set_option maxHeartbeats 1000000 in
theorem at_any (A : Option Addr) (n c : Nat) (p : List Stp) (t : Int) (w : World) (h : Steps w A n p) (hn : n ≤ maxLen) :
    Calls Try.prog 44 #[.slice A n c, .int .i64 t] w (Ret (.int .i64 (atT p t)) w) := by
  have HCk := Lib.hid (check_any A n c p w h hn)
  have hl := h.len
  subst hl
  have hIn := in_any t
  cases hc : chkB p
  · rw [chkE_no hc] at HCk
    have HF : Hid (atT p t = 0) := by show _ = _; simp [atT, hc]
    clear hc h hIn
    go_enter Try.func44, Try.ntmps44
    go_wp2_with fail
    refine HCk.out.mono ?_
    rintro e w1 ⟨rfl, b1⟩
    go_wp2_with fail
    go_ret
    exact ⟨ret_int HF.out.symm, b1⟩
  · rw [chkE_yes hc] at HCk
    cases ht : tickB t
    · rw [ht] at hIn
      have HF : Hid (atT p t = 0) := by show _ = _; simp [atT, ht]
      have HIn := Lib.hid hIn
      clear hc ht h hIn
      go_enter Try.func44, Try.ntmps44
      go_wp2_with fail
      refine HCk.out.mono ?_
      rintro e w1 ⟨rfl, b1⟩
      go_wp2_with fail
      refine (HIn.out _).mono ?_
      rintro e w2 ⟨rfl, rfl⟩
      go_wp2_with fail
      go_ret
      exact ⟨ret_int HF.out.symm, b1⟩
    · rw [ht] at hIn
      have HF : Hid (atT p t = now p t) := by show _ = _; simp [atT, hc, ht]
      have HIn := Lib.hid hIn
      have ht0 : 0 ≤ t := by simp [tickB] at ht; exact ht.1
      have hck := chk_of hc
      have hfew := hck.few
      have HC := Lib.hid hck
      have HH := Lib.hid h
      clear hc ht h hIn hck
      go_enter Try.func44, Try.ntmps44
      go_wp2_with fail
      refine HCk.out.mono ?_
      rintro e w1 ⟨rfl, b1⟩
      go_wp2_with fail
      refine (HIn.out _).mono ?_
      rintro e w2 ⟨rfl, rfl⟩
      go_wp2_with fail
      refine (place_any A p.length c p t w1 (HH.out.below b1) HC.out ht0).mono ?_
      rintro e w2 ⟨i, hi, hpl, rfl, b2⟩
      obtain ⟨s, hs, hst, hnw, hx⟩ := hpl.split
      clear hx
      have b3 := below_step b1 b2
      obtain ⟨b, off, s', rfl, hb, hs', d0, d1⟩ := Lst.two (HH.out.below b3) hi
      rw [hs] at hs'
      injection hs' with hs'
      subst hs'
      have HN := Lib.hid hnw
      clear hnw hs hpl b1 b2
      go_wp2_with fail
      go_ret
      exact ⟨ret_int (by rw [HF.out, HN.out]), b3⟩

theorem fold_skip (a b : Int) : ∀ (l : List Stp) (o : Int), (∀ s ∈ l, s.1 ≤ a ∨ b ≤ s.1) → l.foldl (leastF a b) o = o := by
  intro l
  induction l with
  | nil => intros; rfl
  | cons s r ih =>
    intro o h
    have hs := h s (by simp)
    rw [List.foldl_cons, leastF, if_neg (by omega)]
    exact ih o (fun x hx => h x (by simp [hx]))
theorem least_start {p : List Stp} {a b : Int} {i : Nat} (hu : p.Pairwise (fun x y => x.1 < y.1)) (h : Pl p a i) : (p.take (i + 1)).foldl (leastF a b) (now p a) = now p a := by
  refine fold_skip a b _ _ (fun s hs => .inl ?_)
  obtain ⟨⟨x, hx, hxa⟩, _⟩ := h
  obtain ⟨j, hj⟩ := List.mem_iff_getElem?.1 hs
  have hjl := (List.getElem?_eq_some_iff.1 hj).1
  rw [List.length_take] at hjl
  rw [List.getElem?_take_of_lt (by omega)] at hj
  rcases Nat.lt_or_ge j i with hlt | hge
  · have := List.pairwise_iff_getElem.1 hu j i (by omega) (List.getElem?_eq_some_iff.1 hx).1 hlt
    obtain ⟨h1, rfl⟩ := List.getElem?_eq_some_iff.1 hj
    obtain ⟨h2, rfl⟩ := List.getElem?_eq_some_iff.1 hx
    omega
  · obtain rfl : j = i := by omega
    rw [hj] at hx
    injection hx with hx
    subst hx
    exact hxa
theorem least_end {p : List Stp} {a b : Int} {k : Nat} {s : Stp} (hu : p.Pairwise (fun x y => x.1 < y.1)) (hk : p[k]? = some s) (hs : b ≤ s.1) : least p a b = (p.take k).foldl (leastF a b) (now p a) := by
  unfold least
  conv => lhs; rw [← List.take_append_drop k p]
  rw [List.foldl_append]
  generalize hN : (p.take k).foldl (leastF a b) (now (p.take k ++ p.drop k) a) = o
  rw [List.take_append_drop] at hN
  rw [hN]
  refine fold_skip a b _ _ (fun x hx => .inr ?_)
  obtain ⟨j, hj⟩ := List.mem_iff_getElem?.1 hx
  rw [List.getElem?_drop] at hj
  obtain ⟨h1, rfl⟩ := List.getElem?_eq_some_iff.1 hj
  obtain ⟨h2, rfl⟩ := List.getElem?_eq_some_iff.1 hk
  rcases Nat.eq_zero_or_pos j with rfl | hpos
  · simp only [Nat.add_zero]; exact hs
  · have := List.pairwise_iff_getElem.1 hu k (k + j) h2 h1 (by omega)
    omega
def LeastRel (w : World) (p : List Stp) (a b : Int) (x y : Value) (wr : World) : Prop := ∃ k : Nat, 1 ≤ k ∧ k ≤ p.length ∧ x = .int .i64 k ∧ y = .int .i64 ((p.take k).foldl (leastF a b) (now p a)) ∧ (∀ j s, k ≤ j → p[j]? = some s → a < s.1) ∧ wr = w
end Go.Proofs.Ythfnmighhoighaa.ProfW
