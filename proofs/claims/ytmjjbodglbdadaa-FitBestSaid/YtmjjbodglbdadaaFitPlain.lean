/-
  The earliest room in a profile, as plain data: what fits, the first place that does, and that the program's way finds it.
-/
import Derived.Test.YtmjjbodglbdadaaProfPlain4
namespace Go.Proofs.Ytmjjbodglbdadaa.Prof
set_option linter.unusedVariables false

def askB (long nodes : Int) : Bool := decide (1 ≤ nodes) && decide (nodes ≤ 1000000) && decide (1 ≤ long) && decide (long ≤ 1000000)
def atB (t long : Int) : Bool := decide (0 ≤ t) && decide (t ≤ 1000000 - long)
def fitsT (p : List Stp) (t long nodes : Int) : Bool := chkB p && askB long nodes && atB t long && decide (nodes ≤ least p t (t + long))
theorem ask_iff {long nodes : Int} : askB long nodes = true ↔ (1 ≤ nodes ∧ nodes ≤ 1000000 ∧ 1 ≤ long ∧ long ≤ 1000000) := by simp [askB]; constructor <;> (intro h; omega)
theorem at_iff {t long : Int} : atB t long = true ↔ (0 ≤ t ∧ t ≤ 1000000 - long) := by simp [atB]
/-- so many are free at each tick of some -/
def Room (p : List Stp) (t long nodes : Int) : Prop := ∀ x, t ≤ x → x < t + long → nodes ≤ now p x
theorem least_ge {p : List Stp} (hp : Up p) {t long nodes : Int} (h0 : 0 ≤ t) (hl : 1 ≤ long) : nodes ≤ least p t (t + long) ↔ Room p t long nodes := by
  constructor
  · intro h x h1 h2
    have := least_le hp h0 h1 h2
    omega
  · intro h
    rcases least_mem hp t (t + long) with e | ⟨s, hs, g1, g2, g3⟩
    · rw [e]; exact h t (Int.le_refl _) (by omega)
    · rw [← g3]; exact h s.1 g1 g2
theorem fits_iff {p : List Stp} (hc : chkB p = true) {t long nodes : Int} (ha : askB long nodes = true) : fitsT p t long nodes = true ↔ (0 ≤ t ∧ t ≤ 1000000 - long ∧ Room p t long nodes) := by
  obtain ⟨_, _, hl, _⟩ := ask_iff.1 ha
  simp only [fitsT, hc, ha, Bool.true_and, Bool.and_eq_true, decide_eq_true_eq, at_iff]
  constructor
  · rintro ⟨⟨h0, h1⟩, h2⟩
    exact ⟨h0, h1, (least_ge (chk_of hc).nf.up h0 hl).1 h2⟩
  · rintro ⟨h0, h1, h2⟩
    exact ⟨⟨h0, h1⟩, (least_ge (chk_of hc).nf.up h0 hl).2 h2⟩
theorem fits_ask {p : List Stp} {t long nodes : Int} (h : fitsT p t long nodes = true) : chkB p = true ∧ askB long nodes = true := by
  simp only [fitsT, Bool.and_eq_true] at h
  exact ⟨h.1.1.1, h.1.1.2⟩

/-- the first place from f on, or none -/
def IsE (p : List Stp) (f long nodes : Int) : Option Int → Prop
  | some x => f ≤ x ∧ fitsT p x long nodes = true ∧ ∀ y, f ≤ y → y < x → fitsT p y long nodes = false
  | none => ∀ y, f ≤ y → fitsT p y long nodes = false
theorem isE_uniq {p : List Stp} {f long nodes : Int} {o o' : Option Int} (h : IsE p f long nodes o) (h' : IsE p f long nodes o') : o = o' := by
  cases o with
  | none =>
    cases o' with
    | none => rfl
    | some x => have := h x h'.1; rw [h'.2.1] at this; cases this
  | some x =>
    cases o' with
    | none => have := h' x h.1; rw [h.2.1] at this; cases this
    | some x' =>
      rcases Int.lt_trichotomy x x' with hl | he | hg
      · have := h'.2.2 x h.1 hl; rw [h.2.1] at this; cases this
      · rw [he]
      · have := h.2.2 x' h'.1 hg; rw [h'.2.1] at this; cases this
/-- the document's way -/
def earl (p : List Stp) (f0 long nodes : Int) : Option Int :=
  if fitsT p (max f0 0) long nodes = true then some (max f0 0) else (p.find? fun s => decide (max f0 0 < s.1) && fitsT p s.1 long nodes).map (·.1)

/-- where room begins, a step begins (or what is asked) -/
theorem room_begins {p : List Stp} (hp : Up p) {f y long nodes : Int} (h0 : 0 ≤ f) (hfy : f ≤ y) (hl : 1 ≤ long) (h : Room p y long nodes) : ∃ x, f ≤ x ∧ x ≤ y ∧ (x = f ∨ ∃ s ∈ p, s.1 = x) ∧ Room p x long nodes ∧ (x = f → True) := by
  obtain ⟨s, hs, hsy, hn, hm⟩ := hp.now_spec y (by omega)
  by_cases hc : s.1 ≤ f
  · refine ⟨f, Int.le_refl _, hfy, .inl rfl, fun t h1 h2 => ?_, fun _ => trivial⟩
    rcases Int.lt_or_le t y with h3 | h3
    · have e : now p t = now p y := now_congr p t y (fun r hr => ⟨fun h => by omega, fun h => by have := hm r hr h; omega⟩)
      rw [e]
      exact h y (Int.le_refl _) (by omega)
    · exact h t h3 (by omega)
  · refine ⟨s.1, by omega, hsy, .inr ⟨s, hs, rfl⟩, fun t h1 h2 => ?_, fun _ => trivial⟩
    rcases Int.lt_or_le t y with h3 | h3
    · have e : now p t = now p y := now_congr p t y (fun r hr => ⟨fun h => by omega, fun h => by have := hm r hr h; omega⟩)
      rw [e]
      exact h y (Int.le_refl _) (by omega)
    · exact h t h3 (by omega)
theorem earl_is (p : List Stp) (f0 long nodes : Int) : IsE p (max f0 0) long nodes (earl p f0 long nodes) := by
  have hf0 : 0 ≤ max f0 0 := by omega
  generalize hf : max f0 0 = f at *
  unfold earl
  rw [hf]
  by_cases h1 : fitsT p f long nodes = true
  · rw [if_pos h1]
    exact ⟨Int.le_refl _, h1, fun y h2 h3 => by omega⟩
  · rw [if_neg h1]
    have key : ∀ y, f ≤ y → fitsT p y long nodes = true → ∃ s ∈ p, f < s.1 ∧ s.1 ≤ y ∧ fitsT p s.1 long nodes = true := by
      intro y hy hfit
      obtain ⟨hc, ha⟩ := fits_ask hfit
      obtain ⟨g0, g1, g2⟩ := (fits_iff hc ha).1 hfit
      obtain ⟨_, _, hl, _⟩ := ask_iff.1 ha
      obtain ⟨x, k1, k2, k3, k4, _⟩ := room_begins (chk_of hc).nf.up hf0 hy hl g2
      have hfx : fitsT p x long nodes = true := (fits_iff hc ha).2 ⟨by omega, by omega, k4⟩
      rcases k3 with rfl | ⟨s, hs, rfl⟩
      · exact absurd hfx h1
      · refine ⟨s, hs, ?_, k2, hfx⟩
        rcases Int.lt_or_le f s.1 with h | h
        · exact h
        · have : s.1 = f := by omega
          rw [this] at hfx
          exact absurd hfx h1
    cases hfd : p.find? fun s => decide (f < s.1) && fitsT p s.1 long nodes with
    | none =>
      rw [List.find?_eq_none] at hfd
      show ∀ y, _
      intro y hy
      cases hb : fitsT p y long nodes
      · rfl
      · obtain ⟨s, hs, k1, _, k3⟩ := key y hy hb
        exact absurd (by simp [k1, k3]) (hfd s hs)
    | some s =>
      obtain ⟨k1, l1, l2, hpe, k2⟩ := List.find?_eq_some_iff_append.1 hfd
      simp only [Bool.and_eq_true, decide_eq_true_eq] at k1
      refine ⟨by show f ≤ s.1; omega, k1.2, fun y hy hys => ?_⟩
      cases hb : fitsT p y long nodes
      · rfl
      · exfalso
        obtain ⟨s', hs', g1, g2, g3⟩ := key y hy hb
        obtain ⟨hc, _⟩ := fits_ask hb
        have hpw := (chk_of hc).nf.up.pairwise
        rw [hpe] at hs' hpw
        have hys' : y < s.1 := hys
        rcases List.mem_append.1 hs' with h | h
        · have := k2 s' h
          simp [g1, g3] at this
        · rcases List.mem_cons.1 h with rfl | h
          · omega
          · have := (List.pairwise_cons.1 (List.pairwise_append.1 hpw).2.1).1 s' h
            omega

/-- the program's way: what holds at each of its turns -/
structure Turn (p : List Stp) (f long nodes t : Int) (i : Nat) : Prop where
  le : f ≤ t
  none : ∀ y, f ≤ y → y < t → ¬ Room p y long nodes
  past : ∀ j s, j < i → p[j]? = some s → nodes ≤ s.2 ∨ ∃ r, p[j + 1]? = some r ∧ r.1 ≤ t
/-- no step stands in the way: there is room -/
theorem turn_found {p : List Stp} (hp : Up p) {f long nodes t : Int} {i : Nat} (h : Turn p f long nodes t i) (h0 : 0 ≤ t) (hl : 1 ≤ long) (hi : ∀ j s, i ≤ j → p[j]? = some s → t + long ≤ s.1) : Room p t long nodes := by
  intro x h1 h2
  obtain ⟨s, hs, hsx, hn, hm⟩ := hp.now_spec x (by omega)
  rw [hn]
  obtain ⟨j, hj⟩ := List.mem_iff_getElem?.1 hs
  rcases Nat.lt_or_ge j i with hlt | hge
  · rcases h.past j s hlt hj with h3 | ⟨r, hr, hrt⟩
    · exact h3
    · exfalso
      have h4 := hm r (List.mem_of_getElem? hr) (by omega)
      obtain ⟨g1, rfl⟩ := List.getElem?_eq_some_iff.1 hj
      obtain ⟨g2, rfl⟩ := List.getElem?_eq_some_iff.1 hr
      have := List.pairwise_iff_getElem.1 hp.pairwise j (j + 1) g1 g2 (by omega)
      omega
  · have := hi j s hge hj
    omega
/-- a step that stands in the way: nothing up to its end has room -/
theorem turn_way {p : List Stp} (hp : Up p) {f long nodes t : Int} {i : Nat} {s : Stp} (h : Turn p f long nodes t i) (h0 : 0 ≤ t) (hl : 1 ≤ long) (hs : p[i]? = some s) (hst : s.1 < t + long) (hfree : s.2 < nodes) (y : Int) (hy : t ≤ y) (hn : ∀ r, p[i + 1]? = some r → y < r.1) : ¬ Room p y long nodes := by
  intro hr
  have hpl : Pl p (max y s.1) i := by
    refine ⟨⟨s, hs, by omega⟩, fun j r hj hr' => ?_⟩
    obtain ⟨g0, g0e⟩ := List.getElem?_eq_some_iff.1 hs
    obtain ⟨g1, rfl⟩ := List.getElem?_eq_some_iff.1 hr'
    have h1 := hn _ (List.getElem?_eq_getElem (show i + 1 < p.length by omega))
    have h2 : p[i + 1].1 ≤ p[j].1 := by
      rcases Nat.lt_or_ge (i + 1) j with h' | h'
      · have := List.pairwise_iff_getElem.1 hp.pairwise (i + 1) j (by omega) g1 h'
        omega
      · have : j = i + 1 := by omega
        subst this
        omega
    have h3 := List.pairwise_iff_getElem.1 hp.pairwise i (i + 1) g0 (by omega) (by omega)
    rw [g0e] at h3
    omega
  obtain ⟨s', hs', _, e, _⟩ := hpl.split
  rw [hs] at hs'
  injection hs' with hs'
  subst hs'
  have := hr (max y s.1) (by omega) (by omega)
  omega
theorem turn_next {p : List Stp} (hp : Up p) {f long nodes t : Int} {i : Nat} {s r : Stp} (h : Turn p f long nodes t i) (h0 : 0 ≤ t) (hl : 1 ≤ long) (hs : p[i]? = some s) (hst : s.1 < t + long) (hfree : s.2 < nodes) (hr : p[i + 1]? = some r) (hrt : t < r.1) : Turn p f long nodes r.1 (i + 1) := by
  refine ⟨by have := h.le; omega, fun y h1 h2 => ?_, fun j x hj hx => ?_⟩
  · rcases Int.lt_or_le y t with h3 | h3
    · exact h.none y h1 h3
    · exact turn_way hp h h0 hl hs hst hfree y h3 (fun r' hr' => by rw [hr] at hr'; injection hr' with hr'; subst hr'; exact h2)
  · rcases Nat.lt_or_ge j i with h' | h'
    · rcases h.past j x h' hx with h3 | ⟨r', hr', h4⟩
      · exact .inl h3
      · exact .inr ⟨r', hr', by omega⟩
    · obtain rfl : j = i := by omega
      exact .inr ⟨r, hr, Int.le_refl _⟩
theorem turn_step {p : List Stp} {f long nodes t : Int} {i : Nat} {s : Stp} (h : Turn p f long nodes t i) (hs : p[i]? = some s) (hc : nodes ≤ s.2 ∨ ∃ r, p[i + 1]? = some r ∧ r.1 ≤ t) : Turn p f long nodes t (i + 1) := by
  refine ⟨h.le, h.none, fun j x hj hx => ?_⟩
  rcases Nat.lt_or_ge j i with h' | h'
  · exact h.past j x h' hx
  · obtain rfl : j = i := by omega
    rw [hs] at hx
    injection hx with hx
    subst hx
    exact hc
theorem turn_start (p : List Stp) (f long nodes : Int) : Turn p f long nodes f 0 := ⟨Int.le_refl _, fun y h1 h2 => by omega, fun j s hj => by omega⟩
/-- the program's answers -/
theorem turn_yes {p : List Stp} (hc : chkB p = true) {f0 long nodes t : Int} {i : Nat} (ha : askB long nodes = true) (h : Turn p (max f0 0) long nodes t i) (ht : t ≤ 1000000 - long) (hi : ∀ j s, i ≤ j → p[j]? = some s → t + long ≤ s.1) : earl p f0 long nodes = some t := by
  obtain ⟨_, _, hl, _⟩ := ask_iff.1 ha
  have h0 : 0 ≤ t := by have := h.le; omega
  refine isE_uniq (earl_is p f0 long nodes) ⟨h.le, (fits_iff hc ha).2 ⟨h0, ht, turn_found (chk_of hc).nf.up h h0 hl hi⟩, fun y h1 h2 => ?_⟩
  cases hb : fitsT p y long nodes
  · rfl
  · exact absurd ((fits_iff hc ha).1 hb).2.2 (h.none y h1 h2)
theorem turn_late {p : List Stp} (hc : chkB p = true) {f0 long nodes t : Int} {i : Nat} (ha : askB long nodes = true) (h : Turn p (max f0 0) long nodes t i) (ht : 1000000 - long < t) : earl p f0 long nodes = none := by
  refine isE_uniq (earl_is p f0 long nodes) (o' := none) (fun y h1 => ?_)
  cases hb : fitsT p y long nodes
  · rfl
  · obtain ⟨_, g1, g2⟩ := (fits_iff hc ha).1 hb
    exact absurd g2 (h.none y h1 (by omega))
theorem turn_last {p : List Stp} (hc : chkB p = true) {f0 long nodes t : Int} {i : Nat} {s : Stp} (ha : askB long nodes = true) (h : Turn p (max f0 0) long nodes t i) (hs : p[i]? = some s) (hst : s.1 < t + long) (hfree : s.2 < nodes) (hl : p[i + 1]? = none) : earl p f0 long nodes = none := by
  obtain ⟨_, _, hl1, _⟩ := ask_iff.1 ha
  have h0 : 0 ≤ t := by have := h.le; omega
  refine isE_uniq (earl_is p f0 long nodes) (o' := none) (fun y h1 => ?_)
  cases hb : fitsT p y long nodes
  · rfl
  · obtain ⟨_, g1, g2⟩ := (fits_iff hc ha).1 hb
    rcases Int.lt_or_le y t with h3 | h3
    · exact absurd g2 (h.none y h1 h3)
    · exact absurd g2 (turn_way (chk_of hc).nf.up h h0 hl1 hs hst hfree y h3 (fun r hr => by rw [hl] at hr; cases hr))
theorem earl_no {p : List Stp} {f0 long nodes : Int} (h : chkB p = false ∨ askB long nodes = false) : earl p f0 long nodes = none := by
  refine isE_uniq (earl_is p f0 long nodes) (o' := none) (fun y _ => ?_)
  rcases h with h | h <;> simp [fitsT, h]
end Go.Proofs.Ytmjjbodglbdadaa.Prof
