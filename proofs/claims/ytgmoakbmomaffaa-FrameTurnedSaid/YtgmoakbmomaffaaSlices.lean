/-
  Slices of structs that the call itself has made: their elements, appends onto them. Nothing of the program.
-/
import Derived.Test.YtgmoakbmomaffaaOwnC
import Derived.Test.YtgmoakbmomaffaaCells
namespace Go.Proofs.Ytgmoakbmomaffaa.Mem
open Go.RowKit

/-- how a datum lies in cells -/
structure Lay {α : Type} (f : α → List Value) (k : Nat) : Prop where
  len : ∀ x, (f x).length = k
  one : ∀ x u, u ∈ f x → u.oneCell' = true
  pos : 0 < k
def SOwn {α : Type} (f : α → List Value) (k : Nat) (w : World) (base : Nat) (A : Option Addr) (n c : Nat) (l : List α) : Prop := l.length = n ∧ OwnC w base k A n c (l.flatMap f)
section
variable {α : Type} {f : α → List Value} {k : Nat} (hL : Lay f k)
include hL
theorem flat_len (l : List α) : (l.flatMap f).length = l.length * k := by
  induction l with
  | nil => simp
  | cons x r ih => simp only [List.flatMap_cons, List.length_append, ih, hL.len, List.length_cons, Nat.add_mul, Nat.one_mul]; omega
theorem flat_at : ∀ (l : List α) (i : Nat) (x : α) (j : Nat) (v : Value), l[i]? = some x → (f x)[j]? = some v → (l.flatMap f)[i * k + j]? = some v := by
  intro l
  induction l with
  | nil => intro i x j v h; simp at h
  | cons y r ih =>
    intro i x j v hi hj
    have hjk : j < k := by rw [← hL.len x]; exact (List.getElem?_eq_some_iff.1 hj).1
    rw [List.flatMap_cons]
    cases i with
    | zero =>
      simp at hi
      subst hi
      rw [Nat.zero_mul, Nat.zero_add, List.getElem?_append_left (by rw [hL.len]; exact hjk)]
      exact hj
    | succ i =>
      rw [List.getElem?_append_right (by rw [hL.len, Nat.add_mul]; omega), hL.len]
      have : (i + 1) * k + j - k = i * k + j := by rw [Nat.add_mul]; omega
      rw [this]
      exact ih i x j v (by simpa using hi) hj
theorem flat_one (l : List α) : ∀ u ∈ l.flatMap f, u.oneCell' = true := by
  intro u hu
  obtain ⟨x, _, hx⟩ := List.mem_flatMap.1 hu
  exact hL.one x u hx
theorem SOwn.lst {w : World} {base : Nat} {A : Option Addr} {n c : Nat} {l : List α} (h : SOwn f k w base A n c l) : Lst f k w A n l := by
  refine ⟨by simpa using h.1, fun r hr => ?_, fun hn => ?_⟩
  · obtain ⟨x, _, rfl⟩ := List.mem_map.1 hr
    exact hL.len x
  · obtain ⟨g, hA, _, hlt, hc, _⟩ := h.2.room (by have := h.2.le; omega)
    refine ⟨g, 0, hA, hlt, fun i r hr j v hv => ?_⟩
    rw [List.getElem?_map] at hr
    cases hx : l[i]? with
    | none => rw [hx] at hr; cases hr
    | some x =>
      rw [hx] at hr
      injection hr with hr
      subst hr
      have hf := flat_at hL l i x j v hx hv
      have hlt2 := (List.getElem?_eq_some_iff.1 hf).1
      rw [flat_len hL, h.1] at hlt2
      rw [Nat.zero_add, hc _ hlt2, hf]
theorem Lst.flat {w : World} {A : Option Addr} {n : Nat} {l : List α} (h : Lst f k w A n l) (hn : 0 < n) : ∃ b off, A = some ⟨b, off, none⟩ ∧ b < w.heap.size ∧ ∀ j u, (l.flatMap f)[j]? = some u → w.cell? ⟨b, off + j, none⟩ = some u := by
  obtain ⟨b, off, hA, hb, hc⟩ := Cells.at_ h hn
  refine ⟨b, off, hA, hb, fun j u hu => ?_⟩
  have hk := hL.pos
  have hjl := (List.getElem?_eq_some_iff.1 hu).1
  rw [flat_len hL] at hjl
  have hil : j / k < l.length := (Nat.div_lt_iff_lt_mul hk).2 hjl
  have hx := List.getElem?_eq_getElem hil
  have hm : j % k < (f l[j / k]).length := by rw [hL.len]; exact Nat.mod_lt _ hk
  have hv := List.getElem?_eq_getElem hm
  have h2 := flat_at hL l _ _ _ _ hx hv
  have e : j / k * k + j % k = j := by rw [Nat.mul_comm]; exact Nat.div_add_mod j k
  rw [e, hu] at h2
  have h3 := hc (j / k) (f l[j / k]) (by rw [List.getElem?_map, hx]; rfl) (j % k) _ hv
  rw [Nat.add_assoc, e] at h3
  rw [h3, h2]
theorem Lst.src {P : Program} {w : World} {A : Option Addr} {n : Nat} {l : List α} (h : Lst f k w A n l) (c : Nat) {tx e' : TypeId} (hk : P.underlying tx = some (.slice e')) : Src P k tx (.slice A n c) n (l.flatMap f) w := by
  have hl := h.len
  rcases Nat.eq_zero_or_pos n with h0 | h0
  · subst h0
    have : l = [] := List.eq_nil_of_length_eq_zero hl
    subst this
    cases A with
    | none => exact Src.ofNil w hk c
    | some a => exact Src.ofSlice w hk a 0 c [] (by simp) (by simp) (by simp)
  · obtain ⟨b, off, rfl, _, hc⟩ := h.flat hL h0
    exact Src.ofSlice w hk _ n c _ (by rw [flat_len hL, hl]) (fun j u hu => by rw [plain_add']; exact hc j u hu) (flat_one hL l)
theorem Lst.new (w : World) (x : α) (cs : Array Value) (t : TypeId) (hcs : cs.toList = f x) : Lst f k (w.alloc (.cells cs t)) (some ⟨w.heap.size, 0, none⟩) 1 [x] := by
  refine ⟨rfl, fun r hr => ?_, fun _ => ⟨_, _, rfl, by simp, fun i r hr j v hv => ?_⟩⟩
  · simp at hr; subst hr; exact hL.len x
  · cases i with
    | zero =>
      simp at hr
      subst hr
      rw [(Blk.new w t cs).cell]
      rw [← hcs] at hv
      simpa using hv
    | succ i => simp at hr
theorem app_s {P : Program} (W : World) (base : Nat) (t ty e : TypeId) (z : Value) (bytes : Nat) (ht : P.underlying t = some (.slice e)) (hinf : (P.info? e).map (fun i => (i.zero, i.size, i.bytes)) = some (some z, k, bytes)) (hzs : z.cells.size = k)
    (A : Option Addr) (n c : Nat) (l : List α) (hown : SOwn f k W base A n c l) (B : Option Addr) (m d : Nat) (l2 : List α) (hsrc : Lst f k W B m l2) (h63 : n + m ≤ maxLen) (hbytes : (n + m) * bytes ≤ 140737488355328) (hbase : base ≤ W.heap.size) :
    ∃ A' c' W', (Builtin.append_ #[t, t] ty #[.slice A n c, .slice B m d]).run P W = .ok (.slice A' (n + m) c') W' ∧ SOwn f k W' base A' (n + m) c' (l ++ l2) ∧ Below base W W' ∧
      (∀ b, b < W.heap.size → A ≠ some ⟨b, 0, none⟩ → W'.heap[b]? = W.heap[b]?) ∧ (A' = A ∨ A' = some ⟨W.heap.size, 0, none⟩) := by
  obtain ⟨i0, hi, hz0, hz1, hz2⟩ := info_parts hinf
  obtain ⟨A', c', W', hrun, hown', hb, hfr, hA⟩ := app_c (P := P) W base t t ty e i0 z k bytes ht hi hz0 hz1 hz2 hzs hL.pos A n c _ hown.2 (.slice B m d) m _ (Lst.src hL hsrc d ht) h63 hbytes hbase
  exact ⟨A', c', W', hrun, ⟨by rw [List.length_append, hown.1, hsrc.len], by rw [List.flatMap_append]; exact hown'⟩, hb, hfr, hA⟩
end
section
variable {α : Type} {f : α → List Value} {k : Nat} {w w' : World} {base : Nat} {A : Option Addr} {n c : Nat} {l : List α}
theorem SOwn.nil (f : α → List Value) (k : Nat) (w : World) (base : Nat) : SOwn f k w base none 0 0 [] := ⟨rfl, OwnC.nil w base k⟩
theorem SOwn.none (f : α → List Value) (k : Nat) (w : World) (base : Nat) (a : Addr) : SOwn f k w base (some a) 0 0 [] := ⟨rfl, by simp, by omega, by simp [maxLen], fun h => absurd h (by omega), fun h => by cases h⟩
theorem SOwn.below (h : SOwn f k w base A n c l) (hb : Below w.heap.size w w') : SOwn f k w' base A n c l := ⟨h.1, h.2.below hb⟩
theorem SOwn.far (h : SOwn f k w base A n c l) {p : Addr} (hp : p.block < base) (u : Value) : SOwn f k (w.setCell p u) base A n c l := ⟨h.1, h.2.far hp u⟩
theorem SOwn.mono {base' : Nat} (h : SOwn f k w base A n c l) (hb : base' ≤ base) : SOwn f k w base' A n c l := ⟨h.1, h.2.mono hb⟩
theorem SOwn.len (h : SOwn f k w base A n c l) : l.length = n := h.1
end
end Go.Proofs.Ytgmoakbmomaffaa.Mem
