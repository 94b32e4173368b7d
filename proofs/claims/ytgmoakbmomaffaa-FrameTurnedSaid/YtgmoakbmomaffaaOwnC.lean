/-
  A slice that the call itself has made, told by its cells alone (so that a run-time mark behind its last cell does no harm), and the append onto it, of any source. Nothing of the program.
-/
import Derived.Test.YtgmoakbmomaffaaAppend
import Derived.Deep.AppendSrc
import Derived.Deep.Upon
namespace Go.Proofs.Ytgmoakbmomaffaa.Mem
open Go.RowKit

structure OwnC (w : World) (base size : Nat) (A : Option Addr) (n c : Nat) (xs : List Value) : Prop where
  len : xs.length = n * size
  le : n ≤ c
  max : c ≤ maxLen
  room : 0 < c → ∃ g, A = some ⟨g, 0, none⟩ ∧ base ≤ g ∧ g < w.heap.size ∧ (∀ j, j < n * size → w.cell? ⟨g, j, none⟩ = xs[j]?) ∧ ∀ j, j < c * size → (w.cell? ⟨g, j, none⟩).isSome = true ∧ w.frozen? ⟨g, j, none⟩ = false
  bare : A = none → c = 0

theorem OwnC.nil (w : World) (base size : Nat) : OwnC w base size none 0 0 [] := ⟨by simp, by omega, by simp [maxLen], fun h => absurd h (by omega), fun _ => rfl⟩

/-- what the call owns stays owned where only blocks other than its own have changed -/
theorem OwnC.keep {w w' : World} {base size : Nat} {A : Option Addr} {n c : Nat} {xs : List Value} (h : OwnC w base size A n c xs) (hsz : w.heap.size ≤ w'.heap.size) (hk : ∀ g, A = some ⟨g, 0, none⟩ → g < w.heap.size → w'.heap[g]? = w.heap[g]?) : OwnC w' base size A n c xs :=
  ⟨h.len, h.le, h.max, fun hc => by
    obtain ⟨g, hA, hb, hlt, h1, h2⟩ := h.room hc
    have hh := hk g hA hlt
    refine ⟨g, hA, hb, by omega, fun j hj => (World.cell?_of_block (a := ⟨g, j, none⟩) hh).trans (h1 j hj), fun j hj => ?_⟩
    rw [World.cell?_of_block (a := ⟨g, j, none⟩) hh, World.frozen?_of_block (a := ⟨g, j, none⟩) hh]
    exact h2 j hj, h.bare⟩
theorem OwnC.below {w w' : World} {base size : Nat} {A : Option Addr} {n c : Nat} {xs : List Value} (h : OwnC w base size A n c xs) (hb : Below w.heap.size w w') : OwnC w' base size A n c xs := h.keep hb.size fun g _ hg => hb.block g hg
theorem OwnC.alloc {w : World} {base size : Nat} {A : Option Addr} {n c : Nat} {xs : List Value} (h : OwnC w base size A n c xs) (o : Obj) : OwnC (w.alloc o) base size A n c xs := h.below ((Below.refl _ _).alloc (Nat.le_refl _) o)
theorem OwnC.far {w : World} {base size : Nat} {A : Option Addr} {n c : Nat} {xs : List Value} (h : OwnC w base size A n c xs) {p : Addr} (hp : p.block < base) (u : Value) : OwnC (w.setCell p u) base size A n c xs := by
  refine ⟨h.len, h.le, h.max, fun hc => ?_, h.bare⟩
  obtain ⟨g, hA, hb, hlt, h1, h2⟩ := h.room hc
  have hh : (w.setCell p u).heap[g]? = w.heap[g]? := Below.heap_setCell w p u g (by omega)
  refine ⟨g, hA, hb, by simpa using hlt, fun j hj => (World.cell?_of_block (a := ⟨g, j, none⟩) hh).trans (h1 j hj), fun j hj => ?_⟩
  rw [World.cell?_of_block (a := ⟨g, j, none⟩) hh, World.frozen?_of_block (a := ⟨g, j, none⟩) hh]
  exact h2 j hj
theorem OwnC.drew {w : World} {base size : Nat} {A : Option Addr} {n c : Nat} {xs : List Value} (h : OwnC w base size A n c xs) : OwnC w.drew base size A n c xs := h.keep (Nat.le_refl _) fun _ _ _ => rfl
theorem OwnC.drewN {w : World} {base size : Nat} {A : Option Addr} {n c : Nat} {xs : List Value} (h : OwnC w base size A n c xs) (k : Nat) : OwnC (w.drewN k) base size A n c xs := h.keep (Nat.le_refl _) fun _ _ _ => rfl
theorem OwnC.mono {w : World} {base base' size : Nat} {A : Option Addr} {n c : Nat} {xs : List Value} (h : OwnC w base size A n c xs) (hb : base' ≤ base) : OwnC w base' size A n c xs :=
  ⟨h.len, h.le, h.max, fun hc => by obtain ⟨g, h1, h2, r⟩ := h.room hc; exact ⟨g, h1, by omega, r⟩, h.bare⟩
theorem OwnC.rd {w : World} {base size : Nat} {A : Option Addr} {n c : Nat} {xs : List Value} (h : OwnC w base size A n c xs) : Rd w A n size xs :=
  ⟨h.len, fun hn => by
    obtain ⟨g, hA, _, _, h1, _⟩ := h.room (by have := h.le; omega)
    refine ⟨_, hA, fun j u hu => ?_⟩
    rw [plain_add', Nat.zero_add, h1 j (by rw [← h.len]; exact (List.getElem?_eq_some_iff.1 hu).1), hu]⟩
theorem OwnC.of_own {w : World} {base : Nat} {e : TypeId} {size : Nat} {A : Option Addr} {n c : Nat} {xs : List Value} (h : w.ownsRow base e size (.slice A n c) n xs) : OwnC w base size A n c xs := by
  rcases h.2 with ⟨hv, h0⟩ | ⟨g, cap, cur, hv, hb, hg, hn, hm, hs, ht⟩
  · injection hv with h1 h2 h3
    exact ⟨h.1, by omega, by rw [h3]; simp [maxLen], fun hc => by omega, fun _ => h3⟩
  · injection hv with h1 h2 h3
    subst h1 h3
    refine ⟨h.1, hn, hm, fun _ => ⟨g, rfl, hb, lt_of_block hg, fun j hj => h.cellAt j hj, fun j hj => ⟨?_, h.frozenAt j⟩⟩, fun hh => by cases hh⟩
    rw [cell_of_row w g j cur e (0, 0) hg, Array.getElem?_eq_getElem (by omega)]
    rfl
theorem OwnC.of_new (w : World) (base size : Nat) (e : TypeId) (cs : Array Value) (n : Nat) (hb : base ≤ w.heap.size) (hm : n ≤ maxLen) (hs : cs.size = n * size) : OwnC (w.alloc (.cells cs e)) base size (some ⟨w.heap.size, 0, none⟩) n n cs.toList :=
  OwnC.of_own (e := e) (World.ownsRow_lit w cs n hb hm hs)

theorem below_setCells {B : Nat} {a w : World} (h : Below B a w) {g : Nat} (hg : B ≤ g) : ∀ (vs : List Value) (o : Nat), Below B a (w.setCells g o vs) := by
  intro vs
  induction vs generalizing w with
  | nil => intro o; exact h
  | cons v r ih => intro o; exact ih (h.setCell (p := ⟨g, o, none⟩) hg v) (o + 1)
theorem heap_setCells (w : World) (g : Nat) : ∀ (vs : List Value) (o : Nat) (k : Nat), k ≠ g → (w.setCells g o vs).heap[k]? = w.heap[k]? := by
  intro vs
  induction vs generalizing w with
  | nil => intro o k _; rfl
  | cons v r ih => intro o k hk; exact (ih (w.setCell ⟨g, o, none⟩ v) (o + 1) k hk).trans (Below.heap_setCell w _ v k hk)
theorem size_setCells (w : World) (g : Nat) : ∀ (vs : List Value) (o : Nat), (w.setCells g o vs).heap.size = w.heap.size := by
  intro vs
  induction vs generalizing w with
  | nil => intro o; rfl
  | cons v r ih => intro o; exact (ih (w.setCell ⟨g, o, none⟩ v) (o + 1)).trans (World.size_setCell ..)

theorem firstCells_of {P : Program} {W : World} {size : Nat} {A : Option Addr} {n c : Nat} {xs : List Value} (h : Rd W A n size xs) : (Builtin.firstCells size n (.slice A n c)).run P W = .ok xs.toArray W := by
  rcases A with _ | ad
  · have hn : n = 0 := by
      rcases Nat.eq_zero_or_pos n with h0 | h0
      · exact h0
      · obtain ⟨ad, h', _⟩ := h.2 h0; cases h'
    subst hn
    have : xs = [] := List.eq_nil_of_length_eq_zero (by simpa using h.1)
    subst this
    exact run_firstCells_none W size 0 0 c
  · refine run_firstCells_some W size n ad n c xs h.1 (fun j u hu => ?_)
    rcases Nat.eq_zero_or_pos n with h0 | h0
    · subst h0
      have : xs = [] := List.eq_nil_of_length_eq_zero (by simpa using h.1)
      subst this
      simp at hu
    · obtain ⟨ad', h', hc⟩ := h.2 h0
      injection h' with h'
      subst h'
      exact hc j u hu

theorem app_c {P : Program} (W : World) (base : Nat) (t tx ty e : TypeId) (i : TypeInfo) (z : Value) (size bytes : Nat) (ht : P.underlying t = some (.slice e)) (hi : P.info? e = some i) (hz : i.zero = some z)
    (hsize : i.size = size) (hby : i.bytes = bytes) (hzs : z.cells.size = size) (hsz : 0 < size)
    (A : Option Addr) (n c : Nat) (xs : List Value) (hown : OwnC W base size A n c xs) (x : Value) (m : Nat) (news : List Value) (hs : Src P size tx x m news W)
    (h63 : n + m ≤ maxLen) (hbytes : (n + m) * bytes ≤ 140737488355328) (hbase : base ≤ W.heap.size) :
    ∃ A' c' W', (Builtin.append_ #[t, tx] ty #[.slice A n c, x]).run P W = .ok (.slice A' (n + m) c') W' ∧ OwnC W' base size A' (n + m) c' (xs ++ news) ∧ Below base W W' ∧
      (∀ k, k < W.heap.size → A ≠ some ⟨k, 0, none⟩ → W'.heap[k]? = W.heap[k]?) ∧ (A' = A ∨ A' = some ⟨W.heap.size, 0, none⟩) := by
  subst hsize
  subst hby
  have hlen : (xs ++ news).length = (n + m) * i.size := by rw [List.length_append, hown.len, hs.newsLen, Nat.add_mul]
  by_cases hroom : n + m ≤ c
  · by_cases hc0 : c = 0
    · have hn : n = 0 := by omega
      have hm : m = 0 := by omega
      subst hc0 hn hm
      have hnews : news = [] := List.eq_nil_of_length_eq_zero (by simpa using hs.newsLen)
      subst hnews
      exact ⟨A, 0, W, run_append_nothing W t tx ty e i ht hi A 0 0 (Nat.le_refl _) x hs, by simpa using hown, Below.refl _ _, fun _ _ _ => rfl, .inl rfl⟩
    · obtain ⟨g, rfl, hb, hlt, h1, h2⟩ := hown.room (by omega)
      have hin : ∀ j, j < news.length → n * i.size + j < c * i.size := fun j hj => by
        rw [hs.newsLen] at hj
        have := Nat.mul_le_mul_right i.size hroom
        rw [Nat.add_mul] at this
        omega
      have hrun := run_append_room_src (P := P) W t tx ty e i ht hi g 0 n c x m news hs hroom (fun j hj => by rw [Nat.zero_add]; exact (h2 _ (hin j hj)).1) (fun j hj => by rw [Nat.zero_add]; exact (h2 _ (hin j hj)).2)
      rw [Nat.zero_add] at hrun
      refine ⟨_, _, _, hrun, ⟨hlen, hroom, hown.max, fun _ => ⟨g, rfl, hb, by rw [size_setCells]; exact hlt, fun j hj => ?_, fun j hj => ?_⟩, fun h => by cases h⟩, below_setCells (Below.refl _ _) hb news _, fun k _ hk => heap_setCells W g news _ k (fun e => hk (by rw [e])), .inl rfl⟩
      · by_cases hjn : j < n * i.size
        · rw [World.cell?_setCells_out g news _ W ⟨g, j, none⟩ (fun _ _ => .inl hjn), h1 j hjn, List.getElem?_append_left (by rw [hown.len]; exact hjn)]
        · have hjm : j - n * i.size < news.length := by rw [hs.newsLen]; rw [Nat.add_mul] at hj; omega
          have := World.cell?_setCells_in g news (n * i.size) W (fun j hj => (h2 _ (hin j hj)).1) (j - n * i.size) hjm
          rw [show n * i.size + (j - n * i.size) = j by omega] at this
          rw [this, List.getElem?_append_right (by rw [hown.len]; omega), hown.len, List.getElem?_eq_getElem hjm]
      · rw [World.frozen?_setCells]
        refine ⟨?_, (h2 j hj).2⟩
        by_cases hjo : j < n * i.size ∨ n * i.size + news.length ≤ j
        · rw [World.cell?_setCells_out g news _ W ⟨g, j, none⟩ (fun _ _ => hjo)]; exact (h2 j hj).1
        · have hjm : j - n * i.size < news.length := by omega
          have := World.cell?_setCells_in g news (n * i.size) W (fun j hj => (h2 _ (hin j hj)).1) (j - n * i.size) hjm
          rw [show n * i.size + (j - n * i.size) = j by omega] at this
          rw [this]; rfl
  · have hgc := grownCap_ge W (n + m) c e
    have hgm := grownCap_le_maxLen W (n + m) c e h63
    have hrun := run_append_grow_src (P := P) W t tx ty e i z ht hi hz A n c xs (firstCells_of (OwnC.rd hown.drew)) x m news hs (by omega) (by simp only [maxLen] at h63; omega) (growslice_fits (by omega) hbytes)
    have hcs : ((xs ++ news).toArray ++ Builtin.zeroCells z.cells (grownCap W (n + m) c e - (n + m))).size = grownCap W (n + m) c e * i.size := by
      simp only [Array.size_append, List.size_toArray, size_zeroCells, hlen, hzs, ← Nat.add_mul]
      congr 1
      omega
    have hbk : Blk (W.drew.alloc (.cells ((xs ++ news).toArray ++ Builtin.zeroCells z.cells (grownCap W (n + m) c e - (n + m))) e)) W.heap.size e ((xs ++ news).toArray ++ Builtin.zeroCells z.cells (grownCap W (n + m) c e - (n + m))) := Blk.new W.drew _ _
    refine ⟨_, _, _, hrun, ⟨hlen, hgc, hgm, fun _ => ⟨_, rfl, hbase, by simp, fun j hj => ?_, fun j hj => ?_⟩, fun h => by cases h⟩, (Below.refl _ _).drew.alloc hbase _, fun k hk _ => Below.heap_alloc W.drew _ k hk, .inr rfl⟩
    · rw [hbk.cell j, Array.getElem?_append_left (by simpa [hlen] using hj)]
      simp
    · refine ⟨?_, hbk.frozen j⟩
      rw [hbk.cell j, Array.getElem?_eq_getElem (by omega)]
      rfl

/-- an append whose run is known (any source), met in a walk -/
theorem wpList_app2 {P : Program} {ops : Array Oper} {rest : List Oper} {o : Oper} {a : Act} {Q : Exit → Act → World → Prop} {W W' : World} {t u : TypeId} {v v2 r : Value} (hgd : o.guard = none) (s x : Operand)
    (ho : o.op = .call { callee := .builtin .append, args := #[s, x], argTypes := #[t, u] }) (hs : a.eval s = v) (hx : a.eval x = v2) (hrun : (Builtin.append_ #[t, u] o.type #[v, v2]).run P W = .ok r W')
    (h : wpList P ops Q rest (a.put o.dst r) W') : wpList P ops Q (o :: rest) a W := by
  refine wpList_plain hgd fun K hK => ?_
  unfold Oper.wp execOp
  simp only [ho, resolve, invoke, builtin, Sem.run_bind, Sem.run_pure, Result.andThen_ok, List.map_toArray, List.map_cons, List.map_nil, hs, hx, hrun]
  exact hK _ _ h

theorem ownc_back {P : Program} {W : World} {base : Nat} {e : TypeId} {A : Option Addr} {n c : Nat} {l : List UInt8} (h : OwnC W base 1 A n c (bv l)) (src dst : TypeId)
    (hs : P.underlying src = some (.slice e)) (he : P.underlying e = some (.int .u8)) (hd : P.underlying dst = some .string) : (convert src dst (.slice A n c)).run P W = .ok (.string ⟨l.toArray⟩) W := by
  have hl : l.length = n := by have := h.len; rw [bv_length] at this; omega
  rcases A with _ | ad
  · have hc := h.bare rfl
    have hn : n = 0 := by have := h.le; omega
    subst hn
    have : l = [] := List.eq_nil_of_length_eq_zero hl
    subst this
    rw [run_convert_bytes_nil W src e hs he 0 c dst hd]
    rfl
  · subst hl
    refine run_convert_bytes_back W src dst e _ c l hs he hd (fun j hj => ?_)
    obtain ⟨ad', hA, hc⟩ := h.rd.2 (by omega)
    injection hA with hA
    subst hA
    exact hc j _ (by simp [bv, List.getElem?_eq_getElem hj])

/-- '[]byte(s)' in one world, as a slice of the call's own -/
theorem to_bytes_own {P : Program} (src dst e : TypeId) (s : ByteArray) (hs : P.underlying src = some .string) (hd : P.underlying dst = some (.slice e)) (he : P.underlying e = some (.int .u8)) (W : World) (hm : s.size ≤ maxLen) :
    ∃ (A : Option Addr) (c : Nat) (W' : World), (convert src dst (.string s)).run P W = .ok (.slice A s.size c) W' ∧ Below W.heap.size W W' ∧ OwnC W' W.heap.size 1 A s.size c (bv s.data.toList) := by
  refine ⟨_, _, _, run_bytes_of_string W src dst e s hs hd he, (Below.refl _ _).drew.alloc (Nat.le_refl _) _, ?_⟩
  have hge := grownCap_ge W s.size 0 e
  have hgm := grownCap_le_maxLen W s.size 0 e hm
  generalize grownCap W s.size 0 e = c at *
  have hsz : (bytesRow s c).size = c := by
    simp only [bytesRow, Array.size_append, Array.size_map, Array.size_replicate]
    have : s.data.size = s.size := rfl
    omega
  have hblk : (W.drew.alloc (.cells (bytesRow s c) e ((bytesRow s c).size, (bytesRow s c).size + 1))).heap[W.heap.size]? = some (.cells (bytesRow s c) e ((bytesRow s c).size, (bytesRow s c).size + 1)) := heap_alloc_new W.drew _
  refine ⟨by rw [bv_length, Nat.mul_one]; simp, hge, hgm, fun _ => ⟨_, rfl, Nat.le_refl _, by simp, fun j hj => ?_, fun j hj => ⟨?_, ?_⟩⟩, fun h => by cases h⟩
  · rw [cell_of_row _ _ j _ _ _ hblk]
    rw [Nat.mul_one] at hj
    rw [bytesRow, Array.getElem?_append_left (by simpa using hj), Array.getElem?_map, bv, List.getElem?_map, Array.getElem?_toList]
  · rw [cell_of_row _ _ j _ _ _ hblk, Array.getElem?_eq_getElem (by omega)]; rfl
  · unfold World.frozen?
    rw [hblk]
    simp
    omega
end Go.Proofs.Ytgmoakbmomaffaa.Mem
