/-
  Merged: A slice that the call itself has made, told by its cells alone (so that a run-time mark behind its last cell does no harm), and the append onto it, of any source. Nothing of the program.; Arguments of a law, opened to the words of this seat's walks (slices of strings). Nothing of the program.; Arguments that are slices of structs, opened to cells: for each element the list of its cells, and each field's own reading. Nothing of the program.; Slices of structs that the call itself has made: their elements, appends onto them. Nothing of the program.; Appends onto slices of the call's own, met in walks and in regions that draw their order; slices of ints. Nothing of the program.; Slices of structs that the call itself has made: an element stored, a part cleared, a shorter slice of them. Nothing of the program.; A literal of one struct beside an empty one, as a region that draws its order lays them. Nothing of the program.; A region that draws its order, walked once in the order of the text, over a class of worlds that the caller names (the kit's theorem, at any class). Nothing of the program.; Words for contracts: what returns, what has become of the world; blocks by their cells. Nothing of the program.
-/
import Derived.Test.YtdhnegcblnpmfaaL2
import Derived.Test.YtdhnegcblnpmfaaL1
import Derived.Deep.AppendSrc
import Derived.Deep.Upon
import Derived.SliceStrings
import Derived.ProofKit
import Derived.Deep.Slices
import Derived.Deep.Fields
import Derived.ChangeSame
import Derived.Lib.SliceRun
import Derived.Deep.QuietTactic
import Derived.BigQuiet
import Derived.WalkKit
import Derived.LoopTactic
import Derived.Lib.Hide
import Derived.Deep.DeepCutAuto
import Derived.Deep.RegionHeld3
import Derived.Deep.RegionLaw
import Derived.Deep.DrawnRows
import Derived.StillTailTactics
import Derived.WalkSpells
import Derived.WalkLawsBesides
import Derived.IntWalk
import Derived.Shelf.Abstract
namespace Go.Proofs.Ytdhnegcblnpmfaa.Mem
open Go.RowKit

structure OwnC (w : World) (base size : Nat) (A : Option Addr) (n c : Nat) (xs : List Value) : Prop where
  len : xs.length = n * size
  le : n ≤ c
  max : c ≤ maxLen
  room : 0 < c → ∃ g, A = some ⟨g, 0, none⟩ ∧ base ≤ g ∧ g < w.heap.size ∧ (∀ j, j < n * size → w.cell? ⟨g, j, none⟩ = xs[j]?) ∧ ∀ j, j < c * size → (w.cell? ⟨g, j, none⟩).isSome = true ∧ w.frozen? ⟨g, j, none⟩ = false
  bare : A = none → c = 0

theorem OwnC.nil (w : World) (base size : Nat) : OwnC w base size none 0 0 [] := ⟨by simp, by omega, by simp [maxLen], fun h => absurd h (by omega), fun _ => rfl⟩

/-- what the call owns stays owned where only blocks other than its own have changed -/
theorem OwnC.keep {w w' : World} {base size : Nat} {A : Option Addr} {n c : Nat} {xs : List Value} (h : OwnC w base size A n c xs) (hsz : w.heap.size ≤ w'.heap.size) (hk : ∀ g, A = some ⟨g, 0, none⟩ → g < w.heap.size → w'.heap[g]? = w.heap[g]?) : OwnC w' base size A n c xs :=
  ⟨h.len, h.le, h.max, fun hc => by
    obtain ⟨g, hA, hb, hlt, h1, h2⟩ := h.room hc
    have hh := hk g hA hlt
    refine ⟨g, hA, hb, by omega, fun j hj => (World.cell?_of_block (a := ⟨g, j, none⟩) hh).trans (h1 j hj), fun j hj => ?_⟩
    rw [World.cell?_of_block (a := ⟨g, j, none⟩) hh, World.frozen?_of_block (a := ⟨g, j, none⟩) hh]
    exact h2 j hj, h.bare⟩
theorem OwnC.below {w w' : World} {base size : Nat} {A : Option Addr} {n c : Nat} {xs : List Value} (h : OwnC w base size A n c xs) (hb : Below w.heap.size w w') : OwnC w' base size A n c xs := h.keep hb.size fun g _ hg => hb.block g hg
theorem OwnC.alloc {w : World} {base size : Nat} {A : Option Addr} {n c : Nat} {xs : List Value} (h : OwnC w base size A n c xs) (o : Obj) : OwnC (w.alloc o) base size A n c xs := h.below ((Below.refl _ _).alloc (Nat.le_refl _) o)
theorem OwnC.far {w : World} {base size : Nat} {A : Option Addr} {n c : Nat} {xs : List Value} (h : OwnC w base size A n c xs) {p : Addr} (hp : p.block < base) (u : Value) : OwnC (w.setCell p u) base size A n c xs := by
  refine ⟨h.len, h.le, h.max, fun hc => ?_, h.bare⟩
  obtain ⟨g, hA, hb, hlt, h1, h2⟩ := h.room hc
  have hh : (w.setCell p u).heap[g]? = w.heap[g]? := Below.heap_setCell w p u g (by omega)
  refine ⟨g, hA, hb, by simpa using hlt, fun j hj => (World.cell?_of_block (a := ⟨g, j, none⟩) hh).trans (h1 j hj), fun j hj => ?_⟩
  rw [World.cell?_of_block (a := ⟨g, j, none⟩) hh, World.frozen?_of_block (a := ⟨g, j, none⟩) hh]
  exact h2 j hj
theorem OwnC.drew {w : World} {base size : Nat} {A : Option Addr} {n c : Nat} {xs : List Value} (h : OwnC w base size A n c xs) : OwnC w.drew base size A n c xs := h.keep (Nat.le_refl _) fun _ _ _ => rfl
theorem OwnC.drewN {w : World} {base size : Nat} {A : Option Addr} {n c : Nat} {xs : List Value} (h : OwnC w base size A n c xs) (k : Nat) : OwnC (w.drewN k) base size A n c xs := h.keep (Nat.le_refl _) fun _ _ _ => rfl
theorem OwnC.mono {w : World} {base base' size : Nat} {A : Option Addr} {n c : Nat} {xs : List Value} (h : OwnC w base size A n c xs) (hb : base' ≤ base) : OwnC w base' size A n c xs :=
  ⟨h.len, h.le, h.max, fun hc => by obtain ⟨g, h1, h2, r⟩ := h.room hc; exact ⟨g, h1, by omega, r⟩, h.bare⟩
theorem OwnC.rd {w : World} {base size : Nat} {A : Option Addr} {n c : Nat} {xs : List Value} (h : OwnC w base size A n c xs) : Rd w A n size xs :=
  ⟨h.len, fun hn => by
    obtain ⟨g, hA, _, _, h1, _⟩ := h.room (by have := h.le; omega)
    refine ⟨_, hA, fun j u hu => ?_⟩
    rw [plain_add', Nat.zero_add, h1 j (by rw [← h.len]; exact (List.getElem?_eq_some_iff.1 hu).1), hu]⟩
theorem OwnC.of_own {w : World} {base : Nat} {e : TypeId} {size : Nat} {A : Option Addr} {n c : Nat} {xs : List Value} (h : w.ownsRow base e size (.slice A n c) n xs) : OwnC w base size A n c xs := by
  rcases h.2 with ⟨hv, h0⟩ | ⟨g, cap, cur, hv, hb, hg, hn, hm, hs, ht⟩
  · injection hv with h1 h2 h3
    exact ⟨h.1, by omega, by rw [h3]; simp [maxLen], fun hc => by omega, fun _ => h3⟩
  · injection hv with h1 h2 h3
    subst h1 h3
    refine ⟨h.1, hn, hm, fun _ => ⟨g, rfl, hb, lt_of_block hg, fun j hj => h.cellAt j hj, fun j hj => ⟨?_, h.frozenAt j⟩⟩, fun hh => by cases hh⟩
    rw [cell_of_row w g j cur e (0, 0) hg, Array.getElem?_eq_getElem (by omega)]
    rfl
theorem OwnC.of_new (w : World) (base size : Nat) (e : TypeId) (cs : Array Value) (n : Nat) (hb : base ≤ w.heap.size) (hm : n ≤ maxLen) (hs : cs.size = n * size) : OwnC (w.alloc (.cells cs e)) base size (some ⟨w.heap.size, 0, none⟩) n n cs.toList :=
  OwnC.of_own (e := e) (World.ownsRow_lit w cs n hb hm hs)

theorem below_setCells {B : Nat} {a w : World} (h : Below B a w) {g : Nat} (hg : B ≤ g) : ∀ (vs : List Value) (o : Nat), Below B a (w.setCells g o vs) := by
  intro vs
  induction vs generalizing w with
  | nil => intro o; exact h
  | cons v r ih => intro o; exact ih (h.setCell (p := ⟨g, o, none⟩) hg v) (o + 1)
theorem heap_setCells (w : World) (g : Nat) : ∀ (vs : List Value) (o : Nat) (k : Nat), k ≠ g → (w.setCells g o vs).heap[k]? = w.heap[k]? := by
  intro vs
  induction vs generalizing w with
  | nil => intro o k _; rfl
  | cons v r ih => intro o k hk; exact (ih (w.setCell ⟨g, o, none⟩ v) (o + 1) k hk).trans (Below.heap_setCell w _ v k hk)
theorem size_setCells (w : World) (g : Nat) : ∀ (vs : List Value) (o : Nat), (w.setCells g o vs).heap.size = w.heap.size := by
  intro vs
  induction vs generalizing w with
  | nil => intro o; rfl
  | cons v r ih => intro o; exact (ih (w.setCell ⟨g, o, none⟩ v) (o + 1)).trans (World.size_setCell ..)

theorem firstCells_of {P : Program} {W : World} {size : Nat} {A : Option Addr} {n c : Nat} {xs : List Value} (h : Rd W A n size xs) : (Builtin.firstCells size n (.slice A n c)).run P W = .ok xs.toArray W := by
  rcases A with _ | ad
  · have hn : n = 0 := by
      rcases Nat.eq_zero_or_pos n with h0 | h0
      · exact h0
      · obtain ⟨ad, h', _⟩ := h.2 h0; cases h'
    subst hn
    have : xs = [] := List.eq_nil_of_length_eq_zero (by simpa using h.1)
    subst this
    exact run_firstCells_none W size 0 0 c
  · refine run_firstCells_some W size n ad n c xs h.1 (fun j u hu => ?_)
    rcases Nat.eq_zero_or_pos n with h0 | h0
    · subst h0
      have : xs = [] := List.eq_nil_of_length_eq_zero (by simpa using h.1)
      subst this
      simp at hu
    · obtain ⟨ad', h', hc⟩ := h.2 h0
      injection h' with h'
      subst h'
      exact hc j u hu

theorem app_c {P : Program} (W : World) (base : Nat) (t tx ty e : TypeId) (i : TypeInfo) (z : Value) (size bytes : Nat) (ht : P.underlying t = some (.slice e)) (hi : P.info? e = some i) (hz : i.zero = some z)
    (hsize : i.size = size) (hby : i.bytes = bytes) (hzs : z.cells.size = size) (hsz : 0 < size)
    (A : Option Addr) (n c : Nat) (xs : List Value) (hown : OwnC W base size A n c xs) (x : Value) (m : Nat) (news : List Value) (hs : Src P size tx x m news W)
    (h63 : n + m ≤ maxLen) (hbytes : (n + m) * bytes ≤ 140737488355328) (hbase : base ≤ W.heap.size) :
    ∃ A' c' W', (Builtin.append_ #[t, tx] ty #[.slice A n c, x]).run P W = .ok (.slice A' (n + m) c') W' ∧ OwnC W' base size A' (n + m) c' (xs ++ news) ∧ Below base W W' ∧
      (∀ k, k < W.heap.size → A ≠ some ⟨k, 0, none⟩ → W'.heap[k]? = W.heap[k]?) ∧ (A' = A ∨ A' = some ⟨W.heap.size, 0, none⟩) := by
  subst hsize
  subst hby
  have hlen : (xs ++ news).length = (n + m) * i.size := by rw [List.length_append, hown.len, hs.newsLen, Nat.add_mul]
  by_cases hroom : n + m ≤ c
  · by_cases hc0 : c = 0
    · have hn : n = 0 := by omega
      have hm : m = 0 := by omega
      subst hc0 hn hm
      have hnews : news = [] := List.eq_nil_of_length_eq_zero (by simpa using hs.newsLen)
      subst hnews
      exact ⟨A, 0, W, run_append_nothing W t tx ty e i ht hi A 0 0 (Nat.le_refl _) x hs, by simpa using hown, Below.refl _ _, fun _ _ _ => rfl, .inl rfl⟩
    · obtain ⟨g, rfl, hb, hlt, h1, h2⟩ := hown.room (by omega)
      have hin : ∀ j, j < news.length → n * i.size + j < c * i.size := fun j hj => by
        rw [hs.newsLen] at hj
        have := Nat.mul_le_mul_right i.size hroom
        rw [Nat.add_mul] at this
        omega
      have hrun := run_append_room_src (P := P) W t tx ty e i ht hi g 0 n c x m news hs hroom (fun j hj => by rw [Nat.zero_add]; exact (h2 _ (hin j hj)).1) (fun j hj => by rw [Nat.zero_add]; exact (h2 _ (hin j hj)).2)
      rw [Nat.zero_add] at hrun
      refine ⟨_, _, _, hrun, ⟨hlen, hroom, hown.max, fun _ => ⟨g, rfl, hb, by rw [size_setCells]; exact hlt, fun j hj => ?_, fun j hj => ?_⟩, fun h => by cases h⟩, below_setCells (Below.refl _ _) hb news _, fun k _ hk => heap_setCells W g news _ k (fun e => hk (by rw [e])), .inl rfl⟩
      · by_cases hjn : j < n * i.size
        · rw [World.cell?_setCells_out g news _ W ⟨g, j, none⟩ (fun _ _ => .inl hjn), h1 j hjn, List.getElem?_append_left (by rw [hown.len]; exact hjn)]
        · have hjm : j - n * i.size < news.length := by rw [hs.newsLen]; rw [Nat.add_mul] at hj; omega
          have := World.cell?_setCells_in g news (n * i.size) W (fun j hj => (h2 _ (hin j hj)).1) (j - n * i.size) hjm
          rw [show n * i.size + (j - n * i.size) = j by omega] at this
          rw [this, List.getElem?_append_right (by rw [hown.len]; omega), hown.len, List.getElem?_eq_getElem hjm]
      · rw [World.frozen?_setCells]
        refine ⟨?_, (h2 j hj).2⟩
        by_cases hjo : j < n * i.size ∨ n * i.size + news.length ≤ j
        · rw [World.cell?_setCells_out g news _ W ⟨g, j, none⟩ (fun _ _ => hjo)]; exact (h2 j hj).1
        · have hjm : j - n * i.size < news.length := by omega
          have := World.cell?_setCells_in g news (n * i.size) W (fun j hj => (h2 _ (hin j hj)).1) (j - n * i.size) hjm
          rw [show n * i.size + (j - n * i.size) = j by omega] at this
          rw [this]; rfl
  · have hgc := grownCap_ge W (n + m) c e
    have hgm := grownCap_le_maxLen W (n + m) c e h63
    have hrun := run_append_grow_src (P := P) W t tx ty e i z ht hi hz A n c xs (firstCells_of (OwnC.rd hown.drew)) x m news hs (by omega) (by simp only [maxLen] at h63; omega) (growslice_fits (by omega) hbytes)
    have hcs : ((xs ++ news).toArray ++ Builtin.zeroCells z.cells (grownCap W (n + m) c e - (n + m))).size = grownCap W (n + m) c e * i.size := by
      simp only [Array.size_append, List.size_toArray, size_zeroCells, hlen, hzs, ← Nat.add_mul]
      congr 1
      omega
    have hbk : Blk (W.drew.alloc (.cells ((xs ++ news).toArray ++ Builtin.zeroCells z.cells (grownCap W (n + m) c e - (n + m))) e)) W.heap.size e ((xs ++ news).toArray ++ Builtin.zeroCells z.cells (grownCap W (n + m) c e - (n + m))) := Blk.new W.drew _ _
    refine ⟨_, _, _, hrun, ⟨hlen, hgc, hgm, fun _ => ⟨_, rfl, hbase, by simp, fun j hj => ?_, fun j hj => ?_⟩, fun h => by cases h⟩, (Below.refl _ _).drew.alloc hbase _, fun k hk _ => Below.heap_alloc W.drew _ k hk, .inr rfl⟩
    · rw [hbk.cell j, Array.getElem?_append_left (by simpa [hlen] using hj)]
      simp
    · refine ⟨?_, hbk.frozen j⟩
      rw [hbk.cell j, Array.getElem?_eq_getElem (by omega)]
      rfl

/-- an append whose run is known (any source), met in a walk -/
theorem wpList_app2 {P : Program} {ops : Array Oper} {rest : List Oper} {o : Oper} {a : Act} {Q : Exit → Act → World → Prop} {W W' : World} {t u : TypeId} {v v2 r : Value} (hgd : o.guard = none) (s x : Operand)
    (ho : o.op = .call { callee := .builtin .append, args := #[s, x], argTypes := #[t, u] }) (hs : a.eval s = v) (hx : a.eval x = v2) (hrun : (Builtin.append_ #[t, u] o.type #[v, v2]).run P W = .ok r W')
    (h : wpList P ops Q rest (a.put o.dst r) W') : wpList P ops Q (o :: rest) a W := by
  refine wpList_plain hgd fun K hK => ?_
  unfold Oper.wp execOp
  simp only [ho, resolve, invoke, builtin, Sem.run_bind, Sem.run_pure, Result.andThen_ok, List.map_toArray, List.map_cons, List.map_nil, hs, hx, hrun]
  exact hK _ _ h

theorem ownc_back {P : Program} {W : World} {base : Nat} {e : TypeId} {A : Option Addr} {n c : Nat} {l : List UInt8} (h : OwnC W base 1 A n c (bv l)) (src dst : TypeId)
    (hs : P.underlying src = some (.slice e)) (he : P.underlying e = some (.int .u8)) (hd : P.underlying dst = some .string) : (convert src dst (.slice A n c)).run P W = .ok (.string ⟨l.toArray⟩) W := by
  have hl : l.length = n := by have := h.len; rw [bv_length] at this; omega
  rcases A with _ | ad
  · have hc := h.bare rfl
    have hn : n = 0 := by have := h.le; omega
    subst hn
    have : l = [] := List.eq_nil_of_length_eq_zero hl
    subst this
    rw [run_convert_bytes_nil W src e hs he 0 c dst hd]
    rfl
  · subst hl
    refine run_convert_bytes_back W src dst e _ c l hs he hd (fun j hj => ?_)
    obtain ⟨ad', hA, hc⟩ := h.rd.2 (by omega)
    injection hA with hA
    subst hA
    exact hc j _ (by simp [bv, List.getElem?_eq_getElem hj])

/-- '[]byte(s)' in one world, as a slice of the call's own -/
theorem to_bytes_own {P : Program} (src dst e : TypeId) (s : ByteArray) (hs : P.underlying src = some .string) (hd : P.underlying dst = some (.slice e)) (he : P.underlying e = some (.int .u8)) (W : World) (hm : s.size ≤ maxLen) :
    ∃ (A : Option Addr) (c : Nat) (W' : World), (convert src dst (.string s)).run P W = .ok (.slice A s.size c) W' ∧ Below W.heap.size W W' ∧ OwnC W' W.heap.size 1 A s.size c (bv s.data.toList) := by
  refine ⟨_, _, _, run_bytes_of_string W src dst e s hs hd he, (Below.refl _ _).drew.alloc (Nat.le_refl _) _, ?_⟩
  have hge := grownCap_ge W s.size 0 e
  have hgm := grownCap_le_maxLen W s.size 0 e hm
  generalize grownCap W s.size 0 e = c at *
  have hsz : (bytesRow s c).size = c := by
    simp only [bytesRow, Array.size_append, Array.size_map, Array.size_replicate]
    have : s.data.size = s.size := rfl
    omega
  have hblk : (W.drew.alloc (.cells (bytesRow s c) e ((bytesRow s c).size, (bytesRow s c).size + 1))).heap[W.heap.size]? = some (.cells (bytesRow s c) e ((bytesRow s c).size, (bytesRow s c).size + 1)) := heap_alloc_new W.drew _
  refine ⟨by rw [bv_length, Nat.mul_one]; simp, hge, hgm, fun _ => ⟨_, rfl, Nat.le_refl _, by simp, fun j hj => ?_, fun j hj => ⟨?_, ?_⟩⟩, fun h => by cases h⟩
  · rw [cell_of_row _ _ j _ _ _ hblk]
    rw [Nat.mul_one] at hj
    rw [bytesRow, Array.getElem?_append_left (by simpa using hj), Array.getElem?_map, bv, List.getElem?_map, Array.getElem?_toList]
  · rw [cell_of_row _ _ j _ _ _ hblk, Array.getElem?_eq_getElem (by omega)]; rfl
  · unfold World.frozen?
    rw [hblk]
    simp
    omega
end Go.Proofs.Ytdhnegcblnpmfaa.Mem

namespace Go.Proofs.Ytdhnegcblnpmfaa.Mem
open Go.ChangeShapes Go.WideShapes Go.RowKit

theorem plain_add (b off i : Nat) : (⟨b, off, none⟩ : Addr).add i = ⟨b, off + i, none⟩ := by unfold Addr.add; split <;> simp_all
theorem addr_plain {w : World} {a : Addr} {v : Value} (h : w.cell? (a.add 0) = some v) : ∃ b off, a = ⟨b, off, none⟩ := by
  have hs : (a.add 0).spot = none := World.cell?_spot h
  obtain ⟨b, off, spot⟩ := a
  have : spot = none := by simpa [Addr.add] using hs
  subst this
  exact ⟨b, off, rfl⟩
theorem cell_lt {w : World} {b off : Nat} {v : Value} (h : w.cell? ⟨b, off, none⟩ = some v) : b < w.heap.size := by
  rcases Nat.lt_or_ge b w.heap.size with h' | h'
  · exact h'
  · simp [World.cell?, Array.getElem?_eq_none h'] at h

section
variable {H : Type} {enc : TypeId × Value → H} {P : Program} {w : World} {base : Nat} {spare : Nat → Bool} {held : Bool}
theorem open_strs {t e : TypeId} {a0 : Option Addr} {len0 cap0 : Nat} {d : DataW H} {p : List MemPlace} (ht : P.underlying t = some (.slice e)) (he : P.underlying e = some .string) (hc : P.cellsOf e = 1)
    (h : DataW.Trod enc P w base spare held t (.slice a0 len0 cap0) d p) : ∃ l, Strs w a0 len0 l ∧ len0 ≤ maxLen ∧ ∀ s ∈ l, s.size ≤ maxLen := by
  obtain ⟨fuel, hf⟩ := h
  rcases open_strings ht he hc hf with ⟨hcs, _⟩ | ⟨a, len, cap, ss, hcs, _, hl, hm, hz, _, hcell, hws⟩
  · simp [Value.cells] at hcs
    obtain ⟨rfl, rfl, rfl⟩ := hcs
    exact ⟨[], Row.nil _ _, by simp [maxLen], by simp⟩
  · simp [Value.cells] at hcs
    obtain ⟨rfl, rfl, rfl⟩ := hcs
    have hle : len0 ≤ ss.length := by rw [hz]; split <;> omega
    refine ⟨ss.take len0, ⟨by simp; omega, fun hn => ?_⟩, by omega, fun s hs => hws s (List.mem_of_mem_take hs)⟩
    obtain ⟨b, off, rfl⟩ := addr_plain (hcell 0 (by omega))
    have h0 := hcell 0 (by omega)
    rw [plain_add] at h0
    refine ⟨b, off, rfl, cell_lt h0, fun i v hv => ?_⟩
    rw [List.getElem?_map] at hv
    have hi : i < len0 := by
      rcases Nat.lt_or_ge i len0 with h' | h'
      · exact h'
      · rw [List.getElem?_eq_none (by simp; omega)] at hv; cases hv
    have := hcell i (by omega)
    rw [plain_add] at this
    rw [this]
    rw [List.getElem?_take_of_lt hi, List.getElem?_eq_getElem (by omega)] at hv
    rw [← hv]
    simp [List.getD, List.getElem?_eq_getElem (show i < ss.length by omega)]
end
end Go.Proofs.Ytdhnegcblnpmfaa.Mem

namespace Go.Proofs.Ytdhnegcblnpmfaa.Mem
open Go.ChangeShapes Go.WideShapes Go.RowKit Go.Deep

theorem exists_list {α : Type} (p : Nat → α → Prop) : ∀ n, (∀ i, i < n → ∃ x, p i x) → ∃ l : List α, l.length = n ∧ ∀ i x, l[i]? = some x → p i x
  | 0, _ => ⟨[], rfl, fun i x h => by simp at h⟩
  | n + 1, h => by
    obtain ⟨l, hl, hp⟩ := exists_list p n (fun i hi => h i (by omega))
    obtain ⟨x, hx⟩ := h n (by omega)
    refine ⟨l ++ [x], by simp [hl], fun i y hy => ?_⟩
    by_cases hi : i < l.length
    · rw [List.getElem?_append_left hi] at hy
      exact hp i y hy
    · have hlt := (List.getElem?_eq_some_iff.1 hy).1
      simp at hlt
      obtain rfl : i = l.length := by omega
      rw [List.getElem?_append_right (Nat.le_refl _), Nat.sub_self] at hy
      injection hy with hy
      subst hy
      rw [hl]
      exact hx

/-- a slice of n elements of k cells each: where it lies, and what lies there -/
structure Cells (w : World) (A : Option Addr) (n k : Nat) (rows : List (List Value)) : Prop where
  len : rows.length = n
  each : ∀ r ∈ rows, r.length = k
  at_ : 0 < n → ∃ b off, A = some ⟨b, off, none⟩ ∧ b < w.heap.size ∧ ∀ i r, rows[i]? = some r → ∀ j v, r[j]? = some v → w.cell? ⟨b, off + i * k + j, none⟩ = some v

section
variable {H : Type} {enc : TypeId × Value → H} {P : Program} {w : World} {base : Nat} {spare : Nat → Bool} {held : Bool}
theorem open_rows {t e : TypeId} {fs : Array Field} {a0 : Option Addr} {len0 cap0 : Nat} {d : DataW H} {p : List MemPlace} (ht : P.underlying t = some (.slice e)) (he : P.underlying e = some (.struct fs)) (hone : oneCellFields P fs = true) (hC : P.cellsOf e = fs.size) (h0 : 0 < fs.size)
    (h : DataW.Trod enc P w base spare held t (.slice a0 len0 cap0) d p) :
    len0 ≤ maxLen ∧ ∃ rows, Cells w a0 len0 fs.size rows ∧ ∀ r ∈ rows, ∀ (j : Nat) (f : Field), fs[j]? = some f → ∃ v n y, r[j]? = some v ∧ DataW.trod enc P w base spare held n f.type [v] = some y := by
  obtain ⟨fuel, hf⟩ := h
  rcases open_slice ht hf with ⟨hcs, _⟩ | ⟨a, len, cap, m, n, D, Pl, hcs, _, hl, hm, hmm, _, hi⟩
  · simp [Value.cells] at hcs
    obtain ⟨rfl, rfl, rfl⟩ := hcs
    exact ⟨by simp [maxLen], [], ⟨rfl, by simp, fun h => absurd h (by omega)⟩, by simp⟩
  · simp [Value.cells] at hcs
    obtain ⟨rfl, rfl, rfl⟩ := hcs
    have hle : len0 ≤ m := by rw [hmm]; split <;> omega
    have key : ∀ i, i < len0 → ∃ r : List Value, r.length = fs.size ∧ (∀ j v, r[j]? = some v → w.cell? (a.add (i * fs.size + j)) = some v) ∧ ∀ (j : Nat) (f : Field), fs[j]? = some f → ∃ v n y, r[j]? = some v ∧ DataW.trod enc P w base spare held n f.type [v] = some y := by
      intro i hlt
      obtain ⟨cs', hc, ht'⟩ := hi i (by omega)
      rw [hC] at hc
      obtain ⟨_, hcl, hat⟩ := World.cells?_some hc
      obtain ⟨ys, n', _, _, _, hyl, hfl⟩ := DataW.trod_struct he ht'
      refine ⟨cs', hcl, fun j v hv => ?_, fun j f hj => ?_⟩
      · have hj : j < fs.size := by rw [← hcl]; exact (List.getElem?_eq_some_iff.1 hv).1
        rw [← add_add, hat j hj, hv]
      · obtain ⟨ho, hk⟩ := hone_of hone j f hj
        have hjl : j < fs.size := (Array.getElem?_eq_some_iff.1 hj).1
        have h1 := hfl j f hj
        rw [ho, hk, List.drop_eq_getElem_cons (by omega), List.take_succ_cons, List.take_zero, List.getElem?_eq_getElem (by omega)] at h1
        exact ⟨_, n', _, List.getElem?_eq_getElem (by omega), h1⟩
    obtain ⟨rows, hrl, hrows⟩ := exists_list _ len0 key
    refine ⟨by omega, rows, ⟨hrl, fun r hr => ?_, fun hn => ?_⟩, fun r hr => ?_⟩
    · obtain ⟨i, hi⟩ := List.mem_iff_getElem?.1 hr
      exact (hrows i r hi).1
    · obtain ⟨r, hr⟩ : ∃ r, rows[0]? = some r := ⟨_, List.getElem?_eq_getElem (by omega)⟩
      obtain ⟨g1, g2, _⟩ := hrows 0 r hr
      have h00 := g2 0 _ (List.getElem?_eq_getElem (show 0 < r.length by omega))
      rw [Nat.zero_mul, Nat.zero_add] at h00
      obtain ⟨b, off, rfl⟩ := addr_plain h00
      rw [plain_add] at h00
      refine ⟨b, off, rfl, cell_lt h00, fun i r hr j v hv => ?_⟩
      have := (hrows i r hr).2.1 j v hv
      rw [plain_add, ← Nat.add_assoc] at this
      exact this
    · obtain ⟨i, hi⟩ := List.mem_iff_getElem?.1 hr
      exact (hrows i r hi).2.2
end
theorem Cells.below {w w' : World} {A : Option Addr} {n k : Nat} {rows : List (List Value)} (h : Cells w A n k rows) (hb : Below w.heap.size w w') : Cells w' A n k rows := by
  refine ⟨h.len, h.each, fun hn => ?_⟩
  obtain ⟨b, off, hA, hlt, hc⟩ := h.at_ hn
  exact ⟨b, off, hA, Nat.lt_of_lt_of_le hlt hb.size, fun i r hr j v hv => (hb.cell (p := ⟨b, off + i * k + j, none⟩) hlt).trans (hc i r hr j v hv)⟩
theorem exists_map {α β : Type} (f : α → β) (Q : α → Prop) : ∀ rows : List β, (∀ r ∈ rows, ∃ x, r = f x ∧ Q x) → ∃ l : List α, rows = l.map f ∧ ∀ x ∈ l, Q x
  | [], _ => ⟨[], rfl, by simp⟩
  | r :: rs, h => by
    obtain ⟨x, hx, hq⟩ := h r (by simp)
    obtain ⟨l, hl, hQ⟩ := exists_map f Q rs (fun y hy => h y (by simp [hy]))
    exact ⟨x :: l, by simp [hx, hl], by simpa using ⟨hq, hQ⟩⟩
theorem take_all {α : Type} {P : α → Prop} {l : List α} {k : Nat} {y : α} (h : ∀ x ∈ l.take k, P x) (hy : l[k]? = some y) (hp : P y) : ∀ x ∈ l.take (k + 1), P x := by
  rw [take_snoc_some hy]
  intro x hx
  rcases List.mem_append.1 hx with hx | hx
  · exact h x hx
  · simp at hx; subst hx; exact hp
theorem list2 {α : Type} {r : List α} (h : r.length = 2) : ∃ a b, r = [a, b] := by match r, h with | [a, b], _ => exact ⟨a, b, rfl⟩
theorem list4 {α : Type} {r : List α} (h : r.length = 4) : ∃ a b c d, r = [a, b, c, d] := by match r, h with | [a, b, c, d], _ => exact ⟨a, b, c, d, rfl⟩
theorem list7 {α : Type} {r : List α} (h : r.length = 7) : ∃ a b c d e f g, r = [a, b, c, d, e, f, g] := by match r, h with | [a, b, c, d, e, f, g], _ => exact ⟨a, b, c, d, e, f, g, rfl⟩

/-- a slice of structs, each of them a datum's cells -/
def Lst {α : Type} (f : α → List Value) (k : Nat) (w : World) (A : Option Addr) (n : Nat) (l : List α) : Prop := Cells w A n k (l.map f)
section
variable {α : Type} {f : α → List Value} {k : Nat} {w w' : World} {A : Option Addr} {n : Nat} {l : List α}
theorem Lst.len (h : Lst f k w A n l) : l.length = n := by have := Cells.len h; simpa using this
theorem Lst.below (h : Lst f k w A n l) (hb : Below w.heap.size w w') : Lst f k w' A n l := Cells.below h hb
theorem Lst.at_ (h : Lst f k w A n l) {i : Nat} (hi : i < n) : ∃ b off x, A = some ⟨b, off, none⟩ ∧ b < w.heap.size ∧ l[i]? = some x ∧ ∀ j v, (f x)[j]? = some v → w.cell? ⟨b, off + i * k + j, none⟩ = some v := by
  obtain ⟨b, off, e, hlt, hc⟩ := Cells.at_ h (by omega)
  have hl := h.len
  refine ⟨b, off, l[i]'(by omega), e, hlt, List.getElem?_eq_getElem (by omega), fun j v hv => ?_⟩
  exact hc i _ (by rw [List.getElem?_map, List.getElem?_eq_getElem (by omega)]; rfl) j v hv
theorem Lst.nil (f : α → List Value) (k : Nat) (w : World) (A : Option Addr) : Lst f k w A 0 [] := ⟨rfl, by simp, fun h => absurd h (by omega)⟩
end
end Go.Proofs.Ytdhnegcblnpmfaa.Mem

namespace Go.Proofs.Ytdhnegcblnpmfaa.Mem
open Go.RowKit

/-- how a datum lies in cells -/
structure Lay {α : Type} (f : α → List Value) (k : Nat) : Prop where
  len : ∀ x, (f x).length = k
  one : ∀ x u, u ∈ f x → u.oneCell' = true
  pos : 0 < k
def SOwn {α : Type} (f : α → List Value) (k : Nat) (w : World) (base : Nat) (A : Option Addr) (n c : Nat) (l : List α) : Prop := l.length = n ∧ OwnC w base k A n c (l.flatMap f)
section
variable {α : Type} {f : α → List Value} {k : Nat} (hL : Lay f k)
include hL
theorem flat_len (l : List α) : (l.flatMap f).length = l.length * k := by
  induction l with
  | nil => simp
  | cons x r ih => simp only [List.flatMap_cons, List.length_append, ih, hL.len, List.length_cons, Nat.add_mul, Nat.one_mul]; omega
theorem flat_at : ∀ (l : List α) (i : Nat) (x : α) (j : Nat) (v : Value), l[i]? = some x → (f x)[j]? = some v → (l.flatMap f)[i * k + j]? = some v := by
  intro l
  induction l with
  | nil => intro i x j v h; simp at h
  | cons y r ih =>
    intro i x j v hi hj
    have hjk : j < k := by rw [← hL.len x]; exact (List.getElem?_eq_some_iff.1 hj).1
    rw [List.flatMap_cons]
    cases i with
    | zero =>
      simp at hi
      subst hi
      rw [Nat.zero_mul, Nat.zero_add, List.getElem?_append_left (by rw [hL.len]; exact hjk)]
      exact hj
    | succ i =>
      rw [List.getElem?_append_right (by rw [hL.len, Nat.add_mul]; omega), hL.len]
      have : (i + 1) * k + j - k = i * k + j := by rw [Nat.add_mul]; omega
      rw [this]
      exact ih i x j v (by simpa using hi) hj
theorem flat_one (l : List α) : ∀ u ∈ l.flatMap f, u.oneCell' = true := by
  intro u hu
  obtain ⟨x, _, hx⟩ := List.mem_flatMap.1 hu
  exact hL.one x u hx
theorem SOwn.lst {w : World} {base : Nat} {A : Option Addr} {n c : Nat} {l : List α} (h : SOwn f k w base A n c l) : Lst f k w A n l := by
  refine ⟨by simpa using h.1, fun r hr => ?_, fun hn => ?_⟩
  · obtain ⟨x, _, rfl⟩ := List.mem_map.1 hr
    exact hL.len x
  · obtain ⟨g, hA, _, hlt, hc, _⟩ := h.2.room (by have := h.2.le; omega)
    refine ⟨g, 0, hA, hlt, fun i r hr j v hv => ?_⟩
    rw [List.getElem?_map] at hr
    cases hx : l[i]? with
    | none => rw [hx] at hr; cases hr
    | some x =>
      rw [hx] at hr
      injection hr with hr
      subst hr
      have hf := flat_at hL l i x j v hx hv
      have hlt2 := (List.getElem?_eq_some_iff.1 hf).1
      rw [flat_len hL, h.1] at hlt2
      rw [Nat.zero_add, hc _ hlt2, hf]
theorem Lst.flat {w : World} {A : Option Addr} {n : Nat} {l : List α} (h : Lst f k w A n l) (hn : 0 < n) : ∃ b off, A = some ⟨b, off, none⟩ ∧ b < w.heap.size ∧ ∀ j u, (l.flatMap f)[j]? = some u → w.cell? ⟨b, off + j, none⟩ = some u := by
  obtain ⟨b, off, hA, hb, hc⟩ := Cells.at_ h hn
  refine ⟨b, off, hA, hb, fun j u hu => ?_⟩
  have hk := hL.pos
  have hjl := (List.getElem?_eq_some_iff.1 hu).1
  rw [flat_len hL] at hjl
  have hil : j / k < l.length := (Nat.div_lt_iff_lt_mul hk).2 hjl
  have hx := List.getElem?_eq_getElem hil
  have hm : j % k < (f l[j / k]).length := by rw [hL.len]; exact Nat.mod_lt _ hk
  have hv := List.getElem?_eq_getElem hm
  have h2 := flat_at hL l _ _ _ _ hx hv
  have e : j / k * k + j % k = j := by rw [Nat.mul_comm]; exact Nat.div_add_mod j k
  rw [e, hu] at h2
  have h3 := hc (j / k) (f l[j / k]) (by rw [List.getElem?_map, hx]; rfl) (j % k) _ hv
  rw [Nat.add_assoc, e] at h3
  rw [h3, h2]
theorem Lst.src {P : Program} {w : World} {A : Option Addr} {n : Nat} {l : List α} (h : Lst f k w A n l) (c : Nat) {tx e' : TypeId} (hk : P.underlying tx = some (.slice e')) : Src P k tx (.slice A n c) n (l.flatMap f) w := by
  have hl := h.len
  rcases Nat.eq_zero_or_pos n with h0 | h0
  · subst h0
    have : l = [] := List.eq_nil_of_length_eq_zero hl
    subst this
    cases A with
    | none => exact Src.ofNil w hk c
    | some a => exact Src.ofSlice w hk a 0 c [] (by simp) (by simp) (by simp)
  · obtain ⟨b, off, rfl, _, hc⟩ := h.flat hL h0
    exact Src.ofSlice w hk _ n c _ (by rw [flat_len hL, hl]) (fun j u hu => by rw [plain_add']; exact hc j u hu) (flat_one hL l)
theorem Lst.new (w : World) (x : α) (cs : Array Value) (t : TypeId) (hcs : cs.toList = f x) : Lst f k (w.alloc (.cells cs t)) (some ⟨w.heap.size, 0, none⟩) 1 [x] := by
  refine ⟨rfl, fun r hr => ?_, fun _ => ⟨_, _, rfl, by simp, fun i r hr j v hv => ?_⟩⟩
  · simp at hr; subst hr; exact hL.len x
  · cases i with
    | zero =>
      simp at hr
      subst hr
      rw [(Blk.new w t cs).cell]
      rw [← hcs] at hv
      simpa using hv
    | succ i => simp at hr
theorem app_s {P : Program} (W : World) (base : Nat) (t ty e : TypeId) (z : Value) (bytes : Nat) (ht : P.underlying t = some (.slice e)) (hinf : (P.info? e).map (fun i => (i.zero, i.size, i.bytes)) = some (some z, k, bytes)) (hzs : z.cells.size = k)
    (A : Option Addr) (n c : Nat) (l : List α) (hown : SOwn f k W base A n c l) (B : Option Addr) (m d : Nat) (l2 : List α) (hsrc : Lst f k W B m l2) (h63 : n + m ≤ maxLen) (hbytes : (n + m) * bytes ≤ 140737488355328) (hbase : base ≤ W.heap.size) :
    ∃ A' c' W', (Builtin.append_ #[t, t] ty #[.slice A n c, .slice B m d]).run P W = .ok (.slice A' (n + m) c') W' ∧ SOwn f k W' base A' (n + m) c' (l ++ l2) ∧ Below base W W' ∧
      (∀ b, b < W.heap.size → A ≠ some ⟨b, 0, none⟩ → W'.heap[b]? = W.heap[b]?) ∧ (A' = A ∨ A' = some ⟨W.heap.size, 0, none⟩) := by
  obtain ⟨i0, hi, hz0, hz1, hz2⟩ := info_parts hinf
  obtain ⟨A', c', W', hrun, hown', hb, hfr, hA⟩ := app_c (P := P) W base t t ty e i0 z k bytes ht hi hz0 hz1 hz2 hzs hL.pos A n c _ hown.2 (.slice B m d) m _ (Lst.src hL hsrc d ht) h63 hbytes hbase
  exact ⟨A', c', W', hrun, ⟨by rw [List.length_append, hown.1, hsrc.len], by rw [List.flatMap_append]; exact hown'⟩, hb, hfr, hA⟩
end
section
variable {α : Type} {f : α → List Value} {k : Nat} {w w' : World} {base : Nat} {A : Option Addr} {n c : Nat} {l : List α}
theorem SOwn.nil (f : α → List Value) (k : Nat) (w : World) (base : Nat) : SOwn f k w base none 0 0 [] := ⟨rfl, OwnC.nil w base k⟩
theorem SOwn.none (f : α → List Value) (k : Nat) (w : World) (base : Nat) (a : Addr) : SOwn f k w base (some a) 0 0 [] := ⟨rfl, by simp, by omega, by simp [maxLen], fun h => absurd h (by omega), fun h => by cases h⟩
theorem SOwn.below (h : SOwn f k w base A n c l) (hb : Below w.heap.size w w') : SOwn f k w' base A n c l := ⟨h.1, h.2.below hb⟩
theorem SOwn.far (h : SOwn f k w base A n c l) {p : Addr} (hp : p.block < base) (u : Value) : SOwn f k (w.setCell p u) base A n c l := ⟨h.1, h.2.far hp u⟩
theorem SOwn.mono {base' : Nat} (h : SOwn f k w base A n c l) (hb : base' ≤ base) : SOwn f k w base' A n c l := ⟨h.1, h.2.mono hb⟩
theorem SOwn.len (h : SOwn f k w base A n c l) : l.length = n := h.1
end
end Go.Proofs.Ytdhnegcblnpmfaa.Mem

namespace Go.Proofs.Ytdhnegcblnpmfaa.Mem
open Go.RowKit

section
variable {α : Type} {f : α → List Value} {k : Nat} (hL : Lay f k)
include hL
theorem step_app_s {P : Program} {ops : Array Oper} {o : Oper} {a : Act} {K : Act → World → Prop} {Q : Exit → Act → World → Prop} {E : Prop} {W : World} {t e : TypeId} {z : Value} {bytes base : Nat} {A : Option Addr} {n c : Nat} {l : List α} {B : Option Addr} {m d : Nat} {l2 : List α} (hgd : o.guard = none) (s x : Operand)
    (ho : o.op = .call { callee := .builtin .append, args := #[s, x], argTypes := #[t, t] }) (hs : a.eval s = .slice A n c) (hx : a.eval x = .slice B m d) (ht : P.underlying t = some (.slice e)) (hinf : (P.info? e).map (fun i => (i.zero, i.size, i.bytes)) = some (some z, k, bytes)) (hzs : z.cells.size = k)
    (hown : SOwn f k W base A n c l) (hsrc : Lst f k W B m l2) (h63 : n + m ≤ maxLen) (hbytes : (n + m) * bytes ≤ 140737488355328) (hbase : base ≤ W.heap.size)
    (h : ∀ A' c' W', SOwn f k W' base A' (n + m) c' (l ++ l2) → Below base W W' → (∀ b, b < W.heap.size → A ≠ some ⟨b, 0, none⟩ → W'.heap[b]? = W.heap[b]?) → K (a.put o.dst (.slice A' (n + m) c')) W') :
    if Region.wanted o (yielded ops a.tmps) = true then Oper.wp P o a W K Q else E := by
  obtain ⟨A', c', W', hrun, h1, h2, h3, _⟩ := app_s hL (P := P) W base t o.type e z bytes ht hinf hzs A n c l hown B m d l2 hsrc h63 hbytes hbase
  have hw : Region.wanted o (yielded ops a.tmps) = true := by simp [Region.wanted, hgd]
  rw [if_pos hw]
  unfold Oper.wp execOp
  simp only [ho, resolve, invoke, builtin, Sem.run_bind, Sem.run_pure, Result.andThen_ok, List.map_toArray, List.map_cons, List.map_nil, hs, hx, hrun]
  exact h A' c' W' h1 h2 h3
theorem step_app_0 {P : Program} {ops : Array Oper} {o : Oper} {a : Act} {K : Act → World → Prop} {Q : Exit → Act → World → Prop} {E : Prop} {W : World} {t e : TypeId} {z : Value} {bytes : Nat} (base : Nat) {A : Addr} {B : Option Addr} {m d : Nat} {l2 : List α} (hgd : o.guard = none) (s x : Operand)
    (ho : o.op = .call { callee := .builtin .append, args := #[s, x], argTypes := #[t, t] }) (hs : a.eval s = .slice (some A) 0 0) (hx : a.eval x = .slice B m d) (ht : P.underlying t = some (.slice e)) (hinf : (P.info? e).map (fun i => (i.zero, i.size, i.bytes)) = some (some z, k, bytes)) (hzs : z.cells.size = k)
    (hsrc : Lst f k W B m l2) (h63 : m ≤ maxLen) (hbytes : m * bytes ≤ 140737488355328) (hbase : base ≤ W.heap.size)
    (h : ∀ A' c' W', SOwn f k W' base A' m c' l2 → Below base W W' → (∀ b, b < W.heap.size → some A ≠ some ⟨b, 0, none⟩ → W'.heap[b]? = W.heap[b]?) → K (a.put o.dst (.slice A' m c')) W') :
    if Region.wanted o (yielded ops a.tmps) = true then Oper.wp P o a W K Q else E := by
  refine step_app_s hL hgd s x ho hs hx ht hinf hzs (SOwn.none f k W base A) hsrc (by omega) (by rw [Nat.zero_add]; exact hbytes) hbase (fun A' c' W' h1 h2 h3 => ?_)
  rw [Nat.zero_add] at h1 ⊢
  exact h A' c' W' h1 h2 h3
theorem wpList_app_s {P : Program} {ops : Array Oper} {rest : List Oper} {o : Oper} {a : Act} {Q : Exit → Act → World → Prop} {W : World} {t e : TypeId} {z : Value} {bytes base : Nat} {A : Option Addr} {n c : Nat} {l : List α} {B : Option Addr} {m d : Nat} {l2 : List α} (hgd : o.guard = none) (s x : Operand)
    (ho : o.op = .call { callee := .builtin .append, args := #[s, x], argTypes := #[t, t] }) (hs : a.eval s = .slice A n c) (hx : a.eval x = .slice B m d) (ht : P.underlying t = some (.slice e)) (hinf : (P.info? e).map (fun i => (i.zero, i.size, i.bytes)) = some (some z, k, bytes)) (hzs : z.cells.size = k)
    (hown : SOwn f k W base A n c l) (hsrc : Lst f k W B m l2) (h63 : n + m ≤ maxLen) (hbytes : (n + m) * bytes ≤ 140737488355328) (hbase : base ≤ W.heap.size)
    (h : ∀ A' c' W', SOwn f k W' base A' (n + m) c' (l ++ l2) → Below base W W' → (∀ b, b < W.heap.size → A ≠ some ⟨b, 0, none⟩ → W'.heap[b]? = W.heap[b]?) → wpList P ops Q rest (a.put o.dst (.slice A' (n + m) c')) W') :
    wpList P ops Q (o :: rest) a W := by
  obtain ⟨A', c', W', hrun, h1, h2, h3, _⟩ := app_s hL (P := P) W base t o.type e z bytes ht hinf hzs A n c l hown B m d l2 hsrc h63 hbytes hbase
  exact wpList_app2 hgd s x ho hs hx hrun (h A' c' W' h1 h2 h3)
end
theorem Lst.keep {α : Type} {f : α → List Value} {k : Nat} {w w' : World} {b : Nat} {n : Nat} {l : List α} (h : Lst f k w (some ⟨b, 0, none⟩) n l) (hsz : w.heap.size ≤ w'.heap.size) (hb : w'.heap[b]? = w.heap[b]?) : Lst f k w' (some ⟨b, 0, none⟩) n l := by
  refine ⟨Cells.len h, Cells.each h, fun hn => ?_⟩
  obtain ⟨b', off, e, hlt, hc⟩ := Cells.at_ h hn
  injection e with e
  injection e with e1 e2
  subst e1 e2
  exact ⟨_, _, rfl, by omega, fun i r hr j v hv => (World.cell?_of_block (a := ⟨b, 0 + i * k + j, none⟩) hb).trans (hc i r hr j v hv)⟩
theorem Lst.pre {α : Type} {f : α → List Value} {k : Nat} {w : World} {A : Option Addr} {n : Nat} {l : List α} (h : Lst f k w A n l) (i : Nat) (hi : i ≤ n) : Lst f k w A i (l.take i) := by
  have hl := h.len
  refine ⟨by simp; omega, fun r hr => Cells.each h r (by obtain ⟨x, hx, rfl⟩ := List.mem_map.1 hr; exact List.mem_map.2 ⟨x, List.mem_of_mem_take hx, rfl⟩), fun h0 => ?_⟩
  obtain ⟨b, off, hA, hb, hc⟩ := Cells.at_ h (by omega)
  refine ⟨b, off, hA, hb, fun j r hr => hc j r ?_⟩
  rw [List.getElem?_map] at hr ⊢
  have hj : j < i := by
    rcases Nat.lt_or_ge j i with h' | h'
    · exact h'
    · rw [List.getElem?_eq_none (by simp; omega)] at hr; cases hr
  rw [List.getElem?_take_of_lt hj] at hr
  exact hr
theorem Lst.drop {α : Type} {f : α → List Value} {k : Nat} {w : World} {b off : Nat} {n : Nat} {l : List α} (h : Lst f k w (some ⟨b, off, none⟩) n l) (i : Nat) (hi : i ≤ n) : Lst f k w (some ⟨b, off + i * k, none⟩) (n - i) (l.drop i) := by
  have hl := h.len
  refine ⟨by simp; omega, fun r hr => Cells.each h r (by obtain ⟨x, hx, rfl⟩ := List.mem_map.1 hr; exact List.mem_map.2 ⟨x, List.mem_of_mem_drop hx, rfl⟩), fun h0 => ?_⟩
  obtain ⟨b', off', e, hlt, hc⟩ := Cells.at_ h (by omega)
  injection e with e
  injection e with e1 e2
  subst e1 e2
  refine ⟨_, _, rfl, hlt, fun j r hr q v hv => ?_⟩
  have := hc (i + j) r (by rw [List.getElem?_map] at hr ⊢; rw [List.getElem?_drop] at hr; exact hr) q v hv
  rw [Nat.add_mul, ← Nat.add_assoc] at this
  exact this

def intRow (x : Int) : List Value := [.int .i64 x]
theorem layI : Lay intRow 1 := ⟨fun _ => rfl, fun x u hu => by simp [intRow] at hu; subst hu; rfl, by omega⟩
abbrev Ints := Lst intRow 1
abbrev IntsO := SOwn intRow 1
theorem Lst.int {w : World} {A : Option Addr} {n : Nat} {l : List Int} (h : Ints w A n l) {i : Nat} (hi : i < n) : ∃ b off x, A = some ⟨b, off, none⟩ ∧ b < w.heap.size ∧ l[i]? = some x ∧ w.cell? ⟨b, off + i, none⟩ = some (.int .i64 x) := by
  obtain ⟨b, off, x, hA, hb, hx, hc⟩ := h.at_ hi
  refine ⟨b, off, x, hA, hb, hx, ?_⟩
  have := hc 0 _ rfl
  rw [Nat.mul_one] at this
  exact this
end Go.Proofs.Ytdhnegcblnpmfaa.Mem

namespace Go.Proofs.Ytdhnegcblnpmfaa.Mem
open Go.RowKit

section
variable {α : Type} {f : α → List Value} {k : Nat} (hL : Lay f k)
include hL
/-- cells set in the own block, within its room: what the first elements read as is told anew -/
theorem sown_setCells {w : World} {base g : Nat} {n c : Nat} {l l' : List α} (h : SOwn f k w base (some ⟨g, 0, none⟩) n c l) (hl : l'.length = n) (o : Nat) (vs : List Value) (ho : o + vs.length ≤ c * k)
    (hc : ∀ j, j < n * k → (l'.flatMap f)[j]? = if o ≤ j ∧ j < o + vs.length then vs[j - o]? else (l.flatMap f)[j]?) : SOwn f k (w.setCells g o vs) base (some ⟨g, 0, none⟩) n c l' := by
  refine ⟨hl, by rw [flat_len hL, hl], h.2.le, h.2.max, fun h0 => ?_, fun e => by cases e⟩
  obtain ⟨g', hA, hb, hlt, h1, h2⟩ := h.2.room h0
  injection hA with hA
  injection hA with hA
  subst hA
  have hin : ∀ j, j < vs.length → (w.cell? ⟨g, o + j, none⟩).isSome = true := fun j hj => (h2 (o + j) (by omega)).1
  have key : ∀ j, (w.setCells g o vs).cell? ⟨g, j, none⟩ = if o ≤ j ∧ j < o + vs.length then vs[j - o]? else w.cell? ⟨g, j, none⟩ := by
    intro j
    by_cases hj : o ≤ j ∧ j < o + vs.length
    · rw [if_pos hj]
      have := World.cell?_setCells_in g vs o w hin (j - o) (by omega)
      rw [show o + (j - o) = j by omega] at this
      rw [this, List.getElem?_eq_getElem (by omega)]
    · rw [if_neg hj, World.cell?_setCells_out g vs o w ⟨g, j, none⟩ (fun _ _ => by simp only; omega)]
  refine ⟨g, rfl, hb, by rw [size_setCells]; exact hlt, fun j hj => ?_, fun j hj => ⟨?_, by rw [World.frozen?_setCells]; exact (h2 j hj).2⟩⟩
  · rw [key, hc j hj]
    split
    · rfl
    · exact h1 j hj
  · rw [key]
    split
    · rw [List.getElem?_eq_getElem (by omega)]; rfl
    · exact (h2 j hj).1
theorem flat_set : ∀ (l : List α) (i : Nat) (x : α), i < l.length → ∀ j, ((l.set i x).flatMap f)[j]? = if i * k ≤ j ∧ j < i * k + k then (f x)[j - i * k]? else (l.flatMap f)[j]? := by
  intro l
  induction l with
  | nil => intro i x h; simp at h
  | cons y r ih =>
    intro i x h j
    cases i with
    | zero =>
      rw [List.set_cons_zero, List.flatMap_cons, List.flatMap_cons, Nat.zero_mul]
      by_cases hj : j < k
      · rw [if_pos ⟨by omega, by omega⟩, List.getElem?_append_left (by rw [hL.len]; exact hj), Nat.sub_zero]
      · rw [if_neg (by omega), List.getElem?_append_right (by rw [hL.len]; omega), List.getElem?_append_right (by rw [hL.len]; omega), hL.len, hL.len]
    | succ i =>
      rw [List.set_cons_succ, List.flatMap_cons, List.flatMap_cons, Nat.add_mul, Nat.one_mul]
      by_cases hj : j < k
      · rw [if_neg (by omega), List.getElem?_append_left (by rw [hL.len]; exact hj), List.getElem?_append_left (by rw [hL.len]; exact hj)]
      · rw [List.getElem?_append_right (by rw [hL.len]; omega), List.getElem?_append_right (by rw [hL.len]; omega), hL.len, ih i x (by simpa using h)]
        by_cases hq : i * k ≤ j - k ∧ j - k < i * k + k
        · rw [if_pos hq, if_pos (by omega)]
          congr 1
          omega
        · rw [if_neg hq, if_neg (by omega)]
/-- an element stored -/
theorem sown_set {w : World} {base g : Nat} {n c : Nat} {l : List α} (h : SOwn f k w base (some ⟨g, 0, none⟩) n c l) (i : Nat) (hi : i < n) (x : α) : SOwn f k (w.setCells g (i * k) (f x)) base (some ⟨g, 0, none⟩) n c (l.set i x) := by
  have hle := h.2.le
  have h1 : (i + 1) * k ≤ c * k := Nat.mul_le_mul_right k (by omega)
  rw [Nat.add_mul, Nat.one_mul] at h1
  refine sown_setCells hL h (by rw [List.length_set]; exact h.1) (i * k) (f x) (by rw [hL.len]; exact h1) (fun j _ => ?_)
  rw [flat_set hL l i x (by rw [h.1]; exact hi) j, hL.len]
/-- fewer of them -/
theorem sown_take {w : World} {base : Nat} {A : Option Addr} {n c : Nat} {l : List α} (h : SOwn f k w base A n c l) (i : Nat) (hi : i ≤ n) : SOwn f k w base A i c (l.take i) := by
  have hlen : (l.take i).length = i := by rw [List.length_take, h.1]; omega
  have hk := Nat.mul_le_mul_right k hi
  refine ⟨hlen, by rw [flat_len hL, hlen], Nat.le_trans hi h.2.le, h.2.max, fun h0 => ?_, h.2.bare⟩
  obtain ⟨g, hA, hb, hlt, h1, h2⟩ := h.2.room h0
  refine ⟨g, hA, hb, hlt, fun j hj => ?_, h2⟩
  rw [h1 j (by omega)]
  have e : l.flatMap f = (l.take i).flatMap f ++ (l.drop i).flatMap f := by rw [← List.flatMap_append, List.take_append_drop]
  rw [e, List.getElem?_append_left (by rw [flat_len hL, hlen]; exact hj)]
/-- the cells from the i-th element on set: the elements ahead stay -/
theorem sown_tail {w : World} {base g : Nat} {n c : Nat} {l : List α} (h : SOwn f k w base (some ⟨g, 0, none⟩) n c l) (i : Nat) (hi : i ≤ n) (vs : List Value) (hv : vs.length = (n - i) * k) : SOwn f k (w.setCells g (i * k) vs) base (some ⟨g, 0, none⟩) i c (l.take i) := by
  have hle := h.2.le
  have e : i * k + (n - i) * k = n * k := by rw [← Nat.add_mul]; congr 1; omega
  have h1 : n * k ≤ c * k := Nat.mul_le_mul_right k hle
  refine sown_setCells hL (sown_take hL h i hi) (by rw [List.length_take, h.1]; omega) (i * k) vs (by omega) (fun j hj => ?_)
  rw [if_neg (by omega)]
end
/-- 'clear' of a slice of structs -/
theorem run_clear_row {P : Program} (w : World) (t e ty : TypeId) (z : Value) (ht : P.underlying t = some (.slice e)) (hv : ∀ w, (zeroValue e).run P w = .ok z w) (b o n c : Nat) (hn : 0 < n) (h1 : ∀ v ∈ (Builtin.zeroCells z.cells n).toList, v.oneCell' = true)
    (hc : ∀ j, j < (Builtin.zeroCells z.cells n).size → (w.cell? ⟨b, o + j, none⟩).isSome = true) (hf : ∀ j, j < (Builtin.zeroCells z.cells n).size → w.frozen? ⟨b, o + j, none⟩ = false) :
    (Builtin.clear_ #[t] ty #[.slice (some ⟨b, o, none⟩) n c]).run P w = .ok (.tuple #[]) (w.setCells b o (Builtin.zeroCells z.cells n).toList) := by
  have hst := run_storeCells_cells (P := P) b o (Builtin.zeroCells z.cells n).toList 0 w (by simpa using hc) (by simpa using hf) h1
  simp only [Nat.add_zero] at hst
  obtain ⟨m, rfl⟩ : ∃ m, n = m + 1 := ⟨n - 1, by omega⟩
  simp [Builtin.clear_, run_underlying ht, hv, hst]
theorem mem_zeroCells {cs : Array Value} {n : Nat} {v : Value} (h : v ∈ (Builtin.zeroCells cs n).toList) (hcs : ∀ u ∈ cs.toList, u.oneCell' = true) : v.oneCell' = true := by
  simp only [Builtin.zeroCells, Array.toList_map, Array.toList_range, List.mem_map, List.mem_range] at h
  obtain ⟨i, hi, rfl⟩ := h
  have h0 : 0 < cs.size := by
    rcases Nat.eq_zero_or_pos cs.size with h | h
    · rw [h] at hi; simp at hi
    · exact h
  have hm := Nat.mod_lt i h0
  rw [getElem!_pos cs _ hm]
  exact hcs _ (by simp)
end Go.Proofs.Ytdhnegcblnpmfaa.Mem

namespace Go.Proofs.Ytdhnegcblnpmfaa.Mem
open Go.RowKit

section
variable {α : Type} {f : α → List Value} {k : Nat} (hL : Lay f k)
include hL
theorem lit_b (w : World) (x : α) (cs : Array Value) (t : TypeId) (E : Obj) (hcs : cs.toList = f x) {W1 : World} (hsz : ((w.alloc E).alloc (.cells cs t)).drew.heap.size ≤ W1.heap.size)
    (hf : ∀ b, b < ((w.alloc E).alloc (.cells cs t)).drew.heap.size → some (⟨w.heap.size, 0, none⟩ : Addr) ≠ some ⟨b, 0, none⟩ → W1.heap[b]? = ((w.alloc E).alloc (.cells cs t)).drew.heap[b]?) : Lst f k W1 (some ⟨w.heap.size + 1, 0, none⟩) 1 [x] := by
  have h1 := Lst.new hL (w.alloc E) x cs t hcs
  have e : (w.alloc E).heap.size = w.heap.size + 1 := by simp
  rw [e] at h1
  refine Lst.keep h1 (Nat.le_trans (Nat.le_refl _) hsz) (hf (w.heap.size + 1) (by simp) (by intro h; injection h with h; injection h with h; omega))
theorem lit_c (w : World) (x : α) (cs : Array Value) (t : TypeId) (E : Obj) (hcs : cs.toList = f x) {W1 : World} (hsz : ((w.alloc (.cells cs t)).alloc E).drew.heap.size ≤ W1.heap.size)
    (hf : ∀ b, b < ((w.alloc (.cells cs t)).alloc E).drew.heap.size → some (⟨w.heap.size + 1, 0, none⟩ : Addr) ≠ some ⟨b, 0, none⟩ → W1.heap[b]? = ((w.alloc (.cells cs t)).alloc E).drew.heap[b]?) : Lst f k W1 (some ⟨w.heap.size, 0, none⟩) 1 [x] := by
  have h1 := (Lst.new hL w x cs t hcs).below ((Below.refl _ _).alloc (Nat.le_refl _) E)
  refine Lst.keep h1 (Nat.le_trans (Nat.le_refl _) hsz) (hf w.heap.size (by simp; omega) (by intro h; injection h with h; injection h with h; omega))
end
end Go.Proofs.Ytdhnegcblnpmfaa.Mem

namespace Go.Proofs.Ytdhnegcblnpmfaa.Mem
open Go.RowKit

section
variable {P : Program} {ops : Array Oper} {C : World → Prop} {Q : Act → Prop} {a : Act} {o : Oper} {rest : List Oper}
/-- the kit's walk, behind a structure (so that nothing unfolds it) -/
structure WQ (P : Program) (ops : Array Oper) (C : World → Prop) (Q : Act → Prop) (l : List Oper) (a : Act) : Prop where
  out : wpQuiet P ops C Q l a
theorem wp_region_cls {id : Nat} {Q : Exit → Act → World → Prop} {a : Act} {w : World} {l : List Oper} (C : World → Prop) (hm : P.follows .mixedOrders = true) (hB : Region.lexB .any l.toArray = true) (hC : C w.drew)
    (h : WQ P l.toArray C (fun a' => ∀ w', C w' → Q .normal a' w') l a) : (Code.region id l.toArray true).wp P Q a w :=
  wp_region_quiet (C := C) hm hB hC (by simpa using h.out)
theorem cq_nil (h : Q a) : WQ P ops C Q [] a := ⟨h⟩
theorem cq_skip (hw : Region.wanted o (yielded ops a.tmps) = false) (h : WQ P ops C Q rest (a.put o.dst undef)) : WQ P ops C Q (o :: rest) a :=
  ⟨wpQuiet_step fun K hK => by rw [if_neg (by rw [hw]; exact Bool.false_ne_true)]; exact hK _ h.out⟩
theorem cq_val (v : Value) (hw : Region.wanted o (yielded ops a.tmps) = true) (hq : ∀ w, C w → (execOp a.eval o).run P w = .ok (.value v) w) (h : WQ P ops C Q rest (a.put o.dst v)) : WQ P ops C Q (o :: rest) a :=
  ⟨wpQuiet_step fun K hK => by
    rw [if_pos hw]
    refine ⟨v, fun w hC => ?_, hK _ h.out⟩
    unfold Oper.quietAt
    rw [hq w hC]
    exact ⟨rfl, rfl⟩⟩
/-- the same, the value found on the way -/
theorem cq_ex (hw : Region.wanted o (yielded ops a.tmps) = true) (hq : ∃ v, (∀ w, C w → (execOp a.eval o).run P w = .ok (.value v) w) ∧ WQ P ops C Q rest (a.put o.dst v)) : WQ P ops C Q (o :: rest) a :=
  let ⟨v, h1, h2⟩ := hq
  cq_val v hw h1 h2
theorem cq_call (f : FuncId) (args : Array Value) (v : Value) (hw : Region.wanted o (yielded ops a.tmps) = true) (hq : ∀ w, (execOp a.eval o).run P w = .ok (.enter f args) w) (hc : ∀ w, C w → Calls P f args w (fun e w'' => e = .returned v ∧ C w'')) (h : WQ P ops C Q rest (a.put o.dst v)) : WQ P ops C Q (o :: rest) a :=
  ⟨wpQuiet_step fun K hK => by
    rw [if_pos hw]
    refine ⟨v, fun w hC => ?_, hK _ h.out⟩
    unfold Oper.quietAt
    rw [hq w]
    exact ⟨rfl, hc w hC⟩⟩
end
end Go.Proofs.Ytdhnegcblnpmfaa.Mem

namespace Go.Proofs.Ytdhnegcblnpmfaa.Mem
open Go.RowKit

def Ret (r : Value) (w : World) (e : Ending) (w' : World) : Prop := e = .returned r ∧ Below w.heap.size w w'
def Drew (r : Value) (w : World) (e : Ending) (w' : World) : Prop := e = .returned r ∧ ∃ m, w' = w.drewN m
theorem Drew.below {r : Value} {w w' : World} {e : Ending} (h : Drew r w e w') : Ret r w e w' := by
  obtain ⟨h1, m, rfl⟩ := h
  exact ⟨h1, below_drewN (Below.refl _ _) _⟩
theorem SOwn.max {α : Type} {f : α → List Value} {k : Nat} {w : World} {base : Nat} {A : Option Addr} {n c : Nat} {l : List α} (h : SOwn f k w base A n c l) : n ≤ maxLen := Nat.le_trans h.2.le h.2.max
abbrev TrueB (W : World) (e : Ending) (w' : World) : Prop := e = .returned (.bool true) ∧ Below W.heap.size W w'
theorem all_lt {P : Nat → Prop} {k : Nat} (h : ∀ j, j < k → P j) (hk : P k) : ∀ j, j < k + 1 → P j := fun j hj => by
  rcases Nat.lt_or_ge j k with h' | h'
  · exact h j h'
  · obtain rfl : j = k := by omega
    exact hk
theorem ret_tuple {a b : Array Value} (h : a = b) : Ending.returned (.tuple a) = .returned (.tuple b) := by rw [h]
theorem blk1 {w : World} {g : Nat} {t : TypeId} {v0 : Value} (h : Blk w g t #[v0]) : w.cell? ⟨g, 0, none⟩ = some v0 := h.cell 0
theorem blk2 {w : World} {g : Nat} {t : TypeId} {v0 v1 : Value} (h : Blk w g t #[v0, v1]) : w.cell? ⟨g, 0, none⟩ = some v0 ∧ w.cell? ⟨g, 1, none⟩ = some v1 := ⟨h.cell 0, h.cell 1⟩
theorem blk4 {w : World} {g : Nat} {t : TypeId} {v0 v1 v2 v3 : Value} (h : Blk w g t #[v0, v1, v2, v3]) : w.cell? ⟨g, 0, none⟩ = some v0 ∧ w.cell? ⟨g, 1, none⟩ = some v1 ∧ w.cell? ⟨g, 2, none⟩ = some v2 ∧ w.cell? ⟨g, 3, none⟩ = some v3 := ⟨h.cell 0, h.cell 1, h.cell 2, h.cell 3⟩
theorem blk7 {w : World} {g : Nat} {t : TypeId} {v0 v1 v2 v3 v4 v5 v6 : Value} (h : Blk w g t #[v0, v1, v2, v3, v4, v5, v6]) : w.cell? ⟨g, 0, none⟩ = some v0 ∧ w.cell? ⟨g, 1, none⟩ = some v1 ∧ w.cell? ⟨g, 2, none⟩ = some v2 ∧ w.cell? ⟨g, 3, none⟩ = some v3 ∧ w.cell? ⟨g, 4, none⟩ = some v4 ∧ w.cell? ⟨g, 5, none⟩ = some v5 ∧ w.cell? ⟨g, 6, none⟩ = some v6 := ⟨h.cell 0, h.cell 1, h.cell 2, h.cell 3, h.cell 4, h.cell 5, h.cell 6⟩
/-- a literal of ints reads as its list -/
theorem ints_blk {w : World} {g : Nat} {t : TypeId} {cs : Array Value} {l : List Int} (h : Blk w g t cs) (hc : cs.toList = l.map (fun x => .int .i64 x)) : Ints w (some ⟨g, 0, none⟩) l.length l := by
  refine ⟨by simp, fun r hr => ?_, fun hn => ⟨g, 0, rfl, h.lt, fun i r hr j v hv => ?_⟩⟩
  · obtain ⟨x, _, rfl⟩ := List.mem_map.1 hr
    rfl
  · rw [List.getElem?_map] at hr
    cases hx : l[i]? with
    | none => rw [hx] at hr; cases hr
    | some x =>
      rw [hx] at hr
      injection hr with hr
      subst hr
      cases j with
      | zero =>
        simp [intRow] at hv
        subst hv
        rw [Nat.zero_add, Nat.mul_one, Nat.add_zero, h.cell i]
        have : cs.toList[i]? = some (.int .i64 x) := by rw [hc, List.getElem?_map, hx]; rfl
        simpa using this
      | succ j => simp [intRow] at hv
end Go.Proofs.Ytdhnegcblnpmfaa.Mem
