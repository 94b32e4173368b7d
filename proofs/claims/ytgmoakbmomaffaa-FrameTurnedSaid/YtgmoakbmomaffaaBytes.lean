/-
  Words on slices of bytes that a call itself has made out of a string: '[]byte(s)', a store into it, 'string(b)'. Nothing of the program.
-/
import Derived.Test.YtgmoakbmomaffaaMem
import Derived.Laws.IdiomStrings
import Derived.Laws.BytesArg
namespace Go.Proofs.Ytgmoakbmomaffaa.Mem
open Go.RowKit

/-- from offset 0 on block g holds these bytes, none frozen -/
def Byts (w : World) (g : Nat) (l : List UInt8) : Prop :=
  g < w.heap.size ∧ ∀ i c, l[i]? = some c → w.cell? ⟨g, i, none⟩ = some (.int .u8 (c.toNat : Int)) ∧ w.frozen? ⟨g, i, none⟩ = false

section
variable {w w' : World} {g : Nat} {l : List UInt8}
theorem Byts.drew (h : Byts w g l) : Byts w.drew g l := h
theorem Byts.drewN (h : Byts w g l) (n : Nat) : Byts (w.drewN n) g l := h
theorem Byts.below {B : Nat} (h : Byts w g l) (hb : Below B w w') (hg : g < B) : Byts w' g l :=
  ⟨Nat.lt_of_lt_of_le h.1 hb.size, fun i c hc => ⟨(hb.cell (p := ⟨g, i, none⟩) hg).trans (h.2 i c hc).1, (hb.frozen (p := ⟨g, i, none⟩) hg).trans (h.2 i c hc).2⟩⟩
theorem Byts.alloc (h : Byts w g l) (o : Obj) : Byts (w.alloc o) g l := h.below ((Below.refl w.heap.size w).alloc (Nat.le_refl _) o) h.1
theorem Byts.set (h : Byts w g l) {i : Nat} (hi : i < l.length) (c : UInt8) : Byts (w.setCell ⟨g, i, none⟩ (.int .u8 (c.toNat : Int))) g (l.set i c) := by
  refine ⟨by simpa [World.setCell] using h.1, fun j d hd => ?_⟩
  have hfr : (w.setCell ⟨g, i, none⟩ (.int .u8 (c.toNat : Int))).frozen? ⟨g, j, none⟩ = w.frozen? ⟨g, j, none⟩ := by simp
  by_cases hij : i = j
  · subst hij
    rw [List.getElem?_set_self hi] at hd
    injection hd with hd
    subst hd
    obtain ⟨hc, hf⟩ := h.2 i _ (List.getElem?_eq_getElem hi)
    exact ⟨World.cell?_setCell_same _ _ _ (by rw [hc]), by rw [hfr]; exact hf⟩
  · rw [List.getElem?_set_ne hij] at hd
    obtain ⟨hc, hf⟩ := h.2 j _ hd
    exact ⟨by rw [World.cell?_setCell_other _ _ _ _ (by intro e; injection e with _ e; exact hij e)]; exact hc, by rw [hfr]; exact hf⟩
theorem Byts.back {P : Program} (h : Byts w g l) (src dst e : TypeId) (cap n : Nat) (hn : n = l.length) (hs : P.underlying src = some (.slice e)) (he : P.underlying e = some (.int .u8)) (hd : P.underlying dst = some .string) :
    (convert src dst (.slice (some ⟨g, 0, none⟩) n cap)).run P w = .ok (.string ⟨l.toArray⟩) w := by
  subst hn
  refine run_convert_bytes_back w src dst e _ cap l hs he hd (fun j hj => ?_)
  have : (⟨g, 0, none⟩ : Addr).add j = ⟨g, j, none⟩ := by unfold Addr.add; split <;> simp_all
  rw [this]
  exact (h.2 j _ (List.getElem?_eq_getElem hj)).1
end

theorem to_bytes {P : Program} (src dst e : TypeId) (s : ByteArray) (hs : P.underlying src = some .string) (hd : P.underlying dst = some (.slice e)) (he : P.underlying e = some (.int .u8)) :
    ∃ (cp : World → Nat) (nx : World → World), (∀ W, (convert src dst (.string s)).run P W = .ok (.slice (some ⟨W.heap.size, 0, none⟩) s.size (cp W)) (nx W)) ∧
      ∀ W, Below W.heap.size W (nx W) ∧ s.size ≤ cp W ∧ Byts (nx W) W.heap.size s.data.toList := by
  refine ⟨fun w => grownCap w s.size 0 e, fun w => w.drew.alloc (.cells (bytesRow s (grownCap w s.size 0 e)) e ((bytesRow s (grownCap w s.size 0 e)).size, (bytesRow s (grownCap w s.size 0 e)).size + 1)), fun W => run_bytes_of_string W src dst e s hs hd he, fun W => ?_⟩
  have hge := grownCap_ge W s.size 0 e
  refine ⟨(Below.refl _ _).drew.alloc (Nat.le_refl _) _, hge, by simp, fun i c hc => ?_⟩
  have hi : i < s.size := by
    have := (List.getElem?_eq_some_iff.1 hc).1
    simpa using this
  have hblk : (W.drew.alloc (.cells (bytesRow s (grownCap W s.size 0 e)) e ((bytesRow s (grownCap W s.size 0 e)).size, (bytesRow s (grownCap W s.size 0 e)).size + 1))).heap[W.heap.size]? = some (.cells (bytesRow s (grownCap W s.size 0 e)) e ((bytesRow s (grownCap W s.size 0 e)).size, (bytesRow s (grownCap W s.size 0 e)).size + 1)) := heap_alloc_new W.drew _
  have hcell : (bytesRow s (grownCap W s.size 0 e))[i]? = some (.int .u8 (c.toNat : Int)) := by
    unfold bytesRow
    rw [Array.getElem?_append_left (by simpa using hi), Array.getElem?_map]
    rw [Array.getElem?_toList] at hc
    rw [hc]
    rfl
  have hlt : i < (bytesRow s (grownCap W s.size 0 e)).size := (Array.getElem?_eq_some_iff.1 hcell).1
  refine ⟨(cell_of_row _ _ i _ _ _ hblk).trans hcell, ?_⟩
  show World.frozen? (W.drew.alloc (.cells (bytesRow s (grownCap W s.size 0 e)) e ((bytesRow s (grownCap W s.size 0 e)).size, (bytesRow s (grownCap W s.size 0 e)).size + 1))) ⟨W.heap.size, i, none⟩ = false
  generalize bytesRow s (grownCap W s.size 0 e) = R at hblk hlt ⊢
  unfold World.frozen?
  rw [hblk]
  simp
  omega
end Go.Proofs.Ytgmoakbmomaffaa.Mem
