/-
  Arguments of a law, opened to the words of this seat's walks (slices of strings). Nothing of the program.
-/
import Derived.Test.YtgmoakbmomaffaaMem
import Derived.SliceStrings
import Derived.ProofKit
namespace Go.Proofs.Ytgmoakbmomaffaa.Mem
open Go.ChangeShapes Go.WideShapes Go.RowKit

theorem plain_add (b off i : Nat) : (⟨b, off, none⟩ : Addr).add i = ⟨b, off + i, none⟩ := by unfold Addr.add; split <;> simp_all
theorem addr_plain {w : World} {a : Addr} {v : Value} (h : w.cell? (a.add 0) = some v) : ∃ b off, a = ⟨b, off, none⟩ := by
  have hs : (a.add 0).spot = none := World.cell?_spot h
  obtain ⟨b, off, spot⟩ := a
  have : spot = none := by simpa [Addr.add] using hs
  subst this
  exact ⟨b, off, rfl⟩
theorem cell_lt {w : World} {b off : Nat} {v : Value} (h : w.cell? ⟨b, off, none⟩ = some v) : b < w.heap.size := by
  rcases Nat.lt_or_ge b w.heap.size with h' | h'
  · exact h'
  · simp [World.cell?, Array.getElem?_eq_none h'] at h

section
variable {H : Type} {enc : TypeId × Value → H} {P : Program} {w : World} {base : Nat} {spare : Nat → Bool} {held : Bool}
theorem open_strs {t e : TypeId} {a0 : Option Addr} {len0 cap0 : Nat} {d : DataW H} {p : List MemPlace} (ht : P.underlying t = some (.slice e)) (he : P.underlying e = some .string) (hc : P.cellsOf e = 1)
    (h : DataW.Trod enc P w base spare held t (.slice a0 len0 cap0) d p) : ∃ l, Strs w a0 len0 l ∧ len0 ≤ maxLen ∧ ∀ s ∈ l, s.size ≤ maxLen := by
  obtain ⟨fuel, hf⟩ := h
  rcases open_strings ht he hc hf with ⟨hcs, _⟩ | ⟨a, len, cap, ss, hcs, _, hl, hm, hz, _, hcell, hws⟩
  · simp [Value.cells] at hcs
    obtain ⟨rfl, rfl, rfl⟩ := hcs
    exact ⟨[], Row.nil _ _, by simp [maxLen], by simp⟩
  · simp [Value.cells] at hcs
    obtain ⟨rfl, rfl, rfl⟩ := hcs
    have hle : len0 ≤ ss.length := by rw [hz]; split <;> omega
    refine ⟨ss.take len0, ⟨by simp; omega, fun hn => ?_⟩, by omega, fun s hs => hws s (List.mem_of_mem_take hs)⟩
    obtain ⟨b, off, rfl⟩ := addr_plain (hcell 0 (by omega))
    have h0 := hcell 0 (by omega)
    rw [plain_add] at h0
    refine ⟨b, off, rfl, cell_lt h0, fun i v hv => ?_⟩
    rw [List.getElem?_map] at hv
    have hi : i < len0 := by
      rcases Nat.lt_or_ge i len0 with h' | h'
      · exact h'
      · rw [List.getElem?_eq_none (by simp; omega)] at hv; cases hv
    have := hcell i (by omega)
    rw [plain_add] at this
    rw [this]
    rw [List.getElem?_take_of_lt hi, List.getElem?_eq_getElem (by omega)] at hv
    rw [← hv]
    simp [List.getD, List.getElem?_eq_getElem (show i < ss.length by omega)]
end
end Go.Proofs.Ytgmoakbmomaffaa.Mem
