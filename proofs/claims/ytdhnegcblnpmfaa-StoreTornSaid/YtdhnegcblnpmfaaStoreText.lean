/-
  Slices of texts in one word; strings held against each other.
-/
import Derived.Test.YtdhnegcblnpmfaaStore4
namespace Go.Proofs.Ytdhnegcblnpmfaa.StorW
open Go.RowKit Mem Stor
set_option linter.unusedVariables false

def Txs (w : World) (A : Option Addr) (n : Nat) (l : List (List UInt8)) : Prop := Row w A n (sv l)
theorem Txs.len {w : World} {A : Option Addr} {n : Nat} {l : List (List UInt8)} (h : Txs w A n l) : l.length = n := by have := h.1; rwa [sv_length] at this
theorem Txs.below {w w' : World} {A : Option Addr} {n : Nat} {l : List (List UInt8)} (h : Txs w A n l) (hb : Below w.heap.size w w') : Txs w' A n l := Row.below h hb
theorem Txs.at_ {w : World} {A : Option Addr} {n : Nat} {l : List (List UInt8)} (h : Txs w A n l) {k : Nat} (hk : k < n) : ∃ b off s, A = some ⟨b, off, none⟩ ∧ b < w.heap.size ∧ l[k]? = some s ∧ w.cell? ⟨b, off + k, none⟩ = some (.string (str s)) := by
  obtain ⟨b, off, v, e, hlt, hv, hc⟩ := Row.at_ h hk
  rw [sv, List.getElem?_map] at hv
  cases hs : l[k]? with
  | none => rw [hs] at hv; cases hv
  | some s => rw [hs] at hv; injection hv with hv; subst hv; exact ⟨b, off, s, e, hlt, rfl, hc⟩
theorem Txs.of_strs {w : World} {A : Option Addr} {n : Nat} {l : List ByteArray} (h : Strs w A n l) : Txs w A n (l.map (·.data.toList)) := by
  have e : sv (l.map (·.data.toList)) = l.map Value.string := by
    simp only [sv, List.map_map]
    exact List.map_congr_left fun s _ => by simp [str_of]
  unfold Txs
  rw [e]
  exact h
theorem Txs.of_ownc {w : World} {base : Nat} {A : Option Addr} {n c : Nat} {l : List (List UInt8)} (h : OwnC w base 1 A n c (sv l)) : Txs w A n l := by
  have hl := h.len
  rw [Nat.mul_one] at hl
  refine ⟨hl, fun hn => ?_⟩
  obtain ⟨g, hA, _, hlt, h1, _⟩ := h.room (by have := h.le; omega)
  exact ⟨g, 0, hA, hlt, fun i v hv => by rw [Nat.zero_add, h1 i (by rw [Nat.mul_one, ← hl]; exact (List.getElem?_eq_some_iff.1 hv).1), hv]⟩
theorem Txs.nil (w : World) (A : Option Addr) : Txs w A 0 [] := Row.nil w A
theorem str_list (x : List UInt8) : (str x).toList = x := by rw [ByteArray.toList_eq, str_data]
theorem str_ne {x y : List UInt8} (h : x ≠ y) : ((str x).toList == (str y).toList) = false := by
  rw [str_list, str_list, beq_eq_false_iff_ne]; exact h
end Go.Proofs.Ytdhnegcblnpmfaa.StorW
