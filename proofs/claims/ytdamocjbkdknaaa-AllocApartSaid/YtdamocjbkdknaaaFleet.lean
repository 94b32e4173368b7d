/-
  Nodes in memory; contracts of slices.Contains at ints, muster/fleet's tick, fine, Check.
-/
import Derived.Test.YtdamocjbkdknaaaRows
import Derived.Test.YtdamocjbkdknaaaFleetBits
import Derived.Test.YtdamocjbkdknaaaWord
import Derived.RegionTactic
import Derived.Outline
namespace Go.Proofs.Ytdamocjbkdknaaa.FleetW
open Go.RowKit Mem Fleet
set_option linter.unusedVariables false
set_option linter.unusedSimpArgs false
set_option linter.unnecessarySimpa false

def ndRow (x : Nd) : List Value := [.int .i64 x.st, .int .i64 x.jb, .int .i64 x.ep, .bool x.dr, .int .i64 x.wt, .int .i64 x.si, .int .i64 x.ak]
abbrev NX (x : Nd) : Array Value := #[.int .i64 x.st, .int .i64 x.jb, .int .i64 x.ep, .bool x.dr, .int .i64 x.wt, .int .i64 x.si, .int .i64 x.ak]
abbrev Nds := Lst ndRow 7
theorem layN : Lay ndRow 7 := ⟨fun _ => rfl, fun x u hu => by simp [ndRow] at hu; rcases hu with rfl | rfl | rfl | rfl | rfl | rfl | rfl <;> rfl, by omega⟩
abbrev NdsO := SOwn ndRow 7
theorem Lst.seven {w : World} {A : Option Addr} {n : Nat} {l : List Nd} (h : Nds w A n l) {i : Nat} (hi : i < n) : ∃ b off s, A = some ⟨b, off, none⟩ ∧ b < w.heap.size ∧ l[i]? = some s ∧ w.cell? ⟨b, off + i * 7, none⟩ = some (.int .i64 s.st) ∧ w.cell? ⟨b, off + i * 7 + 1, none⟩ = some (.int .i64 s.jb) ∧ w.cell? ⟨b, off + i * 7 + 2, none⟩ = some (.int .i64 s.ep) ∧ w.cell? ⟨b, off + i * 7 + 3, none⟩ = some (.bool s.dr) ∧ w.cell? ⟨b, off + i * 7 + 4, none⟩ = some (.int .i64 s.wt) ∧ w.cell? ⟨b, off + i * 7 + 5, none⟩ = some (.int .i64 s.si) ∧ w.cell? ⟨b, off + i * 7 + 6, none⟩ = some (.int .i64 s.ak) := by
  obtain ⟨b, off, s, hA, hb, hs, hc⟩ := h.at_ hi
  exact ⟨b, off, s, hA, hb, hs, hc 0 _ rfl, hc 1 _ rfl, hc 2 _ rfl, hc 3 _ rfl, hc 4 _ rfl, hc 5 _ rfl, hc 6 _ rfl⟩
theorem tick_any (n : Int) (w : World) : Calls Try.prog 54 #[.int .i64 n] w fun e w' => e = .returned (.bool (tickB n)) ∧ w = w' := by
  by_cases h0 : 0 ≤ n
  · go_enter Try.func54, Try.ntmps54
    go_wp2_with fail
    go_ret
    exact ⟨ret_bool (by simp [tickB] <;> omega), rfl⟩
  · go_enter Try.func54, Try.ntmps54
    go_wp2_with fail
    go_ret
    exact ⟨ret_bool (by simp [tickB] <;> omega), rfl⟩
theorem tick_is (r : Bool) (n : Int) (w : World) (h : tickB n = r) : Calls Try.prog 54 #[.int .i64 n] w fun e w' => e = .returned (.bool r) ∧ w = w' := by rw [← h]; exact tick_any n w

def idxI (l : List Int) (x : Int) : Int := if l.contains x then (l.findIdx (· == x) : Int) else -1
theorem idxI_no {l : List Int} {x : Int} (h : ∀ y ∈ l, y ≠ x) : idxI l x = -1 := by
  have : l.contains x = false := by
    rw [List.contains_eq_any_beq, List.any_eq_false]
    intro y hy e
    exact h y hy (beq_iff_eq.1 e).symm
  rw [idxI, this]
  rfl
theorem idxI_at {l : List Int} {x : Int} {k : Nat} (h : ∀ y ∈ l.take k, y ≠ x) (hs : l[k]? = some x) : idxI l x = (k : Int) := by
  obtain ⟨hk, hx⟩ := List.getElem?_eq_some_iff.1 hs
  have ha : l.contains x = true := by rw [List.contains_iff_mem]; rw [← hx]; exact List.getElem_mem hk
  have : l.findIdx (· == x) = k := by
    rw [List.findIdx_eq hk]
    refine ⟨by simp [hx], fun j hj => ?_⟩
    have := h l[j] (by rw [List.mem_take_iff_getElem]; exact ⟨j, by omega, rfl⟩)
    simpa using this
  rw [idxI, ha, this]
  rfl
set_option maxHeartbeats 1000000 in
theorem indexI_any (A : Option Addr) (n c : Nat) (l : List Int) (x : Int) (w : World) (h : Ints w A n l) (hn : n ≤ maxLen) :
    Calls Try.prog 74 #[.slice A n c, .int .i64 x] w fun e w' => e = .returned (.int .i64 (idxI l x)) ∧ w = w' := by
  unfold maxLen at hn
  have hlen := h.len
  subst hlen
  have HH := Lib.hid h
  clear h
  go_enter Try.func74, Try.ntmps74
  go_wp2_with fail
  go_loop [8] (fun i => ∃ k : Nat, k ≤ l.length ∧ i = .int .i64 k ∧ ∀ y ∈ l.take k, y ≠ x) (fun i => l.length - (intOf i).toNat)
  case atStart => exact ⟨0, by omega, rfl, by simp⟩
  case round =>
    obtain ⟨k, hk, rfl, hall⟩ := hrel
    have HAll := Lib.hid hall
    clear hall
    by_cases hlt : k < l.length
    · obtain ⟨b, off, y, rfl, hb, hy, d0⟩ := Lst.int HH.out hlt
      by_cases hE : y = x
      · subst hE
        have HI := Lib.hid (idxI_at HAll.out hy)
        have e1 : (y == y) = true := by simp
        clear hy
        go_wp2_with fail
        go_ret
        exact ⟨ret_int HI.out.symm, rfl⟩
      · have e1 : (x == y) = false := by simpa using fun e => hE e.symm
        have HN := Lib.hid (take_all (P := fun z => z ≠ x) HAll.out hy hE)
        clear hy hE
        go_wp2_with fail
        go_round
        case rel => exact ⟨k + 1, by omega, by go_num, HN.out⟩
        case measure => simp [intOf]; omega
    · obtain rfl : k = l.length := by omega
      have HI := Lib.hid (idxI_no (l := l) (x := x) (by have := HAll.out; rwa [List.take_length] at this))
      go_wp2_with fail
      go_ret
      exact ⟨ret_int HI.out.symm, rfl⟩
theorem idxI_ge (l : List Int) (x : Int) : decide (0 ≤ idxI l x) = l.contains x := by
  unfold idxI
  cases l.contains x <;> simp
theorem containsI_any (A : Option Addr) (n c : Nat) (l : List Int) (x : Int) (w : World) (h : Ints w A n l) (hn : n ≤ maxLen) :
    Calls Try.prog 69 #[.slice A n c, .int .i64 x] w fun e w' => e = .returned (.bool (l.contains x)) ∧ w = w' := by
  have HI := Lib.hid (indexI_any A n c l x w h hn)
  have HG := Lib.hid (idxI_ge l x)
  obtain ⟨i, hi⟩ : ∃ i, i = idxI l x := ⟨_, rfl⟩
  rw [← hi] at HI HG
  clear h hi
  go_enter Try.func69, Try.ntmps69
  go_wp2_with fail
  refine HI.out.mono ?_
  rintro e w' ⟨rfl, rfl⟩
  go_wp2_with fail
  go_ret
  exact ⟨ret_bool HG.out, rfl⟩
end Go.Proofs.Ytdamocjbkdknaaa.FleetW
