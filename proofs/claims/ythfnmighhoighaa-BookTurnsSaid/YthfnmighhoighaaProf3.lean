/-
  Contracts of muster/profile: slices.Clone, slices.Equal at steps, Same, Flat, the closure of Add.
-/
import Derived.Test.YthfnmighhoighaaProf2
import Derived.Test.YthfnmighhoighaaSlices
namespace Go.Proofs.Ythfnmighhoighaa.ProfW
open Go.RowKit Mem Prof
set_option linter.unusedVariables false

theorem layS : Lay stpRow 2 := ⟨fun _ => rfl, fun x u hu => by simp [stpRow] at hu; rcases hu with rfl | rfl <;> rfl, by omega⟩
abbrev StepsO := SOwn stpRow 2
theorem stepInfo : (Try.prog.info? 77).map (fun i => (i.zero, i.size, i.bytes)) = some (some (.agg #[.int .i64 0, .int .i64 0]), 2, 16) := by kernel_rfl
/-- a slice of steps, made new -/
def NewS (l : List Stp) (w : World) (e : Ending) (w' : World) : Prop := ∃ A c, e = .returned (.slice A l.length c) ∧ StepsO w' w.heap.size A l.length c l ∧ Below w.heap.size w w'

set_option maxHeartbeats 1000000 in
theorem clone_any (A : Option Addr) (n c : Nat) (p : List Stp) (w : World) (h : Steps w A n p) (hn : n ≤ 1000000) (hA : A = none → c = 0) :
    Calls Try.prog 60 #[.slice A n c] w (NewS p w) := by
  have hl := h.len
  subst hl
  cases A with
  | none =>
    have hp : p = [] := by
      cases p with
      | nil => rfl
      | cons x r => obtain ⟨b, off, _, e, _⟩ := h.at_ (i := 0) (by simp); cases e
    subst hp
    obtain rfl := hA rfl
    clear h hA hn
    have hnil := fun (w : World) => Lib.run_eql_slice_nil (P := Try.prog) w 56 77 none 0 0 0 0 Try.underlying56
    go_enter Try.func60, Try.ntmps60
    go_wp2_with fail
    go_ret
    exact ⟨none, 0, rfl, SOwn.nil _ _ _ _, Below.refl _ _⟩
  | some a =>
    obtain ⟨A', c', W', hrun, hown, hb, _, _⟩ := app_s layS (P := Try.prog) (w.alloc (.cells #[] 77)) w.heap.size 56 56 77 _ 16 Try.underlying56 stepInfo rfl (some ⟨w.heap.size, 0, none⟩) 0 0 [] (SOwn.none _ _ _ _ _) (some a) p.length c p (h.below ((Below.refl _ _).alloc (Nat.le_refl _) _)) (by simp [maxLen]; omega) (by omega) (by simp)
    simp only [Nat.zero_add, List.nil_append] at hrun hown
    have HR := Lib.hid hrun
    have hb2 := ((Below.refl w.heap.size w).alloc (Nat.le_refl _) (.cells #[] 77)).trans hb
    clear hrun hb h
    have hnil := fun (w : World) => Lib.run_eql_slice_nil (P := Try.prog) w 56 77 (some a) p.length c 0 0 Try.underlying56
    simp only [Option.isNone_some] at hnil
    go_enter Try.func60, Try.ntmps60
    go_wp2_with (at_builtin; refine wpList_app2 rfl _ _ rfl rfl rfl HR.out ?_)
    go_ret
    exact ⟨A', c', rfl, hown, hb2⟩

def clampT (n : Int) : Int := if n < -1000000 then -1000000 else if 1000000 < n then 1000000 else n
theorem flat_new (n : Int) (w : World) : NewS [(0, clampT n)] w (.returned (.slice (some ⟨w.heap.size, 0, none⟩) 1 1)) (w.alloc (.cells #[.int .i64 0, .int .i64 (clampT n)] 77)) := by
  refine ⟨_, 1, rfl, ⟨rfl, ?_⟩, (Below.refl _ _).alloc (Nat.le_refl _) _⟩
  exact OwnC.of_new w w.heap.size 2 _ #[.int .i64 0, .int .i64 (clampT n)] 1 (Nat.le_refl _) (by simp [maxLen]) (by simp)
end Go.Proofs.Ythfnmighhoighaa.ProfW
