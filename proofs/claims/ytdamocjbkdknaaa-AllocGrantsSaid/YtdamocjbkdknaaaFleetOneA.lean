/-
  Contract of musterref12: One.
-/
import Derived.Test.YtdamocjbkdknaaaFleet
import Derived.BigGuardPart
namespace Go.Proofs.Ytdamocjbkdknaaa.FleetW
open Go.RowKit Mem Fleet
set_option linter.unusedVariables false
set_option linter.unusedSimpArgs false
set_option linter.unnecessarySimpa false

def OnePost (x : Nd) (act job now : Int) (w : World) (e : Ending) (w' : World) : Prop :=
  ∃ y : Nd, e = .returned (.tuple #[.agg #[.int .i64 y.st, .int .i64 y.jb, .int .i64 y.ep, .bool y.dr, .int .i64 y.wt, .int .i64 y.si, .int .i64 y.ak], .bool (mayB x act job)]) ∧ (fineN x = true → mayB x act job = true → y = doneN x act job now) ∧ Below w.heap.size w w'
abbrev OneC (x : Nd) (act job now : Int) (w : World) : Prop := Calls Try.prog 58 #[.agg #[.int .i64 x.st, .int .i64 x.jb, .int .i64 x.ep, .bool x.dr, .int .i64 x.wt, .int .i64 x.si, .int .i64 x.ak], .int .i64 act, .int .i64 job, .int .i64 now] w (OnePost x act job now w)
theorem back_job {st jb ep : Int} {dr : Bool} {wt si ak : Int} (h : fineN ⟨st, jb, ep, dr, wt, si, ak⟩ = true) (hs : st = 4) : jb = 0 := by
  have := body_cases.1 (fineN_iff.1 h).2.2.2.2
  simp at this
  omega
end Go.Proofs.Ytdamocjbkdknaaa.FleetW
