/-
  Contract of musterref12.One.
-/
import Derived.Test.YtdamocjbkdknaaaFleetOneB
import Derived.Test.YtdamocjbkdknaaaFleetOneC
import Derived.Test.YtdamocjbkdknaaaFleetOneD
namespace Go.Proofs.Ytdamocjbkdknaaa.FleetW
open Go.RowKit Mem Fleet
set_option linter.unusedVariables false
set_option linter.unusedSimpArgs false
set_option linter.unnecessarySimpa false

theorem rone_any (x : Nd) (act job now : Int) (w : World) (he : x.ep ≤ 999999999) (he' : 0 ≤ x.ep) : OneC x act job now w := by
  by_cases a1 : act = 1
  · subst a1; exact one_1 x job now w he he'
  by_cases a2 : act = 2
  · subst a2; exact one_2 x job now w he he'
  by_cases a3 : act = 3
  · subst a3; exact one_3 x job now w he he'
  by_cases a4 : act = 4
  · subst a4; exact one_4 x job now w he he'
  by_cases a5 : act = 5
  · subst a5; exact one_5 x job now w he he'
  by_cases a6 : act = 6
  · subst a6; exact one_6 x job now w he he'
  by_cases a7 : act = 7
  · subst a7; exact one_7 x job now w he he'
  by_cases a8 : act = 8
  · subst a8; exact one_8 x job now w he he'
  by_cases a9 : act = 9
  · subst a9; exact one_9 x job now w he he'
  by_cases a10 : act = 10
  · subst a10; exact one_10 x job now w he he'
  by_cases a11 : act = 11
  · subst a11; exact one_11 x job now w he he'
  by_cases a12 : act = 12
  · subst a12; exact one_12 x job now w he he'
  by_cases a13 : act = 13
  · subst a13; exact one_13 x job now w he he'
  exact one_o x act job now w he he' a1 a2 a3 a4 a5 a6 a7 a8 a9 a10 a11 a12 a13
end Go.Proofs.Ytdamocjbkdknaaa.FleetW
