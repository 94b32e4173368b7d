/- Parts of the proof. -/
import Derived.Test.YthfhilggbbobmaaGreatDoorK16
set_option linter.all false
set_option maxHeartbeats 20000000
namespace Go.Proofs.YthfhilggbbobmaaGreatDoor
open Go.Proofs.Tryz
open Go.RowKit

end Go.Proofs.YthfhilggbbobmaaGreatDoor
