/- Parts of the proof. -/
import Derived.Test.YthfhilggbbobmaaGreatDoorRows
import Derived.JoinedOf
set_option linter.all false
set_option maxHeartbeats 20000000
namespace Go.Proofs.YthfhilggbbobmaaGreatDoor
end Go.Proofs.YthfhilggbbobmaaGreatDoor
section
namespace Go.Proofs.YthfhilggbbobmaaGreatDoor.topKilled
open Go.Proofs.Tryz
open Go
theorem pa:(Rows.topKilledRow.inPlace==prog.inPlace 4)=true:=by kernel_rfl
end Go.Proofs.YthfhilggbbobmaaGreatDoor.topKilled
end
namespace Go.Proofs.YthfhilggbbobmaaGreatDoor
end Go.Proofs.YthfhilggbbobmaaGreatDoor
