/- Parts of the proof. -/
import Derived.Test.YthfhilggbbobmaaGreatDoorRows
import Derived.JoinedOf
set_option linter.all false
set_option maxHeartbeats 20000000
namespace Go.Proofs.YthfhilggbbobmaaGreatDoor
end Go.Proofs.YthfhilggbbobmaaGreatDoor
section
namespace Go.Proofs.YthfhilggbbobmaaGreatDoor.topEnds
open Go.Proofs.Tryz
open Go
theorem km:(Rows.topEndsRow.unfollowed==prog.unfollowed 3)=true:=by kernel_rfl
end Go.Proofs.YthfhilggbbobmaaGreatDoor.topEnds
end
namespace Go.Proofs.YthfhilggbbobmaaGreatDoor
end Go.Proofs.YthfhilggbbobmaaGreatDoor
