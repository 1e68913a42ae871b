/- Closed facts of the row. -/
import Derived.Test.YtacldkanfjaiiaaGreatDoorRows
import Derived.JoinedCond
namespace Go.Proofs.YtacldkanfjaiiaaGreatDoor
set_option maxRecDepth 100000
theorem k24 : (Tryz.prog.stopsHeard) = true := by kernel_rfl
theorem k25 : (Tryz.prog.mayEnter) = true := by kernel_rfl
end Go.Proofs.YtacldkanfjaiiaaGreatDoor
