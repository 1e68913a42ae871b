/- One closed fact of the row: unfollowed. -/
import Derived.Test.YtacldkanfjaiiaaGreatDoorRows
namespace Go.Proofs.YtacldkanfjaiiaaGreatDoor
set_option maxRecDepth 100000
theorem kUn : (Rows.flowSeesRow.unfollowed == Tryz.prog.unfollowed 3) = true := by kernel_rfl
end Go.Proofs.YtacldkanfjaiiaaGreatDoor
