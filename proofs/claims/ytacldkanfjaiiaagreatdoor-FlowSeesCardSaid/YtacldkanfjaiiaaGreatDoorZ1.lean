/- One closed fact of the row: inPlace. -/
import Derived.Test.YtacldkanfjaiiaaGreatDoorRows
namespace Go.Proofs.YtacldkanfjaiiaaGreatDoor
set_option maxRecDepth 100000
theorem kIn : (Rows.flowSeesRow.inPlace == Tryz.prog.inPlace 3) = true := by kernel_rfl
end Go.Proofs.YtacldkanfjaiiaaGreatDoor
