/- One closed fact of the row: recurses. -/
import Derived.Test.YtacldkanfjaiiaaGreatDoorRows
namespace Go.Proofs.YtacldkanfjaiiaaGreatDoor
set_option maxRecDepth 100000
theorem kRe : (Rows.flowSeesRow.recurses == Tryz.prog.recurses 3) = true := by kernel_rfl
end Go.Proofs.YtacldkanfjaiiaaGreatDoor
