/- One closed fact of the row: named. -/
import Derived.Test.YtacldkanfjaiiaaGreatDoorRows
namespace Go.Proofs.YtacldkanfjaiiaaGreatDoor
set_option maxRecDepth 100000
theorem kNa : (Rows.flowSeesRow.named == Tryz.prog.varsNamed 3) = true := by kernel_rfl
end Go.Proofs.YtacldkanfjaiiaaGreatDoor
