/- Closed facts of the row. -/
import Derived.Test.YtacldkanfjaiiaaGreatDoorRows
import Derived.JoinedCond
namespace Go.Proofs.YtacldkanfjaiiaaGreatDoor
set_option maxRecDepth 100000
theorem k0 : (Rows.flowSeesRow.wf (OpenSpec.ofChange Rows.flowSeesSpec)) = true := by kernel_rfl
theorem k1 : (laidOutB Tryz.prog) = true := by kernel_rfl
theorem k2 : (mapsRowed Tryz.prog) = true := by kernel_rfl
theorem k3 : (Tryz.f3.params.all (Tryz.prog.readableRec ·)) = true := by kernel_rfl
theorem k4 : (namedTie Tryz.prog Rows.flowSeesRow.named Rows.flowSeesSpec.vars) = true := by kernel_rfl
theorem k5 : ((Rows.flowSeesRow.stops == [])) = true := by kernel_rfl
theorem k6 : ((Tryz.prog.stops == [])) = true := by kernel_rfl
theorem k7 : ((Rows.flowSeesRow.knobs == [])) = true := by kernel_rfl
theorem k8 : ((Tryz.prog.stopKnobs == [])) = true := by kernel_rfl
end Go.Proofs.YtacldkanfjaiiaaGreatDoor
