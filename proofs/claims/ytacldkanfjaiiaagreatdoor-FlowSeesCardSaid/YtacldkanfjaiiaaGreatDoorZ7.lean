/- Closed facts of the row. -/
import Derived.Test.YtacldkanfjaiiaaGreatDoorRows
import Derived.JoinedCond
namespace Go.Proofs.YtacldkanfjaiiaaGreatDoor
set_option maxRecDepth 100000
theorem k13 : ((Rows.flowSeesRow.maps == (Tryz.f3.params.toList ++ Rows.flowSeesSpec.plain.varTypes Tryz.prog).any (Tryz.prog.mapsRec ·))) = true := by kernel_rfl
theorem k14 : ((Rows.flowSeesRow.ifaces == (Tryz.f3.params.toList ++ Rows.flowSeesSpec.plain.varTypes Tryz.prog).any (Tryz.prog.ifacesRec ·))) = true := by kernel_rfl
theorem k15 : ((Rows.flowSeesRow.mapsOut == Tryz.prog.mapsAmong Tryz.f3.resultTypes.toList)) = true := by kernel_rfl
theorem k16 : ((Rows.flowSeesRow.loops == (Tryz.f3.params.toList ++ Rows.flowSeesSpec.plain.varTypes Tryz.prog).any (Tryz.prog.loopsFrom ·))) = true := by kernel_rfl
theorem k17 : ((Rows.flowSeesRow.wideKeys == (Tryz.f3.params.toList ++ Rows.flowSeesSpec.plain.varTypes Tryz.prog ++ Tryz.f3.resultTypes.toList).any (Tryz.prog.wideKeysFrom ·))) = true := by kernel_rfl
theorem k18 : (Rows.flowSeesSpec.vars.all (Tryz.prog.varReadable ·)) = true := by kernel_rfl
theorem k19 : (Tryz.f3.resultTypes.all (fun t => Tryz.prog.readableRec t && decide (t < Tryz.prog.types.size))) = true := by kernel_rfl
theorem k20 : ((Rows.flowSeesRow.ifacesOut == Tryz.f3.resultTypes.toList.any (Tryz.prog.ifacesRec ·))) = true := by kernel_rfl
theorem k21 : ((Rows.flowSeesRow.loopsOut == Tryz.f3.resultTypes.toList.any (Tryz.prog.loopsFrom ·))) = true := by kernel_rfl
theorem k22 : ((Rows.flowSeesRow.plainKeys == Tryz.prog.plainKeys)) = true := by kernel_rfl
theorem k23 : (Rows.flowSeesRow.shortTexts.isNone) = true := by kernel_rfl
end Go.Proofs.YtacldkanfjaiiaaGreatDoor
