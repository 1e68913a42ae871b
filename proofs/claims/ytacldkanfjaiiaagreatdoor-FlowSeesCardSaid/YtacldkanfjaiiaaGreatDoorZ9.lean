/- Closed facts of the row. -/
import Derived.Test.YtacldkanfjaiiaaGreatDoorRows
import Derived.JoinedCond
namespace Go.Proofs.YtacldkanfjaiiaaGreatDoor
set_option maxRecDepth 100000
theorem k26 : ((Rows.flowSeesRow.lifted == Tryz.prog.liftsFinal)) = true := by kernel_rfl
theorem k27 : ((Tryz.prog.make == some Rows.flowSeesRow.make)) = true := by kernel_rfl
theorem k28 : ((Rows.flowSeesRow.kinds == (if Rows.flowSeesRow.domain.isEmpty then [] else Tryz.f3.params.toList.map fun t => match Tryz.prog.underlying t with | some (.int k) => some k | _ => none))) = true := by kernel_rfl
theorem k29 : ((Rows.flowSeesRow.pinned == Rows.flowSeesRow.pinnedBy)) = true := by kernel_rfl
theorem k30 : ((Rows.flowSeesRow.veiled == (Tryz.f3.params.toList ++ Rows.flowSeesSpec.plain.varTypes Tryz.prog ++ Tryz.f3.resultTypes.toList).any (Tryz.prog.veiledRec ·))) = true := by kernel_rfl
theorem k31 : (Rows.flowSeesRow.veiledFits Tryz.prog Tryz.f3.params.toList (Tryz.f3.params.toList ++ Rows.flowSeesSpec.plain.varTypes Tryz.prog ++ Tryz.f3.resultTypes.toList)) = true := by kernel_rfl
end Go.Proofs.YtacldkanfjaiiaaGreatDoor
