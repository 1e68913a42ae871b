/- No function of the program starts a goroutine. -/
import Derived.Test.YtacldkanfjaiiaaGreatDoorProg
import GoSem.ClaimGoes
import Derived.KernelRfl
namespace Go.Proofs.YtacldkanfjaiiaaGreatDoor
set_option maxRecDepth 100000

theorem no_go : Tryz.prog.funcs.any Func.goes = false := by kernel_rfl

theorem none_goes (f : FuncId) : Tryz.prog.goes f = false := by
  have h : ∀ g : FuncId, (Tryz.prog.funcs[g]?).any Func.goes = false := fun g => by
    cases hg : Tryz.prog.funcs[g]? with
    | none => rfl
    | some fn =>
      have h1 := no_go
      rw [Array.any_eq_false'] at h1
      have h2 := h1 fn (Array.mem_of_getElem? hg)
      simpa using h2
  unfold Program.goes
  rw [no_go, Bool.and_false, Bool.or_false, List.any_eq_false]
  intro g _
  rw [h g]; decide
end Go.Proofs.YtacldkanfjaiiaaGreatDoor
