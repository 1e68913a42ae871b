/- The closed facts of the row, together. -/
import Derived.Test.YtacldkanfjaiiaaGreatDoorZ1
import Derived.Test.YtacldkanfjaiiaaGreatDoorZ2
import Derived.Test.YtacldkanfjaiiaaGreatDoorZ3
import Derived.Test.YtacldkanfjaiiaaGreatDoorZ4
import Derived.Test.YtacldkanfjaiiaaGreatDoorZ6
import Derived.Test.YtacldkanfjaiiaaGreatDoorZ7
import Derived.Test.YtacldkanfjaiiaaGreatDoorZ8
import Derived.Test.YtacldkanfjaiiaaGreatDoorZ9
import Derived.JoinedCond
namespace Go.Proofs.YtacldkanfjaiiaaGreatDoor
set_option maxRecDepth 100000
theorem and2 {a b : Bool} (ha : a = true) (hb : b = true) : (a && b) = true := by rw [ha, hb]; rfl
theorem facts : joinedFacts Tryz.prog 3 Tryz.f3 Rows.flowSeesSpec Rows.flowSeesRow = true := by
  unfold joinedFacts
  exact and2 (and2 (and2 (and2 (and2 (and2 (and2 (and2 (and2 (and2 (and2 (and2 (and2 (and2 (and2 (and2 (and2 (and2 (and2 (and2 (and2 (and2 (and2 (and2 (and2 (and2 (and2 (and2 (and2 (and2 (and2 (k0) k1) k2) k3) k4) k5) k6) k7) k8) kIn) kUn) kRe) kNa) k13) k14) k15) k16) k17) k18) k19) k20) k21) k22) k23) k24) k25) k26) k27) k28) k29) k30) k31
end Go.Proofs.YtacldkanfjaiiaaGreatDoor
