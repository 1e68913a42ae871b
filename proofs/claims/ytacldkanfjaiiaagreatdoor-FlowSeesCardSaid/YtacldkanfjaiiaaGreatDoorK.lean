/- New: post, part, lock, txn. -/
import Derived.Test.YtacldkanfjaiiaaGreatDoorF
import Derived.Test.YtacldkanfjaiiaaGreatDoorS
namespace Go.Proofs.YtacldkanfjaiiaaGreatDoor
open Go.RowKit
set_option maxRecDepth 100000

set_option maxHeartbeats 400000 in
theorem postNew_any (w : World) :
    Calls Tryz.prog 40 #[.int .i64 16] w fun e w' => e = .returned (.pointer (some ⟨w.heap.size + 1, 0, none⟩)) ∧
      w' = (w.alloc (.chan 16 #[] false 0 0 false)).alloc (.cells #[.chan (some w.heap.size), .slice none 0 0] 120) := by
  have hmc : ∀ w : World, (Instr.makeChan 117 (.int .i64 16)).run Tryz.prog w = .ok (.chan (some w.heap.size)) (w.alloc (.chan 16 #[] false 0 0 false)) := fun _ => by kernel_rfl
  go_enter Tryz.func40, Tryz.ntmps40
  go_wp2
  go_ret
  exact ⟨rfl, rfl⟩

set_option maxHeartbeats 400000 in
theorem partNew_any (q : Int) (w : World) :
    Calls Tryz.prog 41 #[.int .i64 q] w fun e w' => e = .returned (.pointer (some ⟨w.heap.size, 0, none⟩)) ∧ w' = w.alloc (.cells #[.int .i64 q, .slice none 0 0] 123) := by
  go_enter Tryz.func41, Tryz.ntmps41
  go_wp2
  go_ret
  exact ⟨rfl, rfl⟩

set_option maxHeartbeats 400000 in
theorem lockNew_any (w : World) :
    Calls Tryz.prog 42 #[] w fun e w' => e = .returned (.pointer (some ⟨w.heap.size, 0, none⟩)) ∧ w' = w.alloc (.cells #[.map none] 126) := by
  go_enter Tryz.func42, Tryz.ntmps42
  go_wp2
  go_ret
  exact ⟨rfl, rfl⟩

set_option maxHeartbeats 400000 in
theorem txnNew_any (q : Int) (w : World) :
    Calls Tryz.prog 26 #[.int .i64 q] w fun e w' => e = .returned (.pointer (some ⟨w.heap.size + 4, 0, none⟩)) ∧
      w' = ((((w.alloc (.cells #[.int .i64 q, .slice none 0 0] 123)).alloc (.cells #[.map none] 126)).alloc (.map #[] 0)).alloc (.map #[] 0)).alloc
        (.cells #[.int .i64 q, .slice none 0 0, .slice none 0 0, .pointer (some ⟨w.heap.size, 0, none⟩), .pointer (some ⟨w.heap.size + 1, 0, none⟩), .map (some (w.heap.size + 2)), .map (some (w.heap.size + 3))] 100) := by
  have hmm := @run_makeMap Tryz.prog
  go_enter Tryz.func26, Tryz.ntmps26
  go_wp2_with (first
    | (go_at_call 41; refine (partNew_any q _).mono ?_; rintro e w' ⟨rfl, rfl⟩)
    | (go_at_call 42; refine (lockNew_any _).mono ?_; rintro e w' ⟨rfl, rfl⟩))
  go_ret
  exact ⟨rfl, rfl⟩
end Go.Proofs.YtacldkanfjaiiaaGreatDoor
