/-
  What is proved: quarantinelaw29.FlowSees returns true at every label and every list of replies, and both read behind the call as they did before it; the tables that the row lists are tied to the program's text. No condition beyond the form's own.
-/
import Derived.Test.YtacldkanfjaiiaaGreatDoorY0
import Derived.Test.YtacldkanfjaiiaaGreatDoorX
namespace Go.Proofs.YtacldkanfjaiiaaGreatDoor
set_option maxRecDepth 100000

theorem goesBy_not {P : Program} {c : OpenClaim} (h : ∀ f, P.goes f = false) (hs : c.start = .entering) : false = c.goesBy P := by
  unfold OpenClaim.goesBy Program.goesAt Program.goesFrom
  rw [hs]
  cases P.funcNamed c.func with
  | none => rfl
  | some f => simp [h f]

theorem flowSees_card : Rows.FlowSeesCardSaid :=
  Claim7.holds_tied_plain_at .later [] _ _ _ _ said (fun _ h => by cases h) (by kernel_rfl) (fun _ h => by cases h) flowSees_row_tie rfl ⟨rfl, rfl⟩ (by kernel_rfl) rfl plain (goesBy_not none_goes rfl)
end Go.Proofs.YtacldkanfjaiiaaGreatDoor
