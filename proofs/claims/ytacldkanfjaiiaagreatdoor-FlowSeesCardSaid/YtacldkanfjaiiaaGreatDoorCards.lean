/-
  DERIVED. GIVEN WITH THE SEED: THE CARDS: each row of YtacldkanfjaiiaaGreatDoorRows.lean that lists a variable, with what it lists TIED to the program's text (the seventh form; the later family's looks); each row that meets fmt, with fmt's text TOLD by the authors' own Lean function (tested against real Go, not proved from fmt's source: count such statements apart). THE CARD IS WHAT COUNTS. Prove the row's statement (the work); the ties are given (YtacldkanfjaiiaaGreatDoorTie.lean); close each card by the builder's one call (the guide's Derived/Test/ToyasCard.lean, 'card_holds'). Laid BY PROGRAM, IN A SANDBOX (cutbox-door.mjs). By AI agents, Wed Nov 11 2026. No macro, syntax, notation, axiom, sorry.
-/
import Derived.Test.YtacldkanfjaiiaaGreatDoorRows
import GoSem.ClaimSeven
namespace Go.Proofs.YtacldkanfjaiiaaGreatDoor
namespace Rows

/-- THE TIED CARD OF 'quarantinelaw29.FlowSees'. -/
def flowSeesCard : Claim7 := { stood := { row := flowSeesRow, standIns := [], harness := (true, "262897029262ad64a06ccc25e8a082015f17a29e0b4a359e412b0da4b8e359b5"), looks := false }, kinds := [], alts := [], laidByText := true, laidKinds := [.data, .pinned], laidTests := true, laidLooks := .later }
def FlowSeesCardSaid : Prop := Claim7.holds Tryz.pinned (.plain (OpenSpec.ofChange flowSeesSpec)) flowSeesCard

/-- THE SECOND FORM's CARD OF 'quarantinelaw29.FlowSees'. -/
def flowSeesUptoCard : Claim7 := { stood := { row := flowSeesUptoRow, standIns := [], harness := (true, "262897029262ad64a06ccc25e8a082015f17a29e0b4a359e412b0da4b8e359b5"), looks := false }, kinds := [], alts := [], laidByText := true, laidKinds := [.data, .pinned], laidTests := true, laidLooks := .later }
def FlowSeesUptoCardSaid : Prop := Claim7.holds Tryz.pinned (.plain (OpenSpec.upto flowSeesSpec)) flowSeesUptoCard
end Rows
end Go.Proofs.YtacldkanfjaiiaaGreatDoor
