/-
  DERIVED. GIVEN WITH THE SEED: THE CARDS: each row of YtofjmnodfabohaaGreatDoorRows.lean that lists a variable, with what it lists TIED to the program's text (the seventh form; the later family's looks); each row that meets fmt, with fmt's text TOLD by the authors' own Lean function (tested against real Go, not proved from fmt's source: count such statements apart). THE CARD IS WHAT COUNTS. Prove the row's statement (the work); the ties are given (YtofjmnodfabohaaGreatDoorTie.lean); close each card by the builder's one call (the guide's Derived/Test/ToyasCard.lean, 'card_holds'). Laid BY PROGRAM, IN A SANDBOX (cutbox-door.mjs). By AI agents, Wed Nov 11 2026. No macro, syntax, notation, axiom, sorry.
-/
import Derived.Test.YtofjmnodfabohaaGreatDoorRows
import GoSem.ClaimSeven
namespace Go.Proofs.YtofjmnodfabohaaGreatDoor
namespace Rows

/-- THE TIED CARD OF 'arithmeticalaw.CurveShapes'. -/
def curveShapesCard : Claim7 := { stood := { row := curveShapesRow, standIns := [], harness := (true, "c8f28defdd7749a6b782fd187d08e2fb397802388edbdf80de387083e7ed79ab"), looks := false }, kinds := [], alts := [], laidByText := true, laidKinds := [.data], laidTests := true, laidLooks := .later }
def CurveShapesCardSaid : Prop := Claim7.holds Tryz.pinned (.plain (OpenSpec.ofChange curveShapesSpec)) curveShapesCard

/-- THE SECOND FORM's CARD OF 'arithmeticalaw.CurveShapes'. -/
def curveShapesUptoCard : Claim7 := { stood := { row := curveShapesUptoRow, standIns := [], harness := (true, "c8f28defdd7749a6b782fd187d08e2fb397802388edbdf80de387083e7ed79ab"), looks := false }, kinds := [], alts := [], laidByText := true, laidKinds := [.data], laidTests := true, laidLooks := .later }
def CurveShapesUptoCardSaid : Prop := Claim7.holds Tryz.pinned (.plain (OpenSpec.upto curveShapesSpec)) curveShapesUptoCard
end Rows
end Go.Proofs.YtofjmnodfabohaaGreatDoor
