/-
  DERIVED. GIVEN WITH THE SEED: THE CARDS: each row of YtonclhchbgmaiaaGreatDoorRows.lean that lists a variable, with what it lists TIED to the program's text (the seventh form; the later family's looks); each row that meets fmt, with fmt's text TOLD by the authors' own Lean function (tested against real Go, not proved from fmt's source: count such statements apart). THE CARD IS WHAT COUNTS. Prove the row's statement (the work); the ties are given (YtonclhchbgmaiaaGreatDoorTie.lean); close each card by the builder's one call (the guide's Derived/Test/ToyasCard.lean, 'card_holds'). Laid BY PROGRAM, IN A SANDBOX (cutbox-door.mjs). By AI agents, Wed Nov 11 2026. No macro, syntax, notation, axiom, sorry.
-/
import Derived.Test.YtonclhchbgmaiaaGreatDoorRows
import GoSem.ClaimSeven
namespace Go.Proofs.YtonclhchbgmaiaaGreatDoor
namespace Rows

/-- THE TIED CARD OF 'arithmeticalaw.CurvePoints'. -/
def curvePointsCard : Claim7 := { stood := { row := curvePointsRow, standIns := [], harness := (true, "4ada0f207cc9bf0169dd4d4e74566ef51ba26797eee46eee5fe5797a6a87ff0e"), looks := false }, kinds := [], alts := [], laidByText := true, laidKinds := [.data], laidTests := true, laidLooks := .later }
def CurvePointsCardSaid : Prop := Claim7.holds Tryz.pinned (.plain (OpenSpec.ofChange curvePointsSpec)) curvePointsCard

/-- THE TIED CARD OF 'arithmeticalaw.CurveAdds'. -/
def curveAddsCard : Claim7 := { stood := { row := curveAddsRow, standIns := [], harness := (true, "4ada0f207cc9bf0169dd4d4e74566ef51ba26797eee46eee5fe5797a6a87ff0e"), looks := false }, kinds := [], alts := [], laidByText := true, laidKinds := [.data], laidTests := true, laidLooks := .later }
def CurveAddsCardSaid : Prop := Claim7.holds Tryz.pinned (.plain (OpenSpec.ofChange curveAddsSpec)) curveAddsCard

/-- THE SECOND FORM's CARD OF 'arithmeticalaw.CurvePoints'. -/
def curvePointsUptoCard : Claim7 := { stood := { row := curvePointsUptoRow, standIns := [], harness := (true, "4ada0f207cc9bf0169dd4d4e74566ef51ba26797eee46eee5fe5797a6a87ff0e"), looks := false }, kinds := [], alts := [], laidByText := true, laidKinds := [.data], laidTests := true, laidLooks := .later }
def CurvePointsUptoCardSaid : Prop := Claim7.holds Tryz.pinned (.plain (OpenSpec.upto curvePointsSpec)) curvePointsUptoCard

/-- THE SECOND FORM's CARD OF 'arithmeticalaw.CurveAdds'. -/
def curveAddsUptoCard : Claim7 := { stood := { row := curveAddsUptoRow, standIns := [], harness := (true, "4ada0f207cc9bf0169dd4d4e74566ef51ba26797eee46eee5fe5797a6a87ff0e"), looks := false }, kinds := [], alts := [], laidByText := true, laidKinds := [.data], laidTests := true, laidLooks := .later }
def CurveAddsUptoCardSaid : Prop := Claim7.holds Tryz.pinned (.plain (OpenSpec.upto curveAddsSpec)) curveAddsUptoCard
end Rows
end Go.Proofs.YtonclhchbgmaiaaGreatDoor
