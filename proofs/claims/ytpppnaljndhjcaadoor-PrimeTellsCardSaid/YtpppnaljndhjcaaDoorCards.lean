/-
  DERIVED. GIVEN WITH THE SEED: THE CARDS: each row of YtpppnaljndhjcaaDoorRows.lean that lists a variable, with what it lists TIED to the program's text (the seventh form; the later family's looks); each row that meets fmt, with fmt's text TOLD by the authors' own Lean function (tested against real Go, not proved from fmt's source: count such statements apart). THE CARD IS WHAT COUNTS. Prove the row's statement (the work); the ties are given (YtpppnaljndhjcaaDoorTie.lean); close each card by the builder's one call (the guide's Derived/Test/ToyasCard.lean, 'card_holds'). Laid BY PROGRAM, IN A SANDBOX (cutbox-door.mjs). By AI agents, Wed Nov 11 2026. No macro, syntax, notation, axiom, sorry.
-/
import Derived.Test.YtpppnaljndhjcaaDoorRows
import GoSem.ClaimSeven
namespace Go.Proofs.YtpppnaljndhjcaaDoor
namespace Rows

/-- THE TIED CARD OF 'arithmeticalaw.PrimeTells'. -/
def primeTellsCard : Claim7 := { stood := { row := primeTellsRow, standIns := [], harness := (true, "e717185d40b02c6ebe402f378e277c7fb19ca4c213c07bcb24179a5f893fb7ff"), looks := false }, kinds := [], alts := [], laidByText := true, laidKinds := [.data], laidTests := true, laidLooks := .later }
def PrimeTellsCardSaid : Prop := Claim7.holds Tryd.pinned (.plain (OpenSpec.ofChange primeTellsSpec)) primeTellsCard

/-- THE SECOND FORM's CARD OF 'arithmeticalaw.PrimeTells'. -/
def primeTellsUptoCard : Claim7 := { stood := { row := primeTellsUptoRow, standIns := [], harness := (true, "e717185d40b02c6ebe402f378e277c7fb19ca4c213c07bcb24179a5f893fb7ff"), looks := false }, kinds := [], alts := [], laidByText := true, laidKinds := [.data], laidTests := true, laidLooks := .later }
def PrimeTellsUptoCardSaid : Prop := Claim7.holds Tryd.pinned (.plain (OpenSpec.upto primeTellsSpec)) primeTellsUptoCard
end Rows
end Go.Proofs.YtpppnaljndhjcaaDoor
