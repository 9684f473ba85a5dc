/-
  DERIVED. GIVEN WITH THE SEED: THE CARDS: each row of YtojehmmkdkfkjaaGreatDoorRows.lean that lists a variable, with what it lists TIED to the program's text (the seventh form; the later family's looks); each row that meets fmt, with fmt's text TOLD by the authors' own Lean function (tested against real Go, not proved from fmt's source: count such statements apart). THE CARD IS WHAT COUNTS. Prove the row's statement (the work); the ties are given (YtojehmmkdkfkjaaGreatDoorTie.lean); close each card by the builder's one call (the guide's Derived/Test/ToyasCard.lean, 'card_holds'). Laid BY PROGRAM, IN A SANDBOX (cutbox-door.mjs). By AI agents, Wed Nov 11 2026. No macro, syntax, notation, axiom, sorry.
-/
import Derived.Test.YtojehmmkdkfkjaaGreatDoorRows
import GoSem.ClaimSeven
namespace Go.Proofs.YtojehmmkdkfkjaaGreatDoor
namespace Rows

/-- THE TIED CARD OF 'arithmeticalaw.FracRows'. -/
def fracRowsCard : Claim7 := { stood := { row := fracRowsRow, standIns := [], harness := (true, "052cc22475a5d0a2573def6abd36f26e9bf54768047b059eac94d14f932799d4"), looks := false }, kinds := [], alts := [], laidByText := true, laidKinds := [.data, .data, .data], laidTests := true, laidLooks := .later }
def FracRowsCardSaid : Prop := Claim7.holds Tryz.pinned (.plain (OpenSpec.ofChange fracRowsSpec)) fracRowsCard

/-- THE SECOND FORM's CARD OF 'arithmeticalaw.FracRows'. -/
def fracRowsUptoCard : Claim7 := { stood := { row := fracRowsUptoRow, standIns := [], harness := (true, "052cc22475a5d0a2573def6abd36f26e9bf54768047b059eac94d14f932799d4"), looks := false }, kinds := [], alts := [], laidByText := true, laidKinds := [.data, .data, .data], laidTests := true, laidLooks := .later }
def FracRowsUptoCardSaid : Prop := Claim7.holds Tryz.pinned (.plain (OpenSpec.upto fracRowsSpec)) fracRowsUptoCard
end Rows
end Go.Proofs.YtojehmmkdkfkjaaGreatDoor
