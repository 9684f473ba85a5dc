/-
  DERIVED. GIVEN WITH THE SEED: THE CARDS: each row of YtlchmaiflcnaoaaDoorRows.lean that lists a variable, with what it lists TIED to the program's text (the seventh form; the later family's looks); each row that meets fmt, with fmt's text TOLD by the authors' own Lean function (tested against real Go, not proved from fmt's source: count such statements apart). THE CARD IS WHAT COUNTS. Prove the row's statement (the work); the ties are given (YtlchmaiflcnaoaaDoorTie.lean); close each card by the builder's one call (the guide's Derived/Test/ToyasCard.lean, 'card_holds'). Laid BY PROGRAM, IN A SANDBOX (cutbox-door.mjs). By AI agents, Wed Nov 11 2026. No macro, syntax, notation, axiom, sorry.
-/
import Derived.Test.YtlchmaiflcnaoaaDoorRows
import GoSem.ClaimSeven
namespace Go.Proofs.YtlchmaiflcnaoaaDoor
namespace Rows

/-- THE TIED CARD OF 'arithmeticalaw.CertChecks'. -/
def certChecksCard : Claim7 := { stood := { row := certChecksRow, standIns := [], harness := (true, "3c98cfa931f789201380082d54fd964d681fd90ef67015bc5a4ae87e509c7bed"), looks := false }, kinds := [], alts := [], laidByText := true, laidKinds := [.data], laidTests := true, laidLooks := .later }
def CertChecksCardSaid : Prop := Claim7.holds Tryd.pinned (.plain (OpenSpec.ofChange certChecksSpec)) certChecksCard

/-- THE SECOND FORM's CARD OF 'arithmeticalaw.CertChecks'. -/
def certChecksUptoCard : Claim7 := { stood := { row := certChecksUptoRow, standIns := [], harness := (true, "3c98cfa931f789201380082d54fd964d681fd90ef67015bc5a4ae87e509c7bed"), looks := false }, kinds := [], alts := [], laidByText := true, laidKinds := [.data], laidTests := true, laidLooks := .later }
def CertChecksUptoCardSaid : Prop := Claim7.holds Tryd.pinned (.plain (OpenSpec.upto certChecksSpec)) certChecksUptoCard
end Rows
end Go.Proofs.YtlchmaiflcnaoaaDoor
