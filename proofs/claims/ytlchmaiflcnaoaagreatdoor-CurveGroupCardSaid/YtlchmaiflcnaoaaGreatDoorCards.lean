/-
  DERIVED. GIVEN WITH THE SEED: THE CARDS: each row of YtlchmaiflcnaoaaGreatDoorRows.lean that lists a variable, with what it lists TIED to the program's text (the seventh form; the later family's looks); each row that meets fmt, with fmt's text TOLD by the authors' own Lean function (tested against real Go, not proved from fmt's source: count such statements apart). THE CARD IS WHAT COUNTS. Prove the row's statement (the work); the ties are given (YtlchmaiflcnaoaaGreatDoorTie.lean); close each card by the builder's one call (the guide's Derived/Test/ToyasCard.lean, 'card_holds'). Laid BY PROGRAM, IN A SANDBOX (cutbox-door.mjs). By AI agents, Wed Nov 11 2026. No macro, syntax, notation, axiom, sorry.
-/
import Derived.Test.YtlchmaiflcnaoaaGreatDoorRows
import GoSem.ClaimSeven
namespace Go.Proofs.YtlchmaiflcnaoaaGreatDoor
namespace Rows

/-- THE TIED CARD OF 'arithmeticalaw.PrimeCounts'. -/
def primeCountsCard : Claim7 := { stood := { row := primeCountsRow, standIns := [], harness := (true, "a6b85029a999688c00f31e9866abc9c05aaeea6f7b6a68526b1f80f16dcf21fa"), looks := false }, kinds := [], alts := [], goes := true, laidByText := true, laidKinds := [.data], laidTests := true, laidLooks := .later }
def PrimeCountsCardSaid : Prop := Claim7.holds Tryz.pinned (.plain (OpenSpec.ofChange primeCountsSpec)) primeCountsCard

/-- THE TIED CARD OF 'arithmeticalaw.CurvePoints'. -/
def curvePointsCard : Claim7 := { stood := { row := curvePointsRow, standIns := [], harness := (true, "a6b85029a999688c00f31e9866abc9c05aaeea6f7b6a68526b1f80f16dcf21fa"), looks := false }, kinds := [], alts := [], goes := true, laidByText := true, laidKinds := [.data], laidTests := true, laidLooks := .later }
def CurvePointsCardSaid : Prop := Claim7.holds Tryz.pinned (.plain (OpenSpec.ofChange curvePointsSpec)) curvePointsCard

/-- THE TIED CARD OF 'arithmeticalaw.CurveGroup'. -/
def curveGroupCard : Claim7 := { stood := { row := curveGroupRow, standIns := [], harness := (true, "a6b85029a999688c00f31e9866abc9c05aaeea6f7b6a68526b1f80f16dcf21fa"), looks := false }, kinds := [], alts := [], goes := true, laidByText := true, laidKinds := [.data], laidTests := true, laidLooks := .later }
def CurveGroupCardSaid : Prop := Claim7.holds Tryz.pinned (.plain (OpenSpec.ofChange curveGroupSpec)) curveGroupCard

/-- THE TIED CARD OF 'arithmeticalaw.CurveAdds'. -/
def curveAddsCard : Claim7 := { stood := { row := curveAddsRow, standIns := [], harness := (true, "a6b85029a999688c00f31e9866abc9c05aaeea6f7b6a68526b1f80f16dcf21fa"), looks := false }, kinds := [], alts := [], goes := true, laidByText := true, laidKinds := [.data], laidTests := true, laidLooks := .later }
def CurveAddsCardSaid : Prop := Claim7.holds Tryz.pinned (.plain (OpenSpec.ofChange curveAddsSpec)) curveAddsCard

/-- THE SECOND FORM's CARD OF 'arithmeticalaw.CurvePoints'. -/
def curvePointsUptoCard : Claim7 := { stood := { row := curvePointsUptoRow, standIns := [], harness := (true, "a6b85029a999688c00f31e9866abc9c05aaeea6f7b6a68526b1f80f16dcf21fa"), looks := false }, kinds := [], alts := [], goes := true, laidByText := true, laidKinds := [.data], laidTests := true, laidLooks := .later }
def CurvePointsUptoCardSaid : Prop := Claim7.holds Tryz.pinned (.plain (OpenSpec.upto curvePointsSpec)) curvePointsUptoCard

/-- THE SECOND FORM's CARD OF 'arithmeticalaw.CurveGroup'. -/
def curveGroupUptoCard : Claim7 := { stood := { row := curveGroupUptoRow, standIns := [], harness := (true, "a6b85029a999688c00f31e9866abc9c05aaeea6f7b6a68526b1f80f16dcf21fa"), looks := false }, kinds := [], alts := [], goes := true, laidByText := true, laidKinds := [.data], laidTests := true, laidLooks := .later }
def CurveGroupUptoCardSaid : Prop := Claim7.holds Tryz.pinned (.plain (OpenSpec.upto curveGroupSpec)) curveGroupUptoCard

/-- THE SECOND FORM's CARD OF 'arithmeticalaw.CurveAdds'. -/
def curveAddsUptoCard : Claim7 := { stood := { row := curveAddsUptoRow, standIns := [], harness := (true, "a6b85029a999688c00f31e9866abc9c05aaeea6f7b6a68526b1f80f16dcf21fa"), looks := false }, kinds := [], alts := [], goes := true, laidByText := true, laidKinds := [.data], laidTests := true, laidLooks := .later }
def CurveAddsUptoCardSaid : Prop := Claim7.holds Tryz.pinned (.plain (OpenSpec.upto curveAddsSpec)) curveAddsUptoCard
end Rows
end Go.Proofs.YtlchmaiflcnaoaaGreatDoor
