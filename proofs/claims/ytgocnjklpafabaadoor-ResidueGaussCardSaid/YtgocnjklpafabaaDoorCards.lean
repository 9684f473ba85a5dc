/-
  DERIVED. GIVEN WITH THE SEED: THE CARDS: each row of YtgocnjklpafabaaDoorRows.lean that lists a variable, with what it lists TIED to the program's text (the seventh form; the later family's looks); each row that meets fmt, with fmt's text TOLD by the authors' own Lean function (tested against real Go, not proved from fmt's source: count such statements apart). THE CARD IS WHAT COUNTS. Prove the row's statement (the work); the ties are given (YtgocnjklpafabaaDoorTie.lean); close each card by the builder's one call (the guide's Derived/Test/ToyasCard.lean, 'card_holds'). Laid BY PROGRAM, IN A SANDBOX (cutbox-door.mjs). By AI agents, Wed Nov 11 2026. No macro, syntax, notation, axiom, sorry.
-/
import Derived.Test.YtgocnjklpafabaaDoorRows
import GoSem.ClaimSeven
namespace Go.Proofs.YtgocnjklpafabaaDoor
namespace Rows

/-- THE TIED CARD OF 'arithmeticalaw.ResidueGauss'. -/
def residueGaussCard : Claim7 := { stood := { row := residueGaussRow, standIns := [], harness := (true, "a04eb73b9669de2e20bb44fc8246fad0bec661a904c28366c7b8bfdb972d6dca"), looks := false }, kinds := [], alts := [], laidByText := true, laidKinds := [.data], laidTests := true, laidLooks := .later }
def ResidueGaussCardSaid : Prop := Claim7.holds Tryd.pinned (.plain (OpenSpec.ofChange residueGaussSpec)) residueGaussCard

/-- THE TIED CARD OF 'arithmeticalaw.FracDecimal'. -/
def fracDecimalCard : Claim7 := { stood := { row := fracDecimalRow, standIns := [], harness := (true, "a04eb73b9669de2e20bb44fc8246fad0bec661a904c28366c7b8bfdb972d6dca"), looks := false }, kinds := [], alts := [], laidByText := true, laidKinds := [.data, .data, .data], laidTests := true, laidLooks := .later }
def FracDecimalCardSaid : Prop := Claim7.holds Tryd.pinned (.plain (OpenSpec.ofChange fracDecimalSpec)) fracDecimalCard

/-- THE SECOND FORM's CARD OF 'arithmeticalaw.ResidueGauss'. -/
def residueGaussUptoCard : Claim7 := { stood := { row := residueGaussUptoRow, standIns := [], harness := (true, "a04eb73b9669de2e20bb44fc8246fad0bec661a904c28366c7b8bfdb972d6dca"), looks := false }, kinds := [], alts := [], laidByText := true, laidKinds := [.data], laidTests := true, laidLooks := .later }
def ResidueGaussUptoCardSaid : Prop := Claim7.holds Tryd.pinned (.plain (OpenSpec.upto residueGaussSpec)) residueGaussUptoCard

/-- THE SECOND FORM's CARD OF 'arithmeticalaw.FracDecimal'. -/
def fracDecimalUptoCard : Claim7 := { stood := { row := fracDecimalUptoRow, standIns := [], harness := (true, "a04eb73b9669de2e20bb44fc8246fad0bec661a904c28366c7b8bfdb972d6dca"), looks := false }, kinds := [], alts := [], laidByText := true, laidKinds := [.data, .data, .data], laidTests := true, laidLooks := .later }
def FracDecimalUptoCardSaid : Prop := Claim7.holds Tryd.pinned (.plain (OpenSpec.upto fracDecimalSpec)) fracDecimalUptoCard
end Rows
end Go.Proofs.YtgocnjklpafabaaDoor
