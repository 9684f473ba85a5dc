/-
  DERIVED. GIVEN WITH THE SEED: THE CARDS: each row of YticgnjapgbjfiaaDoorRows.lean that lists a variable, with what it lists TIED to the program's text (the seventh form; the later family's looks); each row that meets fmt, with fmt's text TOLD by the authors' own Lean function (tested against real Go, not proved from fmt's source: count such statements apart). THE CARD IS WHAT COUNTS. Prove the row's statement (the work); the ties are given (YticgnjapgbjfiaaDoorTie.lean); close each card by the builder's one call (the guide's Derived/Test/ToyasCard.lean, 'card_holds'). Laid BY PROGRAM, IN A SANDBOX (cutbox-door.mjs). By AI agents, Wed Nov 11 2026. No macro, syntax, notation, axiom, sorry.
-/
import Derived.Test.YticgnjapgbjfiaaDoorRows
import GoSem.ClaimSeven
namespace Go.Proofs.YticgnjapgbjfiaaDoor
namespace Rows

/-- THE TIED CARD OF 'arithmeticalaw.PadicHensel'. -/
def padicHenselCard : Claim7 := { stood := { row := padicHenselRow, standIns := [], harness := (true, "6914747653cf28a2577b0f005aefb35c22cef3d745105bcee1c1e85f264e7220"), looks := false }, kinds := [], alts := [], laidByText := true, laidKinds := [.data], laidTests := true, laidLooks := .later }
def PadicHenselCardSaid : Prop := Claim7.holds Tryd.pinned (.plain (OpenSpec.ofChange padicHenselSpec)) padicHenselCard

/-- THE TIED CARD OF 'arithmeticalaw.PadicDigits'. -/
def padicDigitsCard : Claim7 := { stood := { row := padicDigitsRow, standIns := [], harness := (true, "6914747653cf28a2577b0f005aefb35c22cef3d745105bcee1c1e85f264e7220"), looks := false }, kinds := [], alts := [], laidByText := true, laidKinds := [.data], laidTests := true, laidLooks := .later }
def PadicDigitsCardSaid : Prop := Claim7.holds Tryd.pinned (.plain (OpenSpec.ofChange padicDigitsSpec)) padicDigitsCard

/-- THE TIED CARD OF 'arithmeticalaw.PrimeFactors'. -/
def primeFactorsCard : Claim7 := { stood := { row := primeFactorsRow, standIns := [], harness := (true, "6914747653cf28a2577b0f005aefb35c22cef3d745105bcee1c1e85f264e7220"), looks := false }, kinds := [], alts := [], laidByText := true, laidKinds := [.data], laidTests := true, laidLooks := .later }
def PrimeFactorsCardSaid : Prop := Claim7.holds Tryd.pinned (.plain (OpenSpec.ofChange primeFactorsSpec)) primeFactorsCard

/-- THE TIED CARD OF 'arithmeticalaw.PadicRoots'. -/
def padicRootsCard : Claim7 := { stood := { row := padicRootsRow, standIns := [], harness := (true, "6914747653cf28a2577b0f005aefb35c22cef3d745105bcee1c1e85f264e7220"), looks := false }, kinds := [], alts := [], laidByText := true, laidKinds := [.data], laidTests := true, laidLooks := .later }
def PadicRootsCardSaid : Prop := Claim7.holds Tryd.pinned (.plain (OpenSpec.ofChange padicRootsSpec)) padicRootsCard

/-- THE TIED CARD OF 'arithmeticalaw.ResidueGauss'. -/
def residueGaussCard : Claim7 := { stood := { row := residueGaussRow, standIns := [], harness := (true, "6914747653cf28a2577b0f005aefb35c22cef3d745105bcee1c1e85f264e7220"), looks := false }, kinds := [], alts := [], laidByText := true, laidKinds := [.data], laidTests := true, laidLooks := .later }
def ResidueGaussCardSaid : Prop := Claim7.holds Tryd.pinned (.plain (OpenSpec.ofChange residueGaussSpec)) residueGaussCard

/-- THE TIED CARD OF 'arithmeticalaw.FracDecimal'. -/
def fracDecimalCard : Claim7 := { stood := { row := fracDecimalRow, standIns := [], harness := (true, "6914747653cf28a2577b0f005aefb35c22cef3d745105bcee1c1e85f264e7220"), looks := false }, kinds := [], alts := [], laidByText := true, laidKinds := [.data, .data, .data], laidTests := true, laidLooks := .later }
def FracDecimalCardSaid : Prop := Claim7.holds Tryd.pinned (.plain (OpenSpec.ofChange fracDecimalSpec)) fracDecimalCard

/-- THE TIED CARD OF 'arithmeticalaw.FracZeckendorf'. -/
def fracZeckendorfCard : Claim7 := { stood := { row := fracZeckendorfRow, standIns := [], harness := (true, "6914747653cf28a2577b0f005aefb35c22cef3d745105bcee1c1e85f264e7220"), looks := false }, kinds := [], alts := [], laidByText := true, laidKinds := [.data, .data, .data], laidTests := true, laidLooks := .later }
def FracZeckendorfCardSaid : Prop := Claim7.holds Tryd.pinned (.plain (OpenSpec.ofChange fracZeckendorfSpec)) fracZeckendorfCard

/-- THE TIED CARD OF 'arithmeticalaw.FracTree'. -/
def fracTreeCard : Claim7 := { stood := { row := fracTreeRow, standIns := [], harness := (true, "6914747653cf28a2577b0f005aefb35c22cef3d745105bcee1c1e85f264e7220"), looks := false }, kinds := [], alts := [], laidByText := true, laidKinds := [.data, .data, .data], laidTests := true, laidLooks := .later }
def FracTreeCardSaid : Prop := Claim7.holds Tryd.pinned (.plain (OpenSpec.ofChange fracTreeSpec)) fracTreeCard

/-- THE SECOND FORM's CARD OF 'arithmeticalaw.PadicHensel'. -/
def padicHenselUptoCard : Claim7 := { stood := { row := padicHenselUptoRow, standIns := [], harness := (true, "6914747653cf28a2577b0f005aefb35c22cef3d745105bcee1c1e85f264e7220"), looks := false }, kinds := [], alts := [], laidByText := true, laidKinds := [.data], laidTests := true, laidLooks := .later }
def PadicHenselUptoCardSaid : Prop := Claim7.holds Tryd.pinned (.plain (OpenSpec.upto padicHenselSpec)) padicHenselUptoCard

/-- THE SECOND FORM's CARD OF 'arithmeticalaw.PadicDigits'. -/
def padicDigitsUptoCard : Claim7 := { stood := { row := padicDigitsUptoRow, standIns := [], harness := (true, "6914747653cf28a2577b0f005aefb35c22cef3d745105bcee1c1e85f264e7220"), looks := false }, kinds := [], alts := [], laidByText := true, laidKinds := [.data], laidTests := true, laidLooks := .later }
def PadicDigitsUptoCardSaid : Prop := Claim7.holds Tryd.pinned (.plain (OpenSpec.upto padicDigitsSpec)) padicDigitsUptoCard

/-- THE SECOND FORM's CARD OF 'arithmeticalaw.PrimeFactors'. -/
def primeFactorsUptoCard : Claim7 := { stood := { row := primeFactorsUptoRow, standIns := [], harness := (true, "6914747653cf28a2577b0f005aefb35c22cef3d745105bcee1c1e85f264e7220"), looks := false }, kinds := [], alts := [], laidByText := true, laidKinds := [.data], laidTests := true, laidLooks := .later }
def PrimeFactorsUptoCardSaid : Prop := Claim7.holds Tryd.pinned (.plain (OpenSpec.upto primeFactorsSpec)) primeFactorsUptoCard

/-- THE SECOND FORM's CARD OF 'arithmeticalaw.PadicRoots'. -/
def padicRootsUptoCard : Claim7 := { stood := { row := padicRootsUptoRow, standIns := [], harness := (true, "6914747653cf28a2577b0f005aefb35c22cef3d745105bcee1c1e85f264e7220"), looks := false }, kinds := [], alts := [], laidByText := true, laidKinds := [.data], laidTests := true, laidLooks := .later }
def PadicRootsUptoCardSaid : Prop := Claim7.holds Tryd.pinned (.plain (OpenSpec.upto padicRootsSpec)) padicRootsUptoCard

/-- THE SECOND FORM's CARD OF 'arithmeticalaw.ResidueGauss'. -/
def residueGaussUptoCard : Claim7 := { stood := { row := residueGaussUptoRow, standIns := [], harness := (true, "6914747653cf28a2577b0f005aefb35c22cef3d745105bcee1c1e85f264e7220"), looks := false }, kinds := [], alts := [], laidByText := true, laidKinds := [.data], laidTests := true, laidLooks := .later }
def ResidueGaussUptoCardSaid : Prop := Claim7.holds Tryd.pinned (.plain (OpenSpec.upto residueGaussSpec)) residueGaussUptoCard

/-- THE SECOND FORM's CARD OF 'arithmeticalaw.FracDecimal'. -/
def fracDecimalUptoCard : Claim7 := { stood := { row := fracDecimalUptoRow, standIns := [], harness := (true, "6914747653cf28a2577b0f005aefb35c22cef3d745105bcee1c1e85f264e7220"), looks := false }, kinds := [], alts := [], laidByText := true, laidKinds := [.data, .data, .data], laidTests := true, laidLooks := .later }
def FracDecimalUptoCardSaid : Prop := Claim7.holds Tryd.pinned (.plain (OpenSpec.upto fracDecimalSpec)) fracDecimalUptoCard

/-- THE SECOND FORM's CARD OF 'arithmeticalaw.FracZeckendorf'. -/
def fracZeckendorfUptoCard : Claim7 := { stood := { row := fracZeckendorfUptoRow, standIns := [], harness := (true, "6914747653cf28a2577b0f005aefb35c22cef3d745105bcee1c1e85f264e7220"), looks := false }, kinds := [], alts := [], laidByText := true, laidKinds := [.data, .data, .data], laidTests := true, laidLooks := .later }
def FracZeckendorfUptoCardSaid : Prop := Claim7.holds Tryd.pinned (.plain (OpenSpec.upto fracZeckendorfSpec)) fracZeckendorfUptoCard

/-- THE SECOND FORM's CARD OF 'arithmeticalaw.FracTree'. -/
def fracTreeUptoCard : Claim7 := { stood := { row := fracTreeUptoRow, standIns := [], harness := (true, "6914747653cf28a2577b0f005aefb35c22cef3d745105bcee1c1e85f264e7220"), looks := false }, kinds := [], alts := [], laidByText := true, laidKinds := [.data, .data, .data], laidTests := true, laidLooks := .later }
def FracTreeUptoCardSaid : Prop := Claim7.holds Tryd.pinned (.plain (OpenSpec.upto fracTreeSpec)) fracTreeUptoCard
end Rows
end Go.Proofs.YticgnjapgbjfiaaDoor
