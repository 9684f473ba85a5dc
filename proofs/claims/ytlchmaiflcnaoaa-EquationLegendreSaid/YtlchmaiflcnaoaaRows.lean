/-
  No cell of these rows narrows 'for every input' (looked for: loops, veiled, ifaces, maps, wideKeys, modest, calm, conditions, laid).
  DERIVED. THE GIVEN ROWS OF THIS SEAT. 5 by the template 'for every input the law returns true; each argument reads behind the call as it read before'; 0 by the template 'total and deterministic' (their statements: YtlchmaiflcnaoaaTotals.lean).
  GIVEN WITH THE SEED: the statements are not yours to turn. If you find one false, say at which input.
  Laid BY PROGRAM, IN A SANDBOX (cutbox-rows.mjs): the forced cells as the released guide's own fill.sh prints them over the translation 6c4eb964d6721947… (all of the seat's roots in one cut). By AI agents, Wed Nov 11 2026. No macro, syntax, notation, axiom, sorry.
-/
import Derived.Test.YtlchmaiflcnaoaaChecked
import GoSem.Claim
import GoSem.ClaimJoined
import GoSem.ClaimMapViews
import Derived.JoinedTies
import Derived.KernelRfl
namespace Go.Proofs.Ytlchmaiflcnaoaa
/- THE CELL 'sum', in the pinned program and in every row, IS THE sha256 OF THE DUMP (.gsa) THAT YtlchmaiflcnaoaaProg.lean LOADS. Nothing in Lean hashes anything: it is a label: what it is worth is what the hold of that sum in a sandbox is worth. -/
noncomputable def Try.pinned : Pinned := { name := "ytlchmaiflcnaoaa", sum := "6c4eb964d67219470f50288bbdd59c0d709cd26fb50b0914180d754e8bd8178d", checked := Try.checked }
namespace Rows
def none {H : Type} : Left H := { results := [], args := [] }

/-- 'arithmeticalaw.FormPoints': WHATEVER THE INPUT: true; the input reads as it did. -/
def formPointsSpec : ChangeSpec := { name := "formPoints", fn := fun _ => fun
  | [d1, d2] => { results := [.lit (.bool true)], args := [d1, d2] }
  | _ => none }
def formPointsRow : OpenClaim := { program := "ytlchmaiflcnaoaa", sum := "6c4eb964d67219470f50288bbdd59c0d709cd26fb50b0914180d754e8bd8178d", func := "arithmetica/arithmeticalaw.FormPoints", spec := "formPoints", inPlace := ["math/bits.Sub64", "math/bits.Add64"], unfollowed := true, recurses := true, named := ["math/bits.divideError", "math/bits.overflowError"], plainKeys := false, apart := false }
def FormPointsSaid : Prop := formPointsRow.holds Try.pinned (OpenSpec.ofChange formPointsSpec)

/-- ITS FALSE NEIGHBOUR: 'it returns false'. Refute it at one input. -/
def formPointsWrong : ChangeSpec := { name := "formPoints", fn := fun _ => fun
  | [d1, d2] => { results := [.lit (.bool false)], args := [d1, d2] }
  | _ => none }
def FormPointsWrongFalsely : Prop := formPointsRow.holds Try.pinned (OpenSpec.ofChange formPointsWrong)

/-- 'arithmeticalaw.FormComposes': WHATEVER THE INPUT: true; the input reads as it did. -/
def formComposesSpec : ChangeSpec := { name := "formComposes", fn := fun _ => fun
  | [d1, d2] => { results := [.lit (.bool true)], args := [d1, d2] }
  | _ => none }
def formComposesRow : OpenClaim := { program := "ytlchmaiflcnaoaa", sum := "6c4eb964d67219470f50288bbdd59c0d709cd26fb50b0914180d754e8bd8178d", func := "arithmetica/arithmeticalaw.FormComposes", spec := "formComposes", inPlace := ["math/bits.Sub64", "math/bits.Add64"], named := ["math/bits.divideError", "math/bits.overflowError"], plainKeys := false, apart := false }
def FormComposesSaid : Prop := formComposesRow.holds Try.pinned (OpenSpec.ofChange formComposesSpec)

/-- ITS FALSE NEIGHBOUR: 'it returns false'. Refute it at one input. -/
def formComposesWrong : ChangeSpec := { name := "formComposes", fn := fun _ => fun
  | [d1, d2] => { results := [.lit (.bool false)], args := [d1, d2] }
  | _ => none }
def FormComposesWrongFalsely : Prop := formComposesRow.holds Try.pinned (OpenSpec.ofChange formComposesWrong)

/-- 'arithmeticalaw.FormGroup': WHATEVER THE INPUT: true; the input reads as it did. -/
def formGroupSpec : ChangeSpec := { name := "formGroup", fn := fun _ => fun
  | [d1, d2, d3] => { results := [.lit (.bool true)], args := [d1, d2, d3] }
  | _ => none }
def formGroupRow : OpenClaim := { program := "ytlchmaiflcnaoaa", sum := "6c4eb964d67219470f50288bbdd59c0d709cd26fb50b0914180d754e8bd8178d", func := "arithmetica/arithmeticalaw.FormGroup", spec := "formGroup", inPlace := ["math/bits.Sub64", "math/bits.Add64"], named := ["math/bits.divideError", "math/bits.overflowError"], plainKeys := false, apart := false }
def FormGroupSaid : Prop := formGroupRow.holds Try.pinned (OpenSpec.ofChange formGroupSpec)

/-- ITS FALSE NEIGHBOUR: 'it returns false'. Refute it at one input. -/
def formGroupWrong : ChangeSpec := { name := "formGroup", fn := fun _ => fun
  | [d1, d2, d3] => { results := [.lit (.bool false)], args := [d1, d2, d3] }
  | _ => none }
def FormGroupWrongFalsely : Prop := formGroupRow.holds Try.pinned (OpenSpec.ofChange formGroupWrong)

/-- 'arithmeticalaw.EquationLegendre': WHATEVER THE INPUT: true; the input reads as it did. -/
def equationLegendreSpec : ChangeSpec := { name := "equationLegendre", fn := fun _ => fun
  | [d1, d2, d3] => { results := [.lit (.bool true)], args := [d1, d2, d3] }
  | _ => none }
def equationLegendreRow : OpenClaim := { program := "ytlchmaiflcnaoaa", sum := "6c4eb964d67219470f50288bbdd59c0d709cd26fb50b0914180d754e8bd8178d", func := "arithmetica/arithmeticalaw.EquationLegendre", spec := "equationLegendre", unfollowed := true, recurses := true, plainKeys := false, apart := false }
def EquationLegendreSaid : Prop := equationLegendreRow.holds Try.pinned (OpenSpec.ofChange equationLegendreSpec)

/-- ITS FALSE NEIGHBOUR: 'it returns false'. Refute it at one input. -/
def equationLegendreWrong : ChangeSpec := { name := "equationLegendre", fn := fun _ => fun
  | [d1, d2, d3] => { results := [.lit (.bool false)], args := [d1, d2, d3] }
  | _ => none }
def EquationLegendreWrongFalsely : Prop := equationLegendreRow.holds Try.pinned (OpenSpec.ofChange equationLegendreWrong)

/-- 'arithmeticalaw.TorsionPoints': WHATEVER THE INPUT: true; the input reads as it did. -/
def torsionPointsSpec : ChangeSpec := { name := "torsionPoints", fn := fun _ => fun
  | [d1, d2] => { results := [.lit (.bool true)], args := [d1, d2] }
  | _ => none }
def torsionPointsRow : OpenClaim := { program := "ytlchmaiflcnaoaa", sum := "6c4eb964d67219470f50288bbdd59c0d709cd26fb50b0914180d754e8bd8178d", func := "arithmetica/arithmeticalaw.TorsionPoints", spec := "torsionPoints", unfollowed := true, recurses := true, plainKeys := false, apart := false }
def TorsionPointsSaid : Prop := torsionPointsRow.holds Try.pinned (OpenSpec.ofChange torsionPointsSpec)

/-- ITS FALSE NEIGHBOUR: 'it returns false'. Refute it at one input. -/
def torsionPointsWrong : ChangeSpec := { name := "torsionPoints", fn := fun _ => fun
  | [d1, d2] => { results := [.lit (.bool false)], args := [d1, d2] }
  | _ => none }
def TorsionPointsWrongFalsely : Prop := torsionPointsRow.holds Try.pinned (OpenSpec.ofChange torsionPointsWrong)

/- THE SECOND FORM. 'bulk': how many values and letters a reading holds, each counted each time it is reached (what is shared counts as often as it is met; a slice's spare places count too). A statement '..UptoSaid' is the law's where the arguments, and the package variables that the reading takes, are together of bulk at most 1048576: NARROWER than '..Said'. Prove '..Said' where nothing that the law and all that it calls make is longer than what came in: it says more and counts as full. Else prove '..UptoSaid'. A law counts once. -/
mutual
def uptoBulk {H : Type} : DataW H → Nat
  | .lit (.string bytes) => bytes.length + 1
  | .lit _ => 1
  | .nil => 1
  | .ptr d => uptoBulk d + 1
  | .slice elems spare => uptoBulkAll elems + uptoBulkAll spare + 1
  | .agg parts => uptoBulkAll parts + 1
  | .iface _ d => uptoBulk d + 1
  | .map entries => uptoBulkEntries entries + 1
  | .held _ => 1
def uptoBulkAll {H : Type} : List (DataW H) → Nat
  | [] => 0
  | d :: r => uptoBulk d + uptoBulkAll r
def uptoBulkEntries {H : Type} : List (Lit × DataW H) → Nat
  | [] => 0
  | x :: r => uptoBulkEntry x + uptoBulkEntries r
def uptoBulkEntry {H : Type} : Lit × DataW H → Nat
  | (.string bytes, d) => bytes.length + uptoBulk d + 1
  | (_, d) => uptoBulk d + 1
 end
def uptoSmall : (H : Type) → List (DataW H) → Bool := fun _ ds => decide (uptoBulkAll ds ≤ 1048576)
def OpenSpec.upto (s : _root_.Go.ChangeSpec) : _root_.Go.OpenSpec := { _root_.Go.OpenSpec.ofChange s with cond := some uptoSmall }

/-- 'arithmeticalaw.FormPoints', WHERE WHAT IT READS IS OF BULK AT MOST 1048576: true; the input reads as it did. -/
def formPointsUptoRow : OpenClaim := { program := "ytlchmaiflcnaoaa", sum := "6c4eb964d67219470f50288bbdd59c0d709cd26fb50b0914180d754e8bd8178d", func := "arithmetica/arithmeticalaw.FormPoints", spec := "formPoints", inPlace := ["math/bits.Sub64", "math/bits.Add64"], unfollowed := true, recurses := true, named := ["math/bits.divideError", "math/bits.overflowError"], plainKeys := false, apart := false, narrowed := true }
def FormPointsUptoSaid : Prop := formPointsUptoRow.holds Try.pinned (OpenSpec.upto formPointsSpec)

/-- 'arithmeticalaw.FormComposes', WHERE WHAT IT READS IS OF BULK AT MOST 1048576: true; the input reads as it did. -/
def formComposesUptoRow : OpenClaim := { program := "ytlchmaiflcnaoaa", sum := "6c4eb964d67219470f50288bbdd59c0d709cd26fb50b0914180d754e8bd8178d", func := "arithmetica/arithmeticalaw.FormComposes", spec := "formComposes", inPlace := ["math/bits.Sub64", "math/bits.Add64"], named := ["math/bits.divideError", "math/bits.overflowError"], plainKeys := false, apart := false, narrowed := true }
def FormComposesUptoSaid : Prop := formComposesUptoRow.holds Try.pinned (OpenSpec.upto formComposesSpec)

/-- 'arithmeticalaw.FormGroup', WHERE WHAT IT READS IS OF BULK AT MOST 1048576: true; the input reads as it did. -/
def formGroupUptoRow : OpenClaim := { program := "ytlchmaiflcnaoaa", sum := "6c4eb964d67219470f50288bbdd59c0d709cd26fb50b0914180d754e8bd8178d", func := "arithmetica/arithmeticalaw.FormGroup", spec := "formGroup", inPlace := ["math/bits.Sub64", "math/bits.Add64"], named := ["math/bits.divideError", "math/bits.overflowError"], plainKeys := false, apart := false, narrowed := true }
def FormGroupUptoSaid : Prop := formGroupUptoRow.holds Try.pinned (OpenSpec.upto formGroupSpec)

/-- 'arithmeticalaw.EquationLegendre', WHERE WHAT IT READS IS OF BULK AT MOST 1048576: true; the input reads as it did. -/
def equationLegendreUptoRow : OpenClaim := { program := "ytlchmaiflcnaoaa", sum := "6c4eb964d67219470f50288bbdd59c0d709cd26fb50b0914180d754e8bd8178d", func := "arithmetica/arithmeticalaw.EquationLegendre", spec := "equationLegendre", unfollowed := true, recurses := true, plainKeys := false, apart := false, narrowed := true }
def EquationLegendreUptoSaid : Prop := equationLegendreUptoRow.holds Try.pinned (OpenSpec.upto equationLegendreSpec)

/-- 'arithmeticalaw.TorsionPoints', WHERE WHAT IT READS IS OF BULK AT MOST 1048576: true; the input reads as it did. -/
def torsionPointsUptoRow : OpenClaim := { program := "ytlchmaiflcnaoaa", sum := "6c4eb964d67219470f50288bbdd59c0d709cd26fb50b0914180d754e8bd8178d", func := "arithmetica/arithmeticalaw.TorsionPoints", spec := "torsionPoints", unfollowed := true, recurses := true, plainKeys := false, apart := false, narrowed := true }
def TorsionPointsUptoSaid : Prop := torsionPointsUptoRow.holds Try.pinned (OpenSpec.upto torsionPointsSpec)

end Rows
end Go.Proofs.Ytlchmaiflcnaoaa
