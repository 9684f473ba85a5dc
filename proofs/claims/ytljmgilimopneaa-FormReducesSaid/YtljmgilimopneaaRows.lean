/-
  No cell of these rows narrows 'for every input' (looked for: loops, veiled, ifaces, maps, wideKeys, modest, calm, conditions, laid).
  DERIVED. THE GIVEN ROWS OF THIS SEAT. 5 by the template 'for every input the law returns true; each argument reads behind the call as it read before'; 0 by the template 'total and deterministic' (their statements: YtljmgilimopneaaTotals.lean).
  GIVEN WITH THE SEED: the statements are not yours to turn. If you find one false, say at which input.
  Laid BY PROGRAM, IN A SANDBOX (cutbox-rows.mjs): the forced cells as the released guide's own fill.sh prints them over the translation 2cd2c112fa4eff27… (all of the seat's roots in one cut). By AI agents, Wed Nov 11 2026. No macro, syntax, notation, axiom, sorry.
-/
import Derived.Test.YtljmgilimopneaaChecked
import GoSem.Claim
import GoSem.ClaimJoined
import GoSem.ClaimMapViews
import Derived.JoinedTies
import Derived.KernelRfl
namespace Go.Proofs.Ytljmgilimopneaa
/- THE CELL 'sum', in the pinned program and in every row, IS THE sha256 OF THE DUMP (.gsa) THAT YtljmgilimopneaaProg.lean LOADS. Nothing in Lean hashes anything: it is a label: what it is worth is what the hold of that sum in a sandbox is worth. -/
noncomputable def Try.pinned : Pinned := { name := "ytljmgilimopneaa", sum := "2cd2c112fa4eff271167b9437a26a455113b31ea89d00b30849db715791b54a4", checked := Try.checked }
namespace Rows
def none {H : Type} : Left H := { results := [], args := [] }

/-- 'arithmeticalaw.FormReduces': WHATEVER THE INPUT: true; the input reads as it did. -/
def formReducesSpec : ChangeSpec := { name := "formReduces", fn := fun _ => fun
  | [d] => { results := [.lit (.bool true)], args := [d] }
  | _ => none }
def formReducesRow : OpenClaim := { program := "ytljmgilimopneaa", sum := "2cd2c112fa4eff271167b9437a26a455113b31ea89d00b30849db715791b54a4", func := "arithmetica/arithmeticalaw.FormReduces", spec := "formReduces", inPlace := ["math/bits.Sub64", "math/bits.Add64"], named := ["math/bits.divideError", "math/bits.overflowError"], plainKeys := false, apart := false }
def FormReducesSaid : Prop := formReducesRow.holds Try.pinned (OpenSpec.ofChange formReducesSpec)

/-- ITS FALSE NEIGHBOUR: 'it returns false'. Refute it at one input. -/
def formReducesWrong : ChangeSpec := { name := "formReduces", fn := fun _ => fun
  | [d] => { results := [.lit (.bool false)], args := [d] }
  | _ => none }
def FormReducesWrongFalsely : Prop := formReducesRow.holds Try.pinned (OpenSpec.ofChange formReducesWrong)

/-- 'arithmeticalaw.FormPoints': WHATEVER THE INPUT: true; the input reads as it did. -/
def formPointsSpec : ChangeSpec := { name := "formPoints", fn := fun _ => fun
  | [d1, d2] => { results := [.lit (.bool true)], args := [d1, d2] }
  | _ => none }
def formPointsRow : OpenClaim := { program := "ytljmgilimopneaa", sum := "2cd2c112fa4eff271167b9437a26a455113b31ea89d00b30849db715791b54a4", func := "arithmetica/arithmeticalaw.FormPoints", spec := "formPoints", inPlace := ["math/bits.Sub64", "math/bits.Add64"], unfollowed := true, recurses := true, named := ["math/bits.divideError", "math/bits.overflowError"], plainKeys := false, apart := false }
def FormPointsSaid : Prop := formPointsRow.holds Try.pinned (OpenSpec.ofChange formPointsSpec)

/-- ITS FALSE NEIGHBOUR: 'it returns false'. Refute it at one input. -/
def formPointsWrong : ChangeSpec := { name := "formPoints", fn := fun _ => fun
  | [d1, d2] => { results := [.lit (.bool false)], args := [d1, d2] }
  | _ => none }
def FormPointsWrongFalsely : Prop := formPointsRow.holds Try.pinned (OpenSpec.ofChange formPointsWrong)

/-- 'arithmeticalaw.EquationLinear': WHATEVER THE INPUT: true; the input reads as it did. -/
def equationLinearSpec : ChangeSpec := { name := "equationLinear", fn := fun _ => fun
  | [d1, d2, d3] => { results := [.lit (.bool true)], args := [d1, d2, d3] }
  | _ => none }
def equationLinearRow : OpenClaim := { program := "ytljmgilimopneaa", sum := "2cd2c112fa4eff271167b9437a26a455113b31ea89d00b30849db715791b54a4", func := "arithmetica/arithmeticalaw.EquationLinear", spec := "equationLinear", inPlace := ["math/bits.Sub64", "math/bits.Add64"], unfollowed := true, recurses := true, named := ["math/bits.divideError", "math/bits.overflowError"], plainKeys := false, apart := false }
def EquationLinearSaid : Prop := equationLinearRow.holds Try.pinned (OpenSpec.ofChange equationLinearSpec)

/-- ITS FALSE NEIGHBOUR: 'it returns false'. Refute it at one input. -/
def equationLinearWrong : ChangeSpec := { name := "equationLinear", fn := fun _ => fun
  | [d1, d2, d3] => { results := [.lit (.bool false)], args := [d1, d2, d3] }
  | _ => none }
def EquationLinearWrongFalsely : Prop := equationLinearRow.holds Try.pinned (OpenSpec.ofChange equationLinearWrong)

/-- 'arithmeticalaw.WholePowers': WHATEVER THE INPUT: true; the input reads as it did. -/
def wholePowersSpec : ChangeSpec := { name := "wholePowers", fn := fun _ => fun
  | [d1, d2, d3, d4] => { results := [.lit (.bool true)], args := [d1, d2, d3, d4] }
  | _ => none }
def wholePowersRow : OpenClaim := { program := "ytljmgilimopneaa", sum := "2cd2c112fa4eff271167b9437a26a455113b31ea89d00b30849db715791b54a4", func := "arithmetica/arithmeticalaw.WholePowers", spec := "wholePowers", inPlace := ["math/bits.Sub64", "math/bits.Add64"], named := ["math/bits.divideError", "math/bits.overflowError"], plainKeys := false, apart := false }
def WholePowersSaid : Prop := wholePowersRow.holds Try.pinned (OpenSpec.ofChange wholePowersSpec)

/-- ITS FALSE NEIGHBOUR: 'it returns false'. Refute it at one input. -/
def wholePowersWrong : ChangeSpec := { name := "wholePowers", fn := fun _ => fun
  | [d1, d2, d3, d4] => { results := [.lit (.bool false)], args := [d1, d2, d3, d4] }
  | _ => none }
def WholePowersWrongFalsely : Prop := wholePowersRow.holds Try.pinned (OpenSpec.ofChange wholePowersWrong)

/-- 'arithmeticalaw.WholeJoins': WHATEVER THE INPUT: true; the input reads as it did. -/
def wholeJoinsSpec : ChangeSpec := { name := "wholeJoins", fn := fun _ => fun
  | [d1, d2] => { results := [.lit (.bool true)], args := [d1, d2] }
  | _ => none }
def wholeJoinsRow : OpenClaim := { program := "ytljmgilimopneaa", sum := "2cd2c112fa4eff271167b9437a26a455113b31ea89d00b30849db715791b54a4", func := "arithmetica/arithmeticalaw.WholeJoins", spec := "wholeJoins", inPlace := ["math/bits.Sub64", "math/bits.Add64"], named := ["math/bits.divideError", "math/bits.overflowError"], plainKeys := false, apart := false }
def WholeJoinsSaid : Prop := wholeJoinsRow.holds Try.pinned (OpenSpec.ofChange wholeJoinsSpec)

/-- ITS FALSE NEIGHBOUR: 'it returns false'. Refute it at one input. -/
def wholeJoinsWrong : ChangeSpec := { name := "wholeJoins", fn := fun _ => fun
  | [d1, d2] => { results := [.lit (.bool false)], args := [d1, d2] }
  | _ => none }
def WholeJoinsWrongFalsely : Prop := wholeJoinsRow.holds Try.pinned (OpenSpec.ofChange wholeJoinsWrong)

/- THE SECOND FORM. 'bulk': how many values and letters a reading holds, each counted each time it is reached (what is shared counts as often as it is met; a slice's spare places count too). A statement '..UptoSaid' is the law's where the arguments, and the package variables that the reading takes, are together of bulk at most 1048576: NARROWER than '..Said'. Prove '..Said' where nothing that the law and all that it calls make is longer than what came in: it says more and counts as full. Else prove '..UptoSaid'. A law counts once. -/
mutual
def uptoBulk {H : Type} : DataW H → Nat
  | .lit (.string bytes) => bytes.length + 1
  | .lit _ => 1
  | .nil => 1
  | .ptr d => uptoBulk d + 1
  | .slice elems spare => uptoBulkAll elems + uptoBulkAll spare + 1
  | .agg parts => uptoBulkAll parts + 1
  | .iface _ d => uptoBulk d + 1
  | .map entries => uptoBulkEntries entries + 1
  | .held _ => 1
def uptoBulkAll {H : Type} : List (DataW H) → Nat
  | [] => 0
  | d :: r => uptoBulk d + uptoBulkAll r
def uptoBulkEntries {H : Type} : List (Lit × DataW H) → Nat
  | [] => 0
  | x :: r => uptoBulkEntry x + uptoBulkEntries r
def uptoBulkEntry {H : Type} : Lit × DataW H → Nat
  | (.string bytes, d) => bytes.length + uptoBulk d + 1
  | (_, d) => uptoBulk d + 1
 end
def uptoSmall : (H : Type) → List (DataW H) → Bool := fun _ ds => decide (uptoBulkAll ds ≤ 1048576)
def OpenSpec.upto (s : _root_.Go.ChangeSpec) : _root_.Go.OpenSpec := { _root_.Go.OpenSpec.ofChange s with cond := some uptoSmall }

/-- 'arithmeticalaw.FormReduces', WHERE WHAT IT READS IS OF BULK AT MOST 1048576: true; the input reads as it did. -/
def formReducesUptoRow : OpenClaim := { program := "ytljmgilimopneaa", sum := "2cd2c112fa4eff271167b9437a26a455113b31ea89d00b30849db715791b54a4", func := "arithmetica/arithmeticalaw.FormReduces", spec := "formReduces", inPlace := ["math/bits.Sub64", "math/bits.Add64"], named := ["math/bits.divideError", "math/bits.overflowError"], plainKeys := false, apart := false, narrowed := true }
def FormReducesUptoSaid : Prop := formReducesUptoRow.holds Try.pinned (OpenSpec.upto formReducesSpec)

/-- 'arithmeticalaw.FormPoints', WHERE WHAT IT READS IS OF BULK AT MOST 1048576: true; the input reads as it did. -/
def formPointsUptoRow : OpenClaim := { program := "ytljmgilimopneaa", sum := "2cd2c112fa4eff271167b9437a26a455113b31ea89d00b30849db715791b54a4", func := "arithmetica/arithmeticalaw.FormPoints", spec := "formPoints", inPlace := ["math/bits.Sub64", "math/bits.Add64"], unfollowed := true, recurses := true, named := ["math/bits.divideError", "math/bits.overflowError"], plainKeys := false, apart := false, narrowed := true }
def FormPointsUptoSaid : Prop := formPointsUptoRow.holds Try.pinned (OpenSpec.upto formPointsSpec)

/-- 'arithmeticalaw.EquationLinear', WHERE WHAT IT READS IS OF BULK AT MOST 1048576: true; the input reads as it did. -/
def equationLinearUptoRow : OpenClaim := { program := "ytljmgilimopneaa", sum := "2cd2c112fa4eff271167b9437a26a455113b31ea89d00b30849db715791b54a4", func := "arithmetica/arithmeticalaw.EquationLinear", spec := "equationLinear", inPlace := ["math/bits.Sub64", "math/bits.Add64"], unfollowed := true, recurses := true, named := ["math/bits.divideError", "math/bits.overflowError"], plainKeys := false, apart := false, narrowed := true }
def EquationLinearUptoSaid : Prop := equationLinearUptoRow.holds Try.pinned (OpenSpec.upto equationLinearSpec)

/-- 'arithmeticalaw.WholePowers', WHERE WHAT IT READS IS OF BULK AT MOST 1048576: true; the input reads as it did. -/
def wholePowersUptoRow : OpenClaim := { program := "ytljmgilimopneaa", sum := "2cd2c112fa4eff271167b9437a26a455113b31ea89d00b30849db715791b54a4", func := "arithmetica/arithmeticalaw.WholePowers", spec := "wholePowers", inPlace := ["math/bits.Sub64", "math/bits.Add64"], named := ["math/bits.divideError", "math/bits.overflowError"], plainKeys := false, apart := false, narrowed := true }
def WholePowersUptoSaid : Prop := wholePowersUptoRow.holds Try.pinned (OpenSpec.upto wholePowersSpec)

/-- 'arithmeticalaw.WholeJoins', WHERE WHAT IT READS IS OF BULK AT MOST 1048576: true; the input reads as it did. -/
def wholeJoinsUptoRow : OpenClaim := { program := "ytljmgilimopneaa", sum := "2cd2c112fa4eff271167b9437a26a455113b31ea89d00b30849db715791b54a4", func := "arithmetica/arithmeticalaw.WholeJoins", spec := "wholeJoins", inPlace := ["math/bits.Sub64", "math/bits.Add64"], named := ["math/bits.divideError", "math/bits.overflowError"], plainKeys := false, apart := false, narrowed := true }
def WholeJoinsUptoSaid : Prop := wholeJoinsUptoRow.holds Try.pinned (OpenSpec.upto wholeJoinsSpec)

end Rows
end Go.Proofs.Ytljmgilimopneaa
