/-
  No cell of these rows narrows 'for every input' (looked for: loops, veiled, ifaces, maps, wideKeys, modest, calm, conditions, laid).
  DERIVED. THE GIVEN ROWS OF THIS SEAT. 3 by the template 'for every input the law returns true; each argument reads behind the call as it read before'; 0 by the template 'total and deterministic' (their statements: YtgocnjklpafabaaTotals.lean).
  GIVEN WITH THE SEED: the statements are not yours to turn. If you find one false, say at which input.
  Laid BY PROGRAM, IN A SANDBOX (cutbox-rows.mjs): the forced cells as the released guide's own fill.sh prints them over the translation 69be4b25cfb4cb89… (all of the seat's roots in one cut). By AI agents, Wed Nov 11 2026. No macro, syntax, notation, axiom, sorry.
-/
import Derived.Test.YtgocnjklpafabaaChecked
import GoSem.Claim
import GoSem.ClaimJoined
import GoSem.ClaimMapViews
import Derived.JoinedTies
import Derived.KernelRfl
namespace Go.Proofs.Ytgocnjklpafabaa
/- THE CELL 'sum', in the pinned program and in every row, IS THE sha256 OF THE DUMP (.gsa) THAT YtgocnjklpafabaaProg.lean LOADS. Nothing in Lean hashes anything: it is a label: what it is worth is what the hold of that sum in a sandbox is worth. -/
noncomputable def Try.pinned : Pinned := { name := "ytgocnjklpafabaa", sum := "69be4b25cfb4cb890041a30f491a1c35b2c8417580dde167db6d64a63d00b27c", checked := Try.checked }
namespace Rows
def none {H : Type} : Left H := { results := [], args := [] }

/-- 'arithmeticalaw.EquationCoins': WHATEVER THE INPUT: true; the input reads as it did. -/
def equationCoinsSpec : ChangeSpec := { name := "equationCoins", fn := fun _ => fun
  | [d] => { results := [.lit (.bool true)], args := [d] }
  | _ => none }
def equationCoinsRow : OpenClaim := { program := "ytgocnjklpafabaa", sum := "69be4b25cfb4cb890041a30f491a1c35b2c8417580dde167db6d64a63d00b27c", func := "arithmetica/arithmeticalaw.EquationCoins", spec := "equationCoins", unfollowed := true, recurses := true, plainKeys := false, apart := false }
def EquationCoinsSaid : Prop := equationCoinsRow.holds Try.pinned (OpenSpec.ofChange equationCoinsSpec)

/-- ITS FALSE NEIGHBOUR: 'it returns false'. Refute it at one input. -/
def equationCoinsWrong : ChangeSpec := { name := "equationCoins", fn := fun _ => fun
  | [d] => { results := [.lit (.bool false)], args := [d] }
  | _ => none }
def EquationCoinsWrongFalsely : Prop := equationCoinsRow.holds Try.pinned (OpenSpec.ofChange equationCoinsWrong)

/-- 'arithmeticalaw.EquationLinear': WHATEVER THE INPUT: true; the input reads as it did. -/
def equationLinearSpec : ChangeSpec := { name := "equationLinear", fn := fun _ => fun
  | [d1, d2, d3] => { results := [.lit (.bool true)], args := [d1, d2, d3] }
  | _ => none }
def equationLinearRow : OpenClaim := { program := "ytgocnjklpafabaa", sum := "69be4b25cfb4cb890041a30f491a1c35b2c8417580dde167db6d64a63d00b27c", func := "arithmetica/arithmeticalaw.EquationLinear", spec := "equationLinear", inPlace := ["math/bits.Sub64", "math/bits.Add64"], unfollowed := true, recurses := true, named := ["math/bits.divideError", "math/bits.overflowError"], plainKeys := false, apart := false }
def EquationLinearSaid : Prop := equationLinearRow.holds Try.pinned (OpenSpec.ofChange equationLinearSpec)

/-- ITS FALSE NEIGHBOUR: 'it returns false'. Refute it at one input. -/
def equationLinearWrong : ChangeSpec := { name := "equationLinear", fn := fun _ => fun
  | [d1, d2, d3] => { results := [.lit (.bool false)], args := [d1, d2, d3] }
  | _ => none }
def EquationLinearWrongFalsely : Prop := equationLinearRow.holds Try.pinned (OpenSpec.ofChange equationLinearWrong)

/-- 'arithmeticalaw.EquationMarkov': WHATEVER THE INPUT: true; the input reads as it did. -/
def equationMarkovSpec : ChangeSpec := { name := "equationMarkov", fn := fun _ => fun
  | [d] => { results := [.lit (.bool true)], args := [d] }
  | _ => none }
def equationMarkovRow : OpenClaim := { program := "ytgocnjklpafabaa", sum := "69be4b25cfb4cb890041a30f491a1c35b2c8417580dde167db6d64a63d00b27c", func := "arithmetica/arithmeticalaw.EquationMarkov", spec := "equationMarkov", unfollowed := true, recurses := true, plainKeys := false, apart := false }
def EquationMarkovSaid : Prop := equationMarkovRow.holds Try.pinned (OpenSpec.ofChange equationMarkovSpec)

/-- ITS FALSE NEIGHBOUR: 'it returns false'. Refute it at one input. -/
def equationMarkovWrong : ChangeSpec := { name := "equationMarkov", fn := fun _ => fun
  | [d] => { results := [.lit (.bool false)], args := [d] }
  | _ => none }
def EquationMarkovWrongFalsely : Prop := equationMarkovRow.holds Try.pinned (OpenSpec.ofChange equationMarkovWrong)

/- THE SECOND FORM. 'bulk': how many values and letters a reading holds, each counted each time it is reached (what is shared counts as often as it is met; a slice's spare places count too). A statement '..UptoSaid' is the law's where the arguments, and the package variables that the reading takes, are together of bulk at most 1048576: NARROWER than '..Said'. Prove '..Said' where nothing that the law and all that it calls make is longer than what came in: it says more and counts as full. Else prove '..UptoSaid'. A law counts once. -/
mutual
def uptoBulk {H : Type} : DataW H → Nat
  | .lit (.string bytes) => bytes.length + 1
  | .lit _ => 1
  | .nil => 1
  | .ptr d => uptoBulk d + 1
  | .slice elems spare => uptoBulkAll elems + uptoBulkAll spare + 1
  | .agg parts => uptoBulkAll parts + 1
  | .iface _ d => uptoBulk d + 1
  | .map entries => uptoBulkEntries entries + 1
  | .held _ => 1
def uptoBulkAll {H : Type} : List (DataW H) → Nat
  | [] => 0
  | d :: r => uptoBulk d + uptoBulkAll r
def uptoBulkEntries {H : Type} : List (Lit × DataW H) → Nat
  | [] => 0
  | x :: r => uptoBulkEntry x + uptoBulkEntries r
def uptoBulkEntry {H : Type} : Lit × DataW H → Nat
  | (.string bytes, d) => bytes.length + uptoBulk d + 1
  | (_, d) => uptoBulk d + 1
 end
def uptoSmall : (H : Type) → List (DataW H) → Bool := fun _ ds => decide (uptoBulkAll ds ≤ 1048576)
def OpenSpec.upto (s : _root_.Go.ChangeSpec) : _root_.Go.OpenSpec := { _root_.Go.OpenSpec.ofChange s with cond := some uptoSmall }

/-- 'arithmeticalaw.EquationCoins', WHERE WHAT IT READS IS OF BULK AT MOST 1048576: true; the input reads as it did. -/
def equationCoinsUptoRow : OpenClaim := { program := "ytgocnjklpafabaa", sum := "69be4b25cfb4cb890041a30f491a1c35b2c8417580dde167db6d64a63d00b27c", func := "arithmetica/arithmeticalaw.EquationCoins", spec := "equationCoins", unfollowed := true, recurses := true, plainKeys := false, apart := false, narrowed := true }
def EquationCoinsUptoSaid : Prop := equationCoinsUptoRow.holds Try.pinned (OpenSpec.upto equationCoinsSpec)

/-- 'arithmeticalaw.EquationLinear', WHERE WHAT IT READS IS OF BULK AT MOST 1048576: true; the input reads as it did. -/
def equationLinearUptoRow : OpenClaim := { program := "ytgocnjklpafabaa", sum := "69be4b25cfb4cb890041a30f491a1c35b2c8417580dde167db6d64a63d00b27c", func := "arithmetica/arithmeticalaw.EquationLinear", spec := "equationLinear", inPlace := ["math/bits.Sub64", "math/bits.Add64"], unfollowed := true, recurses := true, named := ["math/bits.divideError", "math/bits.overflowError"], plainKeys := false, apart := false, narrowed := true }
def EquationLinearUptoSaid : Prop := equationLinearUptoRow.holds Try.pinned (OpenSpec.upto equationLinearSpec)

/-- 'arithmeticalaw.EquationMarkov', WHERE WHAT IT READS IS OF BULK AT MOST 1048576: true; the input reads as it did. -/
def equationMarkovUptoRow : OpenClaim := { program := "ytgocnjklpafabaa", sum := "69be4b25cfb4cb890041a30f491a1c35b2c8417580dde167db6d64a63d00b27c", func := "arithmetica/arithmeticalaw.EquationMarkov", spec := "equationMarkov", unfollowed := true, recurses := true, plainKeys := false, apart := false, narrowed := true }
def EquationMarkovUptoSaid : Prop := equationMarkovUptoRow.holds Try.pinned (OpenSpec.upto equationMarkovSpec)

end Rows
end Go.Proofs.Ytgocnjklpafabaa
