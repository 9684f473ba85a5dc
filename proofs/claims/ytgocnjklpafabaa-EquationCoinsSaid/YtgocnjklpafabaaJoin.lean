/- The walk of whole.Join. -/
import Derived.Test.YtgocnjklpafabaaTimes
import Derived.Test.YtgocnjklpafabaaJoinLaw
namespace Go.Proofs.Ytgocnjklpafabaa
open Go.RowKit

/-- Join's word -/
def RetJoin (w : World) (rs ms : List Int) : Ending → World → Prop := fun e w' => ∃ o : Int × Int × Int × Int, JoinAll rs ms o ∧ e = .returned (.tuple #[.int .i64 o.1, .int .i64 o.2.1, fv o.2.2]) ∧ Below w.heap.size w w'

end Go.Proofs.Ytgocnjklpafabaa
