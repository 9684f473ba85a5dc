/- whole.Join in one, for all lengths. -/
import Derived.Test.YtgocnjklpafabaaJoinM
namespace Go.Proofs.Ytgocnjklpafabaa
open Go.RowKit

end Go.Proofs.Ytgocnjklpafabaa
