/- The walk of wholeBegun. -/
import Derived.Test.YtgocnjklpafabaaBegun
namespace Go.Proofs.Ytgocnjklpafabaa
open Go.RowKit

end Go.Proofs.Ytgocnjklpafabaa
