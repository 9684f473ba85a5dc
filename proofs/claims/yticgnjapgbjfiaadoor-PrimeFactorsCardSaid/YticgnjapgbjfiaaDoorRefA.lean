/- The walk of the answers' B. -/
import Derived.Test.YticgnjapgbjfiaaDoorRefG
import Derived.Test.YticgnjapgbjfiaaDoorIntC
namespace Go.Proofs.YticgnjapgbjfiaaDoor
open Go.RowKit

theorem b_any (a : Int) (w : World) (ha : -9223372036854775808 ≤ a) (ha2 : a ≤ 9223372036854775807) :
    Calls Tryd.prog 41 #[.int .i64 a] w (RetNew w a) := by
  have C := hide (newInt_any a w ha ha2)
  clear ha ha2
  go_enter Tryd.func41, Tryd.ntmps41
  go_wp2_with fail
  refine C.out.mono ?_
  rintro e w1 ⟨g, rfl, hg, hi, hb⟩
  have HI := hide hi
  have HB := hide hb
  clear hi hb
  go_wp2_with fail
  go_ret
  exact ⟨g, rfl, hg, HI.out, HB.out⟩
end Go.Proofs.YticgnjapgbjfiaaDoor
