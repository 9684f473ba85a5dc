/- The walk of the law FormComposes at whatever two forms. -/
import Derived.Test.YtlchmaiflcnaoaaCdL
import Derived.Test.YtlchmaiflcnaoaaFcL
namespace Go.Proofs.Ytlchmaiflcnaoaa
open Go.RowKit

theorem fcomp_row (a1 b1 c1 a2 b2 c2 : Int) (w : World) : Calls Try.prog 4 #[.agg #[.int .i64 a1, .int .i64 b1, .int .i64 c1], .agg #[.int .i64 a2, .int .i64 b2, .int .i64 c2]] w fun e w' => e = .returned (.bool true) ∧ Below w.heap.size w w' := by
  by_cases h1 : (formF a1 b1 c1).1 = 0
  · by_cases h2 : (formF a2 b2 c2).1 = 0
    · by_cases hd : b1 * b1 - 4 * a1 * c1 = b2 * b2 - 4 * a2 * c2
      · by_cases hl : b1 * b1 - 4 * a1 * c1 < -20000
        · exact fcomp_c4 a1 b1 c1 a2 b2 c2 w _ h1 h2 rfl hd.symm hl
        · have hn := (formF_zero h1).2.2.2.2.2.2.1
          exact fcomp_c5 a1 b1 c1 a2 b2 c2 w _ h1 h2 rfl hd.symm (by omega) (fun i1 j1 l1 i2 j2 l2 W r1 r2 e1 e2 g => composed_any i1 j1 l1 i2 j2 l2 _ W r1 r2 e1 e2 (by omega) hn g)
      · exact fcomp_c3 a1 b1 c1 a2 b2 c2 w h1 h2 hd
    · exact fcomp_c2 a1 b1 c1 a2 b2 c2 w h1 h2
  · exact fcomp_c1 a1 b1 c1 a2 b2 c2 w h1
end Go.Proofs.Ytlchmaiflcnaoaa
