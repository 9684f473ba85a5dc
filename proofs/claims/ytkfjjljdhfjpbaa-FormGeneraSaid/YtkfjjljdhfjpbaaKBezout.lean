/- whole.Bezout in one. -/
import Derived.Test.YtkfjjljdhfjpbaaKBezC
namespace Go.Proofs.Ytkfjjljdhfjpbaa
open Go.RowKit

theorem bezout_any (a b : Int) (w : World) : Calls Try.prog 45 #[.int .i64 a, .int .i64 b] w (RetBez w a b) := by
  rcases lookK_cases 0 [a, b] with ⟨h, hok⟩ | ⟨i, h⟩
  · have ha := ok_bounds (hok a (by simp))
    have hb := ok_bounds (hok b (by simp))
    by_cases hb0 : b = 0
    · by_cases ha0 : a = 0
      · exact bezout_zero a b w h ha0 hb0
      · exact bezout_b0 a b w h ha0 (by omega) hb0
    · by_cases ha0 : 0 < a
      · exact bezout_pos a b w h ha0 (by omega) hb0 (by omega)
      · exact bezout_neg a b w h ha0 (by omega) hb0 (by omega)
  · exact bezout_fault a b i w h

end Go.Proofs.Ytkfjjljdhfjpbaa
