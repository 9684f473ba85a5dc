/- The walk of the answers' Combined. -/
import Derived.Test.YtpppnaljndhjcaaDoorK0
import Derived.Test.YtpppnaljndhjcaaDoorKIntC
namespace Go.Proofs.YtpppnaljndhjcaaDoor
open Go.RowKit

theorem b_any (a : Int) (w : World) (ha : -9223372036854775808 ≤ a) (ha2 : a ≤ 9223372036854775807) :
    Calls Tryd.prog 16 #[.int .i64 a] w (RetNew w a) := by
  have C := hide (newInt_any a w ha ha2)
  clear ha ha2
  go_enter Tryd.func16, Tryd.ntmps16
  go_wp2_with fail
  refine C.out.mono ?_
  rintro e w1 ⟨g, rfl, hg, hi, hb⟩
  have HI := hide hi
  have HB := hide hb
  clear hi hb
  go_wp2_with fail
  go_ret
  exact ⟨g, rfl, hg, HI.out, HB.out⟩
end Go.Proofs.YtpppnaljndhjcaaDoor

namespace Go.Proofs.YtpppnaljndhjcaaDoor
open Go.RowKit

theorem lim_256 {x : Nat} (h : x < 115792089237316195423570985008687907853269984665640564039457584007913129639936) : x < lim := by
  have e : 115792089237316195423570985008687907853269984665640564039457584007913129639936 = 4294967296 ^ 8 := by decide
  rw [e] at h
  exact Nat.lt_of_lt_of_le h (Nat.pow_le_pow_right (by omega) (by decide))
theorem mul_i64 {x y : Int} (hx : x.natAbs ≤ 9223372036854775808) (hy : y.natAbs ≤ 9223372036854775808) : (x * y).natAbs ≤ 85070591730234615865843651857942052864 := by
  rw [Int.natAbs_mul]
  exact Nat.le_trans (Nat.mul_le_mul hx hy) (by decide)
theorem blk_intNew (w : World) : IntBlk (w.alloc (.cells #[.bool false, .slice none 0 0] 51)) w.heap.size := blk_newInt w

end Go.Proofs.YtpppnaljndhjcaaDoor
