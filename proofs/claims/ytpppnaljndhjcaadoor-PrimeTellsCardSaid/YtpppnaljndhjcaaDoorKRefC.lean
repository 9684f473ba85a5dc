/- The walks of the answers' Left, Product, Power, Above. Each under the bounds of its arguments. -/
import Derived.Test.YtpppnaljndhjcaaDoorK0
import Derived.Test.YtpppnaljndhjcaaDoorKExp
import Derived.Test.YtpppnaljndhjcaaDoorKPow
namespace Go.Proofs.YtpppnaljndhjcaaDoor
open Go.RowKit

end Go.Proofs.YtpppnaljndhjcaaDoor

namespace Go.Proofs.YtpppnaljndhjcaaDoor
open Go.RowKit

theorem icmp_gt (X Y : Int) : (0 < icmp X Y) ↔ Y < X := by
  unfold icmp
  constructor
  · intro h
    split at h
    · omega
    · split at h
      · assumption
      · omega
  · intro h
    rw [if_neg (by omega), if_pos h]; decide

theorem pow_lim {r j k : Nat} (hr : r ≤ 1000000000000000001) (hj : j ≤ k) (hk : k ≤ 60) : ((r : Int) ^ j).natAbs < lim := by
  have e : ((r : Int) ^ j).natAbs = r ^ j := by rw [← Int.natCast_pow]; rfl
  rw [e]
  have h1 : r ^ j ≤ (4294967296 ^ 2) ^ j := Nat.pow_le_pow_left (by omega) j
  rw [← Nat.pow_mul] at h1
  exact lim_pow (k := 2 * j + 1) (Nat.lt_of_le_of_lt h1 (Nat.pow_lt_pow_right (by omega) (by omega))) (by omega)

end Go.Proofs.YtpppnaljndhjcaaDoor
