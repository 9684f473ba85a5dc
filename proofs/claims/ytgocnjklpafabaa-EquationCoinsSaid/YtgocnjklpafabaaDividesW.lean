/- The walk of the law WholeDivides. -/
import Derived.Test.YtgocnjklpafabaaBegunW
import Derived.Test.YtgocnjklpafabaaRefB
namespace Go.Proofs.Ytgocnjklpafabaa
open Go.RowKit

theorem gcd_small {a b : Int} {G N : Nat} (h : Int.gcd a b = G) (ha : a.natAbs ≤ N) (hb : b.natAbs ≤ N) : G ≤ N := by
  by_cases h0 : a = 0
  · subst h0
    rw [Int.gcd_zero_left] at h
    omega
  · have h1 := Nat.gcd_le_left b.natAbs (m := a.natAbs) (by omega)
    have h2 : Int.gcd a b = Nat.gcd a.natAbs b.natAbs := rfl
    omega

end Go.Proofs.Ytgocnjklpafabaa
