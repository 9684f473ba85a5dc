/- whole.Join in one. -/
import Derived.Test.YtgocnjklpafabaaJoinAny
import Derived.Test.YtgocnjklpafabaaBezout
namespace Go.Proofs.Ytgocnjklpafabaa
open Go.RowKit

theorem bez_begun {g u v : Int} (h : BezOk 12 (-18) g u v) : g = 6 ∧ u = 2 ∧ v = 1 := by
  have h1 := h.gcd
  have h2 := h.eq
  have h3 := h.pos (by decide)
  rw [show Int.gcd 12 (-18) = 6 from by decide] at h1 h3
  have h4 : ((Int.natAbs (-18) / 6 : Nat) : Int) = 3 := by decide
  rw [h4] at h3
  omega
theorem join_begun {o : Int × Int × Int × Int} (h : JoinAll [2, 3, 2] [3, 5, 7] o) : o = (23, 105, 0, 0) := by
  refine joinAll_one h ?_
  unfold JoinAll
  rw [if_neg (by decide), if_neg (by decide)]
  show JoinP 0 0 1 [(2, 3), (3, 5), (2, 7)] _
  rw [JoinP, if_pos (by decide), if_pos (by decide), if_pos (by decide)]
  refine ⟨2, by decide, by decide, by decide, by decide, ?_⟩
  rw [JoinP, if_pos (by decide), if_pos (by decide), if_pos (by decide)]
  refine ⟨8, by decide, by decide, by decide, by decide, ?_⟩
  rw [JoinP, if_pos (by decide), if_pos (by decide), if_pos (by decide)]
  refine ⟨23, by decide, by decide, by decide, by decide, ?_⟩
  rfl
end Go.Proofs.Ytgocnjklpafabaa
