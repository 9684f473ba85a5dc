/- whole.Join in one. -/
import Derived.Test.YtddnchjnbgdocaaJoinM
namespace Go.Proofs.Ytddnchjnbgdocaa
open Go.RowKit

theorem join_any (A B : Option Addr) (n c m d : Nat) (rs ms : List Int) (w : World) (hrs : rs.length = n) (hms : ms.length = m) (hA : Ints w w.heap.size A rs) (hB : Ints w w.heap.size B ms) :
    Calls Try.prog 7 #[.slice A n c, .slice B m d] w (RetJoin w rs ms) := by
  by_cases h : 1000 < n ∨ 1000 < m
  · exact join_many A B n c m d rs ms w hrs hms h
  · by_cases h2 : n = m
    · subst h2
      exact join_main A B n c d rs ms w hrs hms (by omega) hA hB
    · exact join_size A B n c m d rs ms w hrs hms (by omega) (by omega) h2

theorem bez_begun {g u v : Int} (h : BezOk 12 (-18) g u v) : g = 6 ∧ u = 2 ∧ v = 1 := by
  have h1 := h.gcd
  have h2 := h.eq
  have h3 := h.pos (by decide)
  rw [show Int.gcd 12 (-18) = 6 from by decide] at h1 h3
  have h4 : ((Int.natAbs (-18) / 6 : Nat) : Int) = 3 := by decide
  rw [h4] at h3
  omega
theorem join_begun {o : Int × Int × Int × Int} (h : JoinAll [2, 3, 2] [3, 5, 7] o) : o = (23, 105, 0, 0) := by
  refine joinAll_one h ?_
  unfold JoinAll
  rw [if_neg (by decide), if_neg (by decide)]
  show JoinP 0 0 1 [(2, 3), (3, 5), (2, 7)] _
  rw [JoinP, if_pos (by decide), if_pos (by decide), if_pos (by decide)]
  refine ⟨2, by decide, by decide, by decide, by decide, ?_⟩
  rw [JoinP, if_pos (by decide), if_pos (by decide), if_pos (by decide)]
  refine ⟨8, by decide, by decide, by decide, by decide, ?_⟩
  rw [JoinP, if_pos (by decide), if_pos (by decide), if_pos (by decide)]
  refine ⟨23, by decide, by decide, by decide, by decide, ?_⟩
  rfl
end Go.Proofs.Ytddnchjnbgdocaa
