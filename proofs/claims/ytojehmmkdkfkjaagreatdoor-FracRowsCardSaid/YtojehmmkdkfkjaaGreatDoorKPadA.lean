/- The walks of prime.Is (at small numbers), padic.fault and padic.look. -/
import Derived.Test.YtojehmmkdkfkjaaGreatDoorKIsW
import Derived.Test.YtojehmmkdkfkjaaGreatDoorKWholeB
import Derived.Test.YtojehmmkdkfkjaaGreatDoorK0
namespace Go.Proofs.YtojehmmkdkfkjaaGreatDoor
open Go.RowKit

theorem lookK_one {n : Int} (h : okB n = true) : lookK 0 [n] = (0, 0) := by rw [lookK, if_pos h, lookK]

/-- look's word -/
def RetLook (w : World) (p k : Int) : Ending → World → Prop := fun e w' => e = .returned (.tuple #[.int .i64 (if (padF p k).1 = 0 then p ^ k.toNat else 0), fv (padF p k)]) ∧ Below w.heap.size w w'
theorem padF_range {p k : Int} (h : p < 2 ∨ 1000000 < p) : padF p k = (3, 0) := by unfold padF; rw [if_pos h]
theorem padF_kind {p k : Int} (h : ¬ (p < 2 ∨ 1000000 < p)) (h2 : prB p.toNat = false) : padF p k = (7, 0) := by unfold padF; rw [if_neg h, if_pos h2]
theorem padF_places {p k : Int} (h : ¬ (p < 2 ∨ 1000000 < p)) (h2 : prB p.toNat = true) (h3 : k < 1 ∨ 60 < k) : padF p k = (3, 1) := by unfold padF; rw [if_neg h, if_neg (by rw [h2]; simp), if_pos h3]
theorem padF_much {p k : Int} (h : ¬ (p < 2 ∨ 1000000 < p)) (h2 : prB p.toNat = true) (h3 : ¬ (k < 1 ∨ 60 < k)) (h4 : 1000000000000000000 < p ^ k.toNat) : padF p k = (9, 1) := by unfold padF; rw [if_neg h, if_neg (by rw [h2]; simp), if_neg h3, if_pos h4]
theorem padF_none {p k : Int} (h : ¬ (p < 2 ∨ 1000000 < p)) (h2 : prB p.toNat = true) (h3 : ¬ (k < 1 ∨ 60 < k)) (h4 : ¬ 1000000000000000000 < p ^ k.toNat) : padF p k = (0, 0) := by unfold padF; rw [if_neg h, if_neg (by rw [h2]; simp), if_neg h3, if_neg h4]

end Go.Proofs.YtojehmmkdkfkjaaGreatDoor
