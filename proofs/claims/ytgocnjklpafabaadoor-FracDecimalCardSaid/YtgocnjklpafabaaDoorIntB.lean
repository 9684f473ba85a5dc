/- The walks of arithmeticabig's Int: Add, Sub, Mul. Each under a bound on the numbers. (gen_intb.py prints this text.) -/
import Derived.Test.YtgocnjklpafabaaDoorIntA
import Derived.Test.YtgocnjklpafabaaDoorRegion
namespace Go.Proofs.YtgocnjklpafabaaDoor
open Go.RowKit

theorem toI_abs {neg : Bool} {n : Nat} {X : Int} (h : toI neg n = X) : n = X.natAbs := by
  unfold toI at h; split at h <;> omega
theorem toI_not (b : Bool) (n : Nat) : toI (!b) n = -toI b n := by
  unfold toI; cases b <;> simp
theorem toI_mul (a b : Bool) (m n : Nat) : toI (a != b) (m * n) = toI a m * toI b n := by
  unfold toI; cases a <;> cases b <;> simp [Int.neg_mul, Int.mul_neg]
theorem bel_cell {w w' : World} (h : Below w.drew.heap.size w.drew w') {g k : Nat} (hg : g < w.heap.size) : w'.cell? ⟨g, k, none⟩ = w.cell? ⟨g, k, none⟩ := h.cell (p := ⟨g, k, none⟩) hg

end Go.Proofs.YtgocnjklpafabaaDoor
