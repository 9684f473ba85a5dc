/- The walks of arithmeticabig's Int: Cmp. -/
import Derived.Test.YtgocnjklpafabaaDoorIntB
namespace Go.Proofs.YtgocnjklpafabaaDoor
open Go.RowKit

def icmp (X Y : Int) : Int := if X < Y then -1 else if Y < X then 1 else 0
def RetCmp (w : World) (X Y : Int) : Ending → World → Prop := fun e w' => e = .returned (.int .i64 (icmp X Y)) ∧ Below w.heap.size w w'

theorem icmp_pos {X Y : Int} (hx : ¬ X < 0) (hy : ¬ Y < 0) : icmp X Y = cmpI X.natAbs Y.natAbs := by
  unfold icmp cmpI
  have e1 : (X < Y) ↔ X.natAbs < Y.natAbs := by omega
  have e2 : (Y < X) ↔ Y.natAbs < X.natAbs := by omega
  simp only [e1, e2]
theorem icmp_neg {X Y : Int} (hx : X < 0) (hy : Y < 0) : icmp X Y = -cmpI X.natAbs Y.natAbs := by
  unfold icmp cmpI
  by_cases h1 : X < Y
  · rw [if_pos h1, if_neg (by omega), if_pos (by omega)]
  · rw [if_neg h1]
    by_cases h2 : Y < X
    · rw [if_pos h2, if_pos (by omega)]; rfl
    · rw [if_neg h2, if_neg (by omega), if_neg (by omega)]; rfl

theorem cmpI_neg_wrap (x y : Nat) : IntKind.i64.wrap (-cmpI x y) = -cmpI x y := by
  unfold cmpI; split
  · rfl
  · split <;> rfl
theorem beln_cell {w w' : World} {n : Nat} (h : Below (w.drewN n).heap.size (w.drewN n) w') {g k : Nat} (hg : g < w.heap.size) : w'.cell? ⟨g, k, none⟩ = w.cell? ⟨g, k, none⟩ := h.cell (p := ⟨g, k, none⟩) hg

end Go.Proofs.YtgocnjklpafabaaDoor
