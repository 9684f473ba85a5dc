/- The walk of curve.Add where a fault comes. -/
import Derived.Test.YtofjmnodfabohaaGreatDoorKCurvT
namespace Go.Proofs.YtofjmnodfabohaaGreatDoor
open Go.RowKit
open CV

/-- Add's point -/
noncomputable def addR (p a b : Int) (P Q : CP) : CP := if (lookC p a b [P, Q]).1 = 0 then addC p.toNat a P Q else ⟨0, 0, false⟩
theorem lookC_zero {p a b : Int} {L : List CP} (h : (lookC p a b L).1 = 0) : OkCv p a b ∧ ∀ P ∈ L, okC p.toNat a b P := by
  unfold lookC at h
  split at h
  · exact absurd h (by assumption)
  · rename_i hc
    exact ⟨chk_zero (Classical.byContradiction hc), offP_zero h⟩
end Go.Proofs.YtofjmnodfabohaaGreatDoor
