/- The walk of the law's offCurve. -/
import Derived.Test.YtofjmnodfabohaaGreatDoorKCurvW
namespace Go.Proofs.YtofjmnodfabohaaGreatDoor
open Go.RowKit
open CV

/-- offCurve's memory -/
structure OfM (w W : World) (g : Nat) (v : Value) (L : List CP) (c k : Int) : Prop where
  f : FC W w.heap.size 0 0
  r : FC W g c k
  s : PtS W v L
  b : Below w.heap.size w W
theorem OfM.below {w W W' : World} {g : Nat} {v : Value} {L : List CP} {c k : Int} (h : OfM w W g v L c k) (hb : Below W.heap.size W W') : OfM w W' g v L c k :=
  ⟨h.f.below hb, h.r.below hb, h.s.below hb, h.b.trans (hb.mono h.b.size)⟩
theorem OfM.put {w W : World} {g : Nat} {v : Value} {L : List CP} {c k : Int} (h : OfM w W g v L c k) (h0 : PtS w v L) (hg : w.heap.size < g) (c' k' : Int) :
    OfM w ((W.setCell ⟨g, 0, none⟩ (.int .i64 c')).setCell ⟨g, 1, none⟩ (.int .i64 k')) g v L c' k' := by
  have b1 := h.b.setCell (p := ⟨g, 0, none⟩) (by show w.heap.size ≤ g; omega) (.int .i64 c')
  have b2 := b1.setCell (p := ⟨g, 1, none⟩) (by show w.heap.size ≤ g; omega) (.int .i64 k')
  refine ⟨?_, (h.r.set0 c').set1 k', h0.below b2, b2⟩
  exact (Below.heap_setCell _ ⟨g, 1, none⟩ _ _ (by show w.heap.size ≠ g; omega)).trans ((Below.heap_setCell _ ⟨g, 0, none⟩ _ _ (by show w.heap.size ≠ g; omega)).trans h.f)

/-- what offCurve answers -/
def RetOff (w : World) (F : Int × Int) : Ending → World → Prop := fun e w' => e = .returned (fv F) ∧ Below w.heap.size w w'

end Go.Proofs.YtofjmnodfabohaaGreatDoor
