/- The walk of curve.Add. -/
import Derived.Test.YtofjmnodfabohaaGreatDoorKCurvS
import Derived.Test.YtofjmnodfabohaaGreatDoorK0
namespace Go.Proofs.YtofjmnodfabohaaGreatDoor
open Go.RowKit
open CV

/-- Add's memory -/
structure ApM (w W : World) (g : Nat) (p a b : Int) (P Q : CP) (c k : Int) : Prop where
  u : KB W w.heap.size #[.int .i64 P.x, .int .i64 P.y, .bool P.far] 33
  v : KB W (w.heap.size + 1) #[.int .i64 Q.x, .int .i64 Q.y, .bool Q.far] 33
  r : KB W (w.heap.size + 1 + 1) #[.int .i64 0, .int .i64 0, .bool false] 33
  s : FC W (w.heap.size + 1 + 1 + 1) 0 0
  cu : KB W g #[.int .i64 p, .int .i64 a, .int .i64 b] 36
  f : FC W (g + 1) c k
  n : w.heap.size + 1 + 1 + 1 < g
  b : Below w.heap.size w W
theorem ApM.below {w W W' : World} {g : Nat} {p a b c k : Int} {P Q : CP} (h : ApM w W g p a b P Q c k) (hb : Below W.heap.size W W') : ApM w W' g p a b P Q c k :=
  ⟨h.u.below hb, h.v.below hb, h.r.below hb, h.s.below hb, h.cu.below hb, h.f.below hb, h.n, h.b.trans (hb.mono h.b.size)⟩
/-- what Add reads at its end -/
structure ApS (w W : World) (g : Nat) (p a b : Int) (P Q : CP) (c k : Int) : Prop where
  u : KB W w.heap.size #[.int .i64 P.x, .int .i64 P.y, .bool P.far] 33
  v : KB W (w.heap.size + 1) #[.int .i64 Q.x, .int .i64 Q.y, .bool Q.far] 33
  cu : KB W g #[.int .i64 p, .int .i64 a, .int .i64 b] 36
  f : FC W (g + 1) c k
  n : w.heap.size + 1 + 1 + 1 < g
theorem ApM.s' {w W : World} {g : Nat} {p a b c k : Int} {P Q : CP} (h : ApM w W g p a b P Q c k) : ApS w W g p a b P Q c k := ⟨h.u, h.v, h.cu, h.f, h.n⟩
theorem ApS.set {w W : World} {g : Nat} {p a b c k : Int} {P Q : CP} (h : ApS w W g p a b P Q c k) (i : Nat) (v : Value) : ApS w (W.setCell ⟨w.heap.size + 1 + 1, i, none⟩ v) g p a b P Q c k := by
  have := h.n
  exact ⟨h.u.far (by show w.heap.size ≠ w.heap.size + 1 + 1; omega) _, h.v.far (by show w.heap.size + 1 ≠ w.heap.size + 1 + 1; omega) _, h.cu.far (by show g ≠ w.heap.size + 1 + 1; omega) _, (Below.heap_setCell _ ⟨w.heap.size + 1 + 1, i, none⟩ _ _ (by show g + 1 ≠ w.heap.size + 1 + 1; omega)).trans h.f, h.n⟩
theorem ap_start (w : World) (P Q : CP) :
    KB ((((w.alloc (.cells #[.int .i64 P.x, .int .i64 P.y, .bool P.far] 33)).alloc (.cells #[.int .i64 Q.x, .int .i64 Q.y, .bool Q.far] 33)).alloc (.cells #[.int .i64 0, .int .i64 0, .bool false] 33)).alloc (.cells #[.int .i64 0, .int .i64 0] 23)) w.heap.size #[.int .i64 P.x, .int .i64 P.y, .bool P.far] 33 ∧
    KB ((((w.alloc (.cells #[.int .i64 P.x, .int .i64 P.y, .bool P.far] 33)).alloc (.cells #[.int .i64 Q.x, .int .i64 Q.y, .bool Q.far] 33)).alloc (.cells #[.int .i64 0, .int .i64 0, .bool false] 33)).alloc (.cells #[.int .i64 0, .int .i64 0] 23)) (w.heap.size + 1) #[.int .i64 Q.x, .int .i64 Q.y, .bool Q.far] 33 ∧
    KB ((((w.alloc (.cells #[.int .i64 P.x, .int .i64 P.y, .bool P.far] 33)).alloc (.cells #[.int .i64 Q.x, .int .i64 Q.y, .bool Q.far] 33)).alloc (.cells #[.int .i64 0, .int .i64 0, .bool false] 33)).alloc (.cells #[.int .i64 0, .int .i64 0] 23)) (w.heap.size + 1 + 1) #[.int .i64 0, .int .i64 0, .bool false] 33 ∧
    FC ((((w.alloc (.cells #[.int .i64 P.x, .int .i64 P.y, .bool P.far] 33)).alloc (.cells #[.int .i64 Q.x, .int .i64 Q.y, .bool Q.far] 33)).alloc (.cells #[.int .i64 0, .int .i64 0, .bool false] 33)).alloc (.cells #[.int .i64 0, .int .i64 0] 23)) (w.heap.size + 1 + 1 + 1) 0 0 ∧
    Below w.heap.size w ((((w.alloc (.cells #[.int .i64 P.x, .int .i64 P.y, .bool P.far] 33)).alloc (.cells #[.int .i64 Q.x, .int .i64 Q.y, .bool Q.far] 33)).alloc (.cells #[.int .i64 0, .int .i64 0, .bool false] 33)).alloc (.cells #[.int .i64 0, .int .i64 0] 23)) := by
  have k1 := KB.made w #[.int .i64 P.x, .int .i64 P.y, .bool P.far] 33
  have b1 := bel_x w (.cells #[.int .i64 P.x, .int .i64 P.y, .bool P.far] 33)
  obtain ⟨W1, hW1⟩ : ∃ Z, w.alloc (.cells #[.int .i64 P.x, .int .i64 P.y, .bool P.far] 33) = Z := ⟨_, rfl⟩
  have s1 : W1.heap.size = w.heap.size + 1 := by rw [← hW1, World.size_alloc]
  rw [hW1] at k1 b1 ⊢
  have k2 := KB.made W1 #[.int .i64 Q.x, .int .i64 Q.y, .bool Q.far] 33
  have b2 := bel_x W1 (.cells #[.int .i64 Q.x, .int .i64 Q.y, .bool Q.far] 33)
  obtain ⟨W2, hW2⟩ : ∃ Z, W1.alloc (.cells #[.int .i64 Q.x, .int .i64 Q.y, .bool Q.far] 33) = Z := ⟨_, rfl⟩
  have s2 : W2.heap.size = w.heap.size + 1 + 1 := by rw [← hW2, World.size_alloc, s1]
  rw [hW2] at k2 b2 ⊢
  have k3 := KB.made W2 #[.int .i64 0, .int .i64 0, .bool false] 33
  have b3 := bel_x W2 (.cells #[.int .i64 0, .int .i64 0, .bool false] 33)
  obtain ⟨W3, hW3⟩ : ∃ Z, W2.alloc (.cells #[.int .i64 0, .int .i64 0, .bool false] 33) = Z := ⟨_, rfl⟩
  have s3 : W3.heap.size = w.heap.size + 1 + 1 + 1 := by rw [← hW3, World.size_alloc, s2]
  rw [hW3] at k3 b3 ⊢
  have k4 := FC.made W3 0 0
  have b4 := bel_x W3 (.cells #[.int .i64 0, .int .i64 0] 23)
  rw [s1] at k2
  rw [s2] at k3
  rw [s3] at k4
  have c2 := b1.trans (b2.mono b1.size)
  have c3 := c2.trans (b3.mono c2.size)
  exact ⟨((k1.below b2).below b3).below b4, (k2.below b3).below b4, k3.below b4, k4, c3.trans (b4.mono c3.size)⟩
/-- the answers' cells, written -/
theorem ap_put {w W : World} {g : Nat} {p a b c k : Int} {P Q : CP} (h : ApM w W g p a b P Q c k) (R : CP) (x y : Int) :
    KB (((((W.setCell ⟨w.heap.size + 1 + 1, 0, none⟩ (.int .i64 R.x)).setCell ⟨w.heap.size + 1 + 1, 1, none⟩ (.int .i64 R.y)).setCell ⟨w.heap.size + 1 + 1, 2, none⟩ (.bool R.far)).setCell ⟨w.heap.size + 1 + 1 + 1, 0, none⟩ (.int .i64 x)).setCell ⟨w.heap.size + 1 + 1 + 1, 1, none⟩ (.int .i64 y)) (w.heap.size + 1 + 1) #[.int .i64 R.x, .int .i64 R.y, .bool R.far] 33 ∧
    FC (((((W.setCell ⟨w.heap.size + 1 + 1, 0, none⟩ (.int .i64 R.x)).setCell ⟨w.heap.size + 1 + 1, 1, none⟩ (.int .i64 R.y)).setCell ⟨w.heap.size + 1 + 1, 2, none⟩ (.bool R.far)).setCell ⟨w.heap.size + 1 + 1 + 1, 0, none⟩ (.int .i64 x)).setCell ⟨w.heap.size + 1 + 1 + 1, 1, none⟩ (.int .i64 y)) (w.heap.size + 1 + 1 + 1) x y ∧
    Below w.heap.size w (((((W.setCell ⟨w.heap.size + 1 + 1, 0, none⟩ (.int .i64 R.x)).setCell ⟨w.heap.size + 1 + 1, 1, none⟩ (.int .i64 R.y)).setCell ⟨w.heap.size + 1 + 1, 2, none⟩ (.bool R.far)).setCell ⟨w.heap.size + 1 + 1 + 1, 0, none⟩ (.int .i64 x)).setCell ⟨w.heap.size + 1 + 1 + 1, 1, none⟩ (.int .i64 y)) := by
  have h1 := ((h.r.set 0 (.int .i64 R.x)).set 1 (.int .i64 R.y)).set 2 (.bool R.far)
  have h2 : FC (((W.setCell ⟨w.heap.size + 1 + 1, 0, none⟩ (.int .i64 R.x)).setCell ⟨w.heap.size + 1 + 1, 1, none⟩ (.int .i64 R.y)).setCell ⟨w.heap.size + 1 + 1, 2, none⟩ (.bool R.far)) (w.heap.size + 1 + 1 + 1) 0 0 :=
    ((Below.heap_setCell _ ⟨w.heap.size + 1 + 1, 2, none⟩ _ _ (by show w.heap.size + 1 + 1 + 1 ≠ w.heap.size + 1 + 1; omega)).trans ((Below.heap_setCell _ ⟨w.heap.size + 1 + 1, 1, none⟩ _ _ (by show w.heap.size + 1 + 1 + 1 ≠ w.heap.size + 1 + 1; omega)).trans ((Below.heap_setCell _ ⟨w.heap.size + 1 + 1, 0, none⟩ _ _ (by show w.heap.size + 1 + 1 + 1 ≠ w.heap.size + 1 + 1; omega)).trans h.s)))
  refine ⟨(h1.far (by show w.heap.size + 1 + 1 ≠ w.heap.size + 1 + 1 + 1; omega) _).far (by show w.heap.size + 1 + 1 ≠ w.heap.size + 1 + 1 + 1; omega) _, (h2.set0 x).set1 y, ?_⟩
  exact below_fault (((h.b.setCell (p := ⟨w.heap.size + 1 + 1, 0, none⟩) (show w.heap.size ≤ w.heap.size + 1 + 1 by omega) _).setCell (p := ⟨w.heap.size + 1 + 1, 1, none⟩) (show w.heap.size ≤ w.heap.size + 1 + 1 by omega) _).setCell (p := ⟨w.heap.size + 1 + 1, 2, none⟩) (show w.heap.size ≤ w.heap.size + 1 + 1 by omega) _) (by omega)

/-- Add's word -/
def RetAdd (w : World) (R : CP) (F : Int × Int) : Ending → World → Prop := fun e w' => e = .returned (.tuple #[ptv R, fv F]) ∧ Below w.heap.size w w'

end Go.Proofs.YtofjmnodfabohaaGreatDoor
