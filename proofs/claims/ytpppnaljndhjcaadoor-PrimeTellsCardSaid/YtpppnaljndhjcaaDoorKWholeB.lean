/- The walks of whole.Power, Inverse and Root. -/
import Derived.Test.YtpppnaljndhjcaaDoorK0
import Derived.Test.YtpppnaljndhjcaaDoorKPow
namespace Go.Proofs.YtpppnaljndhjcaaDoor
open Go.RowKit

/-- the fault of Power -/
def powF (a n m : Int) : Int × Int := if (lookK 0 [a, n, m]).1 ≠ 0 then lookK 0 [a, n, m] else if n < 0 then (3, 1) else if m < 1 then (3, 2) else (0, 0)
/-- the fault of Inverse -/
def invF (a m : Int) : Int × Int := if (lookK 0 [a, m]).1 ≠ 0 then lookK 0 [a, m] else if m < 1 then (3, 1) else if Int.gcd a m ≠ 1 then (5, 0) else (0, 0)
/-- the fault of Root -/
def rootF (n k : Int) : Int × Int := if n < 0 ∨ okB n = false then (3, 0) else if k < 1 ∨ 60 < k then (3, 1) else (0, 0)

/-- a call's word on a number and a fault -/
def RetNF (w : World) (F : Int × Int) (P : Int → Prop) : Ending → World → Prop := fun e w' => ∃ p : Int, e = .returned (.tuple #[.int .i64 p, fv F]) ∧ (F.1 = 0 → P p) ∧ (F.1 ≠ 0 → p = 0) ∧ Below w.heap.size w w'

theorem bel_fz (w : World) : Below w.heap.size w (w.alloc (.cells #[.int .i64 0, .int .i64 0] 23)) := (Below.refl _ _).alloc (Nat.le_refl _) _
theorem look3 (a n m : Int) (W : World) (g : Nat) (hg : g = W.heap.size) : Calls Tryd.prog 11 #[.slice (some ⟨g, 0, none⟩) 3 3] (W.alloc (.cells #[.int .i64 a, .int .i64 n, .int .i64 m] 3)) (RetFault (W.alloc (.cells #[.int .i64 a, .int .i64 n, .int .i64 m] 3)) (lookK 0 [a, n, m])) :=
  hg ▸ look_any _ 3 3 [a, n, m] _ rfl (by omega) (ints_new W [a, n, m] _)
theorem look2 (a m : Int) (W : World) (g : Nat) (hg : g = W.heap.size) : Calls Tryd.prog 11 #[.slice (some ⟨g, 0, none⟩) 2 2] (W.alloc (.cells #[.int .i64 a, .int .i64 m] 3)) (RetFault (W.alloc (.cells #[.int .i64 a, .int .i64 m] 3)) (lookK 0 [a, m])) :=
  hg ▸ look_any _ 2 2 [a, m] _ rfl (by omega) (ints_new W [a, m] _)

end Go.Proofs.YtpppnaljndhjcaaDoor
