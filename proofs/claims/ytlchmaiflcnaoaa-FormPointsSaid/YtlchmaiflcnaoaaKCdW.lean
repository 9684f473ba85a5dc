/- The walk of the answers' Composed. -/
import Derived.Test.YtlchmaiflcnaoaaKTurnW
namespace Go.Proofs.Ytlchmaiflcnaoaa
open Go.RowKit

/-- the blocks of Composed's frame -/
structure CoSt (w W : World) (a1 b1 c1 a2 b2 c2 : Int) : Prop where
  f : MC W w.heap.size a1 b1 c1
  g : MC W (w.heap.size + 1) a2 b2 c2
  z : MC W (w.heap.size + 1 + 1) 0 0 0
  b : Below w.heap.size w W
theorem CoSt.start (w : World) (a1 b1 c1 a2 b2 c2 : Int) : CoSt w (((w.alloc (.cells #[.int .i64 a1, .int .i64 b1, .int .i64 c1] 23)).alloc (.cells #[.int .i64 a2, .int .i64 b2, .int .i64 c2] 23)).alloc (.cells #[.int .i64 0, .int .i64 0, .int .i64 0] 23)) a1 b1 c1 a2 b2 c2 := by
  have s := World.size_alloc
  refine ⟨((MC.made w a1 b1 c1).below (bel_obj _ _)).below (bel_obj _ _), ?_, ?_, bel3 _ _ _ _⟩
  · have := (MC.made (w.alloc (.cells #[.int .i64 a1, .int .i64 b1, .int .i64 c1] 23)) a2 b2 c2).below (bel_obj _ (.cells #[.int .i64 0, .int .i64 0, .int .i64 0] 23))
    rwa [s] at this
  · have := MC.made ((w.alloc (.cells #[.int .i64 a1, .int .i64 b1, .int .i64 c1] 23)).alloc (.cells #[.int .i64 a2, .int .i64 b2, .int .i64 c2] 23)) 0 0 0
    rwa [s, s] at this
theorem CoSt.below {w W W' : World} {a1 b1 c1 a2 b2 c2 : Int} (h : CoSt w W a1 b1 c1 a2 b2 c2) (k : Below W.heap.size W W') : CoSt w W' a1 b1 c1 a2 b2 c2 :=
  ⟨h.f.below k, h.g.below k, h.z.below k, h.b.trans (k.mono h.b.size)⟩
theorem CoSt.fin {w W : World} {a1 b1 c1 a2 b2 c2 : Int} (h : CoSt w W a1 b1 c1 a2 b2 c2) (x y z : Int) : MC (((W.setCell ⟨w.heap.size + 1 + 1, 0, none⟩ (.int .i64 x)).setCell ⟨w.heap.size + 1 + 1, 1, none⟩ (.int .i64 y)).setCell ⟨w.heap.size + 1 + 1, 2, none⟩ (.int .i64 z)) (w.heap.size + 1 + 1) x y z ∧ Below w.heap.size w (((W.setCell ⟨w.heap.size + 1 + 1, 0, none⟩ (.int .i64 x)).setCell ⟨w.heap.size + 1 + 1, 1, none⟩ (.int .i64 y)).setCell ⟨w.heap.size + 1 + 1, 2, none⟩ (.int .i64 z)) := by
  have l : w.heap.size ≤ w.heap.size + 1 + 1 := by omega
  exact ⟨h.z.put x y z, ((h.b.setCell (p := ⟨w.heap.size + 1 + 1, 0, none⟩) l _).setCell (p := ⟨w.heap.size + 1 + 1, 1, none⟩) l _).setCell (p := ⟨w.heap.size + 1 + 1, 2, none⟩) l _⟩

/-- what Composed answers -/
def RetCo (w : World) (D a1 b1 a2 b2 : Int) : Ending → World → Prop := fun e w' => (∃ A B C : Int, e = .returned (.agg #[.int .i64 A, .int .i64 B, .int .i64 C]) ∧ RedF A B C ∧ D = B * B - 4 * A * C ∧ Sim D (Pr D (Lf a1 b1) (Lf a2 b2)) (Lf A B)) ∧ Below w.heap.size w w'

/-- what stands behind the search: (x, y) and (r, s) are found -/
structure Found (D a1 b1 c1 a2 b2 c2 A B C : Int) : Prop where
  d : D = B * B - 4 * A * C
  A1 : 1 ≤ A
  A2 : A ≤ 11205546
  B0 : B.natAbs ≤ 100000000
  g : Int.gcd A a1 = 1
  s : Sim D (Lf a2 b2) (Lf A B)
theorem found_end {D a1 b1 c1 a2 b2 c2 A B C b : Int} (h : Found D a1 b1 c1 a2 b2 c2 A B C) (hn : D < 0) (ha : 1 ≤ a1) (hD1 : D = b1 * b1 - 4 * a1 * c1) (h1 : (b - b1) % (2 * a1) = 0) (h2 : (b - B) % (2 * A) = 0) (hb1 : -2000000000 ≤ b) (hb2 : b ≤ 2000000000) :
    ∃ c, (b * b - D).tdiv (4 * a1 * A) = c ∧ OInv D (a1 * A) b c (a1 * A) b c ∧ Sim D (Pr D (Lf a1 b1) (Lf a2 b2)) (Lf (a1 * A) b) := by
  obtain ⟨c, e1, e2, e3⟩ := last_form hn hD1 h.d ha h.A1 h.g h1 h2 hb1 hb2
  exact ⟨c, e1, e2, (Sim.prod2 hn (Sim.refl D _) h.s).trans hn e3⟩
theorem found_b {D a1 b1 c1 a2 b2 c2 A B C : Int} (h : Found D a1 b1 c1 a2 b2 c2 A B C) (hD1 : D = b1 * b1 - 4 * a1 * c1) : ∃ J : Int, 0 ≤ J ∧ J < A ∧ (b1 % (2 * a1) + 2 * a1 * J - B) % (2 * A) = 0 := by
  obtain ⟨s0, hs⟩ := par_half (D := D) (b1 := b1) (b2 := B) (x := a1 * c1) (y := A * C) (by rw [← Int.mul_assoc]; exact hD1) (by rw [← Int.mul_assoc]; exact h.d)
  have e := Int.mul_ediv_add_emod b1 (2 * a1)
  have e2 : 2 * a1 * (b1 / (2 * a1)) = 2 * (a1 * (b1 / (2 * a1))) := Int.mul_assoc ..
  exact one_b (e := s0 - B - a1 * (b1 / (2 * a1))) h.A1 h.g (by omega)
theorem found_range {a1 b1 j A : Int} (ha : 1 ≤ a1) (ha2 : a1 ≤ 81) (h0 : 0 ≤ j) (h1 : j ≤ A) (h2 : A ≤ 11205546) : 0 ≤ b1 % (2 * a1) + 2 * a1 * j ∧ b1 % (2 * a1) + 2 * a1 * j ≤ 1815300000 ∧ (b1 % (2 * a1) + 2 * a1 * j - b1) % (2 * a1) = 0 := by
  have e1 := Int.emod_nonneg b1 (b := 2 * a1) (by omega)
  have e2 := Int.emod_lt_of_pos b1 (b := 2 * a1) (by omega)
  have e3 : 2 * a1 * j ≤ 162 * 11205546 := Int.mul_le_mul (by omega) (by omega) h0 (by omega)
  have e4 : 0 ≤ 2 * a1 * j := Int.mul_nonneg (by omega) h0
  refine ⟨by omega, by omega, ?_⟩
  have e5 := Int.mul_ediv_add_emod b1 (2 * a1)
  have e6 : b1 % (2 * a1) + 2 * a1 * j - b1 = 2 * a1 * (j - b1 / (2 * a1)) := by
    have : 2 * a1 * (j - b1 / (2 * a1)) = 2 * a1 * j - 2 * a1 * (b1 / (2 * a1)) := by grind
    omega
  rw [e6]
  exact Int.mul_emod_right ..
theorem found_of {D a1 b1 c1 a2 b2 c2 x y r s : Int} (r2 : RedF a2 b2 c2) (hD2 : D = b2 * b2 - 4 * a2 * c2) (hlow : -20000 ≤ D) (hx : 0 ≤ x) (hy : 0 ≤ y) (hxy : x + y ≤ 41) (hg : Int.gcd x y = 1) (hv : Int.gcd (tA a2 b2 c2 x y) a1 = 1) (hdet : x * s - y * r = 1) (hr : r.natAbs ≤ 50) (hs : s.natAbs ≤ 50) :
    Found D a1 b1 c1 a2 b2 c2 (tA a2 b2 c2 x y) (tB a2 b2 c2 x r y s) (tA a2 b2 c2 r s) := by
  obtain ⟨g1, g2, g3, g4, g5, g6⟩ := small_form r2 hD2 hlow
  obtain ⟨k1, k2⟩ := tA_bounds r2 g6 hx hy hxy hg
  obtain ⟨m1, m2⟩ := turned_ok hD2 hdet (by omega) k1
  exact ⟨m1, k1, k2, (small_all (a := a2) (b := b2) (c := c2) (x := x) (r := r) (y := y) (s := s) (by omega) (by omega) (by omega) (by omega) hr (by omega) hs).2.2, hv, m2⟩

theorem CoSt.keep {w W : World} {a1 b1 c1 a2 b2 c2 : Int} (h : CoSt w W a1 b1 c1 a2 b2 c2) : ((W.cell? ⟨w.heap.size, 0, none⟩ = some (.int .i64 a1) ∧ W.cell? ⟨w.heap.size, 1, none⟩ = some (.int .i64 b1) ∧ W.cell? ⟨w.heap.size, 2, none⟩ = some (.int .i64 c1)) ∧ (W.cell? ⟨w.heap.size + 1, 0, none⟩ = some (.int .i64 a2) ∧ W.cell? ⟨w.heap.size + 1, 1, none⟩ = some (.int .i64 b2) ∧ W.cell? ⟨w.heap.size + 1, 2, none⟩ = some (.int .i64 c2))) ∧ Hid (CoSt w W a1 b1 c1 a2 b2 c2) :=
  ⟨⟨h.f.cells, h.g.cells⟩, hide h⟩
/-- .. with the turned form's block -/
structure CoH (w W : World) (p : Nat) (a1 b1 c1 A B C : Int) : Prop where
  f : MC W w.heap.size a1 b1 c1
  h : MC W p A B C
  zz : ∃ i j k, MC W (w.heap.size + 1 + 1) i j k
  lo : w.heap.size + 1 + 1 < p
  b : Below w.heap.size w W
theorem CoSt.with_ {w W : World} {a1 b1 c1 a2 b2 c2 : Int} (h : CoSt w W a1 b1 c1 a2 b2 c2) (A B C : Int) : CoH w (W.alloc (.cells #[.int .i64 A, .int .i64 B, .int .i64 C] 23)) W.heap.size a1 b1 c1 A B C :=
  ⟨h.f.below (bel_obj _ _), MC.made W A B C, ⟨0, 0, 0, h.z.below (bel_obj _ _)⟩, h.z.lt, h.b.alloc h.b.size _⟩
theorem CoH.below {w W W' : World} {p : Nat} {a1 b1 c1 A B C : Int} (h : CoH w W p a1 b1 c1 A B C) (k : Below W.heap.size W W') : CoH w W' p a1 b1 c1 A B C := by
  obtain ⟨i, j, l, hz⟩ := h.zz
  exact ⟨h.f.below k, h.h.below k, ⟨i, j, l, hz.below k⟩, h.lo, h.b.trans (k.mono h.b.size)⟩
theorem CoH.keep {w W : World} {p : Nat} {a1 b1 c1 A B C : Int} (h : CoH w W p a1 b1 c1 A B C) : ((W.cell? ⟨w.heap.size, 0, none⟩ = some (.int .i64 a1) ∧ W.cell? ⟨w.heap.size, 1, none⟩ = some (.int .i64 b1) ∧ W.cell? ⟨w.heap.size, 2, none⟩ = some (.int .i64 c1)) ∧ (W.cell? ⟨p, 0, none⟩ = some (.int .i64 A) ∧ W.cell? ⟨p, 1, none⟩ = some (.int .i64 B) ∧ W.cell? ⟨p, 2, none⟩ = some (.int .i64 C))) ∧ Hid (CoH w W p a1 b1 c1 A B C) :=
  ⟨⟨h.f.cells, h.h.cells⟩, hide h⟩
theorem CoH.fin {w W : World} {p : Nat} {a1 b1 c1 A B C : Int} (h : CoH w W p a1 b1 c1 A B C) (x y z : Int) : CoH w (((W.setCell ⟨w.heap.size + 1 + 1, 0, none⟩ (.int .i64 x)).setCell ⟨w.heap.size + 1 + 1, 1, none⟩ (.int .i64 y)).setCell ⟨w.heap.size + 1 + 1, 2, none⟩ (.int .i64 z)) p a1 b1 c1 A B C ∧ MC (((W.setCell ⟨w.heap.size + 1 + 1, 0, none⟩ (.int .i64 x)).setCell ⟨w.heap.size + 1 + 1, 1, none⟩ (.int .i64 y)).setCell ⟨w.heap.size + 1 + 1, 2, none⟩ (.int .i64 z)) (w.heap.size + 1 + 1) x y z := by
  obtain ⟨i, j, l, hz⟩ := h.zz
  have l0 : w.heap.size ≤ w.heap.size + 1 + 1 := by omega
  have hm : MC (((W.setCell ⟨w.heap.size + 1 + 1, 0, none⟩ (.int .i64 x)).setCell ⟨w.heap.size + 1 + 1, 1, none⟩ (.int .i64 y)).setCell ⟨w.heap.size + 1 + 1, 2, none⟩ (.int .i64 z)) (w.heap.size + 1 + 1) x y z := hz.put x y z
  exact ⟨⟨(put3_heap (g := w.heap.size + 1 + 1) x y z (by omega)).trans h.f, (put3_heap (g := w.heap.size + 1 + 1) x y z (by have := h.lo; omega)).trans h.h, ⟨x, y, z, hm⟩, h.lo, ((h.b.setCell (p := ⟨w.heap.size + 1 + 1, 0, none⟩) l0 _).setCell (p := ⟨w.heap.size + 1 + 1, 1, none⟩) l0 _).setCell (p := ⟨w.heap.size + 1 + 1, 2, none⟩) l0 _⟩, hm⟩
end Go.Proofs.Ytlchmaiflcnaoaa
