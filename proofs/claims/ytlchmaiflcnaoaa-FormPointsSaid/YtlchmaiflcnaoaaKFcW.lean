/- The memory of the law FormComposes, and its plain end. -/
import Derived.Test.YtlchmaiflcnaoaaKCdW
namespace Go.Proofs.Ytlchmaiflcnaoaa
open Go.RowKit

structure FA (w W : World) (a1 b1 c1 a2 b2 c2 : Int) : Prop where
  f : MC W w.heap.size a1 b1 c1
  g : MC W (w.heap.size + 1) a2 b2 c2
  b : Below w.heap.size w W
theorem FA.start (w : World) (a1 b1 c1 a2 b2 c2 : Int) : FA w ((w.alloc (.cells #[.int .i64 a1, .int .i64 b1, .int .i64 c1] 23)).alloc (.cells #[.int .i64 a2, .int .i64 b2, .int .i64 c2] 23)) a1 b1 c1 a2 b2 c2 := by
  refine ⟨(MC.made w a1 b1 c1).below (bel_obj _ _), ?_, ((Below.refl _ _).alloc (Nat.le_refl _) _).alloc (by simp) _⟩
  have := MC.made (w.alloc (.cells #[.int .i64 a1, .int .i64 b1, .int .i64 c1] 23)) a2 b2 c2
  rwa [World.size_alloc] at this
theorem FA.below {w W W' : World} {a1 b1 c1 a2 b2 c2 : Int} (h : FA w W a1 b1 c1 a2 b2 c2) (k : Below W.heap.size W W') : FA w W' a1 b1 c1 a2 b2 c2 := ⟨h.f.below k, h.g.below k, h.b.trans (k.mono h.b.size)⟩

structure FE (w W : World) (q1 : Nat) (a1 b1 c1 a2 b2 c2 A B C k n : Int) : Prop where
  f : MC W w.heap.size a1 b1 c1
  g : MC W (w.heap.size + 1) a2 b2 c2
  h : MC W q1 A B C
  e : FC W (q1 + 1) k n
  b : Below w.heap.size w W
theorem FA.two {w W : World} {a1 b1 c1 a2 b2 c2 : Int} (h : FA w W a1 b1 c1 a2 b2 c2) (A B C k n : Int) : FE w ((W.alloc (.cells #[.int .i64 A, .int .i64 B, .int .i64 C] 23)).alloc (.cells #[.int .i64 k, .int .i64 n] 26)) W.heap.size a1 b1 c1 a2 b2 c2 A B C k n := by
  refine ⟨(h.f.below (bel_obj _ _)).below (bel_obj _ _), (h.g.below (bel_obj _ _)).below (bel_obj _ _), (MC.made W A B C).below (bel_obj _ _), ?_, (h.b.alloc h.b.size _).alloc (Nat.le_trans h.b.size (by simp)) _⟩
  have := FC.made (W.alloc (.cells #[.int .i64 A, .int .i64 B, .int .i64 C] 23)) k n
  rwa [World.size_alloc] at this
theorem FE.below {w W W' : World} {q1 : Nat} {a1 b1 c1 a2 b2 c2 A B C k n : Int} (h : FE w W q1 a1 b1 c1 a2 b2 c2 A B C k n) (j : Below W.heap.size W W') : FE w W' q1 a1 b1 c1 a2 b2 c2 A B C k n := ⟨h.f.below j, h.g.below j, h.h.below j, h.e.below j, h.b.trans (j.mono h.b.size)⟩

structure FL (w W : World) (q1 q3 : Nat) (a1 b1 c1 a2 b2 c2 A B C k n x y : Int) : Prop where
  e : FE w W q1 a1 b1 c1 a2 b2 c2 A B C k n
  v : FC W q3 x y
  lo : w.heap.size ≤ q3
  ne : q3 ≠ q1 + 1
theorem FE.third {w W : World} {q1 : Nat} {a1 b1 c1 a2 b2 c2 A B C k n : Int} (h : FE w W q1 a1 b1 c1 a2 b2 c2 A B C k n) (x y : Int) : FL w (W.alloc (.cells #[.int .i64 x, .int .i64 y] 26)) q1 W.heap.size a1 b1 c1 a2 b2 c2 A B C k n x y :=
  ⟨h.below (bel_obj _ _), FC.made W x y, h.b.size, by have := h.e.lt; omega⟩
section
variable {w W W' : World} {q1 q3 : Nat} {a1 b1 c1 a2 b2 c2 A B C k n x y : Int}
theorem FL.below (h : FL w W q1 q3 a1 b1 c1 a2 b2 c2 A B C k n x y) (j : Below W.heap.size W W') : FL w W' q1 q3 a1 b1 c1 a2 b2 c2 A B C k n x y := ⟨h.e.below j, h.v.below j, h.lo, h.ne⟩
theorem FL.drw (h : FL w W q1 q3 a1 b1 c1 a2 b2 c2 A B C k n x y) : FL w W.drew q1 q3 a1 b1 c1 a2 b2 c2 A B C k n x y := h.below (below_drewN (Below.refl _ _) 1)
theorem FL.put (h : FL w W q1 q3 a1 b1 c1 a2 b2 c2 A B C k n x y) (x' y' : Int) : FL w ((W.setCell ⟨q3, 0, none⟩ (.int .i64 x')).setCell ⟨q3, 1, none⟩ (.int .i64 y')) q1 q3 a1 b1 c1 a2 b2 c2 A B C k n x' y' := by
  have o : ∀ {g : Nat} {i j l : Int}, MC W g i j l → MC ((W.setCell ⟨q3, 0, none⟩ (.int .i64 x')).setCell ⟨q3, 1, none⟩ (.int .i64 y')) g i j l := fun hm => (hm.other (p := ⟨q3, 0, none⟩) (Ne.symm (mc_ne hm h.v)) _).other (p := ⟨q3, 1, none⟩) (Ne.symm (mc_ne hm h.v)) _
  refine ⟨⟨o h.e.f, o h.e.g, o h.e.h, ?_, (h.e.b.setCell (p := ⟨q3, 0, none⟩) h.lo _).setCell (p := ⟨q3, 1, none⟩) h.lo _⟩, (h.v.set0 x').set1 y', h.lo, h.ne⟩
  exact (heap_put _ (p := ⟨q3, 1, none⟩) h.ne).trans ((heap_put _ (p := ⟨q3, 0, none⟩) h.ne).trans h.e.e)
theorem FL.keep (h : FL w W q1 q3 a1 b1 c1 a2 b2 c2 A B C k n x y) : ((W.cell? ⟨w.heap.size, 0, none⟩ = some (.int .i64 a1) ∧ W.cell? ⟨w.heap.size, 1, none⟩ = some (.int .i64 b1) ∧ W.cell? ⟨w.heap.size, 2, none⟩ = some (.int .i64 c1)) ∧ (W.cell? ⟨w.heap.size + 1, 0, none⟩ = some (.int .i64 a2) ∧ W.cell? ⟨w.heap.size + 1, 1, none⟩ = some (.int .i64 b2) ∧ W.cell? ⟨w.heap.size + 1, 2, none⟩ = some (.int .i64 c2)) ∧ (W.cell? ⟨q1, 0, none⟩ = some (.int .i64 A) ∧ W.cell? ⟨q1, 1, none⟩ = some (.int .i64 B) ∧ W.cell? ⟨q1, 2, none⟩ = some (.int .i64 C)) ∧ W.cell? ⟨q3, 0, none⟩ = some (.int .i64 x)) ∧ Hid (FL w W q1 q3 a1 b1 c1 a2 b2 c2 A B C k n x y) :=
  ⟨⟨h.e.f.cells, h.e.g.cells, h.e.h.cells, h.v.cells.1⟩, hide h⟩
end

/-- Compose at two forms of which one is bad, or that are of two discriminants -/
theorem Compose_fault (a1 b1 c1 a2 b2 c2 k n : Int) (w : World) (hk : k ≠ 0) (h : (k, n) = if (formF a1 b1 c1).1 ≠ 0 then formF a1 b1 c1 else if (formF a2 b2 c2).1 ≠ 0 then formF a2 b2 c2 else (8, 1))
    (hne : ¬ ((formF a1 b1 c1).1 = 0 ∧ (formF a2 b2 c2).1 = 0 ∧ b1 * b1 - 4 * a1 * c1 = b2 * b2 - 4 * a2 * c2)) :
    Calls Try.prog 17 #[.agg #[.int .i64 a1, .int .i64 b1, .int .i64 c1], .agg #[.int .i64 a2, .int .i64 b2, .int .i64 c2]] w fun e w' => e = .returned (.tuple #[.agg #[.int .i64 0, .int .i64 0, .int .i64 0], .agg #[.int .i64 k, .int .i64 n]]) ∧ Below w.heap.size w w' := by
  refine (Compose_any a1 b1 c1 a2 b2 c2 w).mono ?_
  rintro e w' ⟨A, B, C, k', n', rfl, hc, hb⟩
  rcases hc with ⟨_, rfl, rfl, rfl, hkn, _⟩ | ⟨_, _, x, y, z, _⟩
  · rw [← h] at hkn
    injection hkn with h1 h2
    subst h1 h2
    exact ⟨rfl, hb⟩
  · exact absurd ⟨x, y, z⟩ hne
theorem equal_zero (w : World) : Sem.run Try.prog (Op.equalIn 10000 23 (.agg #[.int .i64 0, .int .i64 0, .int .i64 0]) (.agg #[.int .i64 0, .int .i64 0, .int .i64 0])) w = .ok true w := by kernel_rfl

/-- the discriminant of the composed form, as the answers reckon it -/
theorem dw_of {A B C D : Int} (h : RedF A B C) (hD : D = B * B - 4 * A * C) (hlow : -4000000000000 ≤ D) : dw A B C = D ∧ -1000000000000 ≤ B ∧ B ≤ 1000000000000 ∧ redB A B C = true := by
  obtain ⟨k1, k2, k3, k4, k5⟩ := red_bounds h hD hlow
  have e1 := sq_up (x := B) (N := 1154701) (by omega) (by omega)
  have e2 := sq_nn B
  have e3 := h.pos
  have e4 := h.ac
  have e5 : 1 * C ≤ A * C := Int.mul_le_mul_of_nonneg_right (by omega) (by omega)
  have e6 : 4 * A * C = 4 * (A * C) := Int.mul_assoc ..
  have e7 : 0 ≤ A * C := by omega
  refine ⟨?_, by omega, by omega, ?_⟩
  · unfold dw
    rw [show wrap64 (B * B) = B * B by unfold wrap64; omega, show wrap64 (4 * A) = 4 * A by unfold wrap64; omega, show wrap64 (4 * A * C) = 4 * A * C by unfold wrap64; omega, hD]
    unfold wrap64; omega
  · obtain ⟨h0, h1, h2, h3, h4⟩ := h
    unfold redB
    simp only [Bool.and_eq_true, Bool.or_eq_true, decide_eq_true_eq]
    omega
theorem rdisc_red (A B C D : Int) (w : World) (h : RedF A B C) (hD : D = B * B - 4 * A * C) (hlow : -4000000000000 ≤ D) :
    Calls Try.prog 18 #[.agg #[.int .i64 A, .int .i64 B, .int .i64 C]] w fun e w' => e = .returned (.int .i64 D) ∧ Below w.heap.size w w' := by
  have := rdisc_wrap A B C w
  rwa [(dw_of h hD hlow).1] at this
/-- both ways of composing give one form -/
theorem comp_same {D a1 b1 c1 a2 b2 c2 A1 B1 C1 A2 B2 C2 A B C A3 B3 C3 : Int} (hn : D < 0) (r : RedF A B C) (hd : D = B * B - 4 * A * C) (s : Sim D (Pr D (Lf a1 b1) (Lf a2 b2)) (Lf A B))
    (o1 : OInv D a1 b1 c1 A1 B1 C1) (o2 : OInv D a2 b2 c2 A2 B2 C2) (r3 : RedF A3 B3 C3) (d3 : D = B3 * B3 - 4 * A3 * C3) (s3 : Sim D (Pr D (Lf A1 B1) (Lf A2 B2)) (Lf A3 B3)) : A = A3 ∧ B = B3 ∧ C = C3 :=
  sim_unique hn hd d3 r r3 (s.symm.trans hn ((Sim.prod2 hn o1.sim o2.sim).trans hn s3))
end Go.Proofs.Ytlchmaiflcnaoaa
