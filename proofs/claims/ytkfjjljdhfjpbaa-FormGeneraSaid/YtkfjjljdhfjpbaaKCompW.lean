/- The walk of quad.compose at two reduced forms of one discriminant. -/
import Derived.Test.YtkfjjljdhfjpbaaK0
import Derived.Test.YtkfjjljdhfjpbaaKRedBig
import Derived.Test.YtkfjjljdhfjpbaaKFormH
import Derived.Test.YtkfjjljdhfjpbaaKTimes
import Derived.Deep.DeepCutAuto
namespace Go.Proofs.Ytkfjjljdhfjpbaa
open Go.RowKit

set_option maxRecDepth 100000 in
set_option maxHeartbeats 800000 in
theorem euclid_any (a b : Int) (w : World) (ha : a.natAbs ≤ 1000000000000000000) (hb : b.natAbs ≤ 1000000000000000000) : Calls Try.prog 32 #[.int .i64 a, .int .i64 b] w fun e w' => ∃ g u v : Int, e = .returned (.tuple #[.int .i64 g, .int .i64 u, .int .i64 v]) ∧ BezOk a b g u v ∧ Below w.heap.size w w' := by
  have C := fun W => hide (bezout_any a b W)
  have e0 : lookK 0 [a, b] = (0, 0) := by
    rw [lookK, if_pos (by unfold okB; simp; omega), lookK, if_pos (by unfold okB; simp; omega), lookK]
  have E0 := hide e0
  clear e0 ha hb
  go_enter Try.func32, Try.ntmps32
  go_wp2_with fail
  refine (C _).out.mono ?_
  rintro e w1 ⟨g, u, v, rfl, hok, _, hb⟩
  rw [E0.out] at hok ⊢
  have HO := hide (hok rfl)
  simp only [fv]
  have HB := hide hb
  clear hb hok
  go_wp2_with fail
  go_ret3
  exact ⟨g, u, v, rfl, HO.out, HB.out.alloc HB.out.size _⟩

/-- the blocks of compose's frame -/
structure Duo (w wx : World) (n : Nat) (a1 b1 c1 a2 b2 c2 : Int) : Prop where
  f : MC wx n a1 b1 c1
  g : MC wx (n + 1) a2 b2 c2
  z : MC wx (n + 1 + 1) 0 0 0
  b : Below w.heap.size w wx
theorem Duo.below {w wx wy : World} {n : Nat} {a1 b1 c1 a2 b2 c2 : Int} (h : Duo w wx n a1 b1 c1 a2 b2 c2) (k : Below wx.heap.size wx wy) : Duo w wy n a1 b1 c1 a2 b2 c2 :=
  ⟨h.f.below k, h.g.below k, h.z.below k, h.b.trans (k.mono h.b.size)⟩
theorem Duo.start (w : World) (a1 b1 c1 a2 b2 c2 : Int) : Duo w (((w.alloc (.cells #[.int .i64 a1, .int .i64 b1, .int .i64 c1] 23)).alloc (.cells #[.int .i64 a2, .int .i64 b2, .int .i64 c2] 23)).alloc (.cells #[.int .i64 0, .int .i64 0, .int .i64 0] 23)) w.heap.size a1 b1 c1 a2 b2 c2 := by
  refine ⟨((MC.made w a1 b1 c1).below (bel_obj _ _)).below (bel_obj _ _), ?_, ?_, bel3 _ _ _ _⟩
  · have := (MC.made (w.alloc (.cells #[.int .i64 a1, .int .i64 b1, .int .i64 c1] 23)) a2 b2 c2).below (bel_obj _ (.cells #[.int .i64 0, .int .i64 0, .int .i64 0] 23))
    rwa [World.size_alloc] at this
  · have := MC.made ((w.alloc (.cells #[.int .i64 a1, .int .i64 b1, .int .i64 c1] 23)).alloc (.cells #[.int .i64 a2, .int .i64 b2, .int .i64 c2] 23)) 0 0 0
    rwa [World.size_alloc, World.size_alloc] at this
theorem Duo.swap {w wx : World} {n : Nat} {a1 b1 c1 a2 b2 c2 : Int} (h : Duo w wx n a1 b1 c1 a2 b2 c2) (hn : w.heap.size ≤ n) : Duo w (put3 (put3 wx n a2 b2 c2) (n + 1) a1 b1 c1) n a2 b2 c2 a1 b1 c1 := by
  have hz : ∀ g' x y z W, w.heap.size ≤ g' → Below w.heap.size w W → Below w.heap.size w (put3 W g' x y z) := fun g' x y z W hg hW => ((hW.setCell (p := ⟨g', 0, none⟩) hg _).setCell (p := ⟨g', 1, none⟩) hg _).setCell (p := ⟨g', 2, none⟩) hg _
  refine ⟨(put3_heap _ _ _ (by omega)).trans (h.f.put a2 b2 c2), ?_, ?_, hz _ _ _ _ _ (by omega) (hz _ _ _ _ _ hn h.b)⟩
  · have : MC (put3 wx n a2 b2 c2) (n + 1) a2 b2 c2 := (put3_heap _ _ _ (by omega)).trans h.g
    exact this.put a1 b1 c1
  · exact (put3_heap _ _ _ (by omega)).trans ((put3_heap _ _ _ (by omega)).trans h.z)

theorem comp_wraps {b2 c2 d1 v1 v2 r C : Int} (hC : c2 * d1 + r * (b2 + v2 * r) = v1 * C) (h : (1 ≤ v1 ∧ v1 ≤ 1154701) ∧ (1 ≤ v2 ∧ v2 ≤ 1154701) ∧ (1 ≤ d1 ∧ d1 ≤ 1154701) ∧ (1 ≤ v1 * v2 ∧ v1 * v2 ≤ 1400000000000) ∧ (0 ≤ v2 * r ∧ v2 * r ≤ 1400000000000) ∧ (0 ≤ c2 * d1 ∧ c2 * d1 ≤ 1340000000000) ∧ (-1700000000000000000 ≤ r * (b2 + v2 * r) ∧ r * (b2 + v2 * r) ≤ 1700000000000000000) ∧ 1 ≤ C ∧ C ≤ 3000000000000) (hb : -1154701 ≤ b2 ∧ b2 ≤ 1154701) :
    wrap64 (v1 * v2) = v1 * v2 ∧ wrap64 (2 * v2) = 2 * v2 ∧ wrap64 (2 * v2 * r) = 2 * v2 * r ∧ wrap64 (b2 + 2 * v2 * r) = b2 + 2 * v2 * r ∧ wrap64 (c2 * d1) = c2 * d1 ∧ wrap64 (v2 * r) = v2 * r ∧ wrap64 (b2 + v2 * r) = b2 + v2 * r ∧ wrap64 (r * (b2 + v2 * r)) = r * (b2 + v2 * r) ∧ wrap64 (c2 * d1 + r * (b2 + v2 * r)) = v1 * C := by
  have m5 : 2 * v2 * r = 2 * (v2 * r) := Int.mul_assoc _ _ _
  rw [hC, m5]
  have h9 : -1700000000000000000 ≤ v1 * C ∧ v1 * C ≤ 1701340000000000000 := by rw [← hC]; omega
  obtain ⟨x, hx⟩ : ∃ x, v1 * v2 = x := ⟨_, rfl⟩
  obtain ⟨y, hy⟩ : ∃ y, v2 * r = y := ⟨_, rfl⟩
  obtain ⟨z, hz⟩ : ∃ z, c2 * d1 = z := ⟨_, rfl⟩
  rw [hx, hy, hz] at h
  rw [hx, hy, hz]
  obtain ⟨u, hu⟩ : ∃ u, r * (b2 + y) = u := ⟨_, rfl⟩
  obtain ⟨q, hq⟩ : ∃ q, v1 * C = q := ⟨_, rfl⟩
  rw [hu] at h ⊢
  rw [hq] at h9 ⊢
  clear hC m5 hx hy hz hu hq
  unfold wrap64
  omega

/-- what compose answers -/
def RetComp (w : World) (D a1 b1 a2 b2 : Int) : Ending → World → Prop := fun e w' => ∃ A B C : Int, e = .returned (.agg #[.int .i64 A, .int .i64 B, .int .i64 C]) ∧ RedF A B C ∧ D = B * B - 4 * A * C ∧ Sim D (Pr D (Lf a1 b1) (Lf a2 b2)) (Lf A B) ∧ Below w.heap.size w w'

theorem comp_end {a1 b1 a2 b2 A3 B3 C3 A B C p q r s D : Int} (hdisc : B3 * B3 - 4 * A3 * C3 = D) (hsim : Sim D (Pr D (Lf a1 b1) (Lf a2 b2)) (Lf A3 B3)) (h : RBig A3 B3 C3 A B C p q r s) (hlo : -A < B) (hhi : B ≤ A) (hac : A < C ∨ A = C ∧ 0 ≤ B) (hA3 : 1 ≤ A3) (hD : D < 0) :
    RedF A B C ∧ D = B * B - 4 * A * C ∧ Sim D (Pr D (Lf a1 b1) (Lf a2 b2)) (Lf A B) := by
  have ha := h.a1
  refine ⟨⟨by omega, hlo, hhi, by omega, by omega⟩, by rw [h.d, hdisc], hsim.trans hD ?_⟩
  have := sim_turn (a := A3) (b := B3) (c := C3) (A := A) (B := B) h.det (by rw [h.va]; rfl) h.vb (by omega) (by omega)
  rw [hdisc] at this
  exact this
-- PRINTED BY gen_comp.py
set_option maxRecDepth 100000 in
set_option maxHeartbeats 6400000 in
theorem compose_le (a1 b1 c1 a2 b2 c2 D : Int) (w : World) (hord : a1 ≤ a2) (r1 : RedF a1 b1 c1) (r2 : RedF a2 b2 c2) (hD1 : D = b1 * b1 - 4 * a1 * c1) (hD2 : D = b2 * b2 - 4 * a2 * c2) (hlow : -4000000000000 ≤ D) (g1 : Int.gcd a1 (Int.gcd b1 c1) = 1) (_g2 : Int.gcd a2 (Int.gcd b2 c2) = 1) :
    Calls Try.prog 27 #[.agg #[.int .i64 a1, .int .i64 b1, .int .i64 c1], .agg #[.int .i64 a2, .int .i64 b2, .int .i64 c2]] w (RetComp w D a1 b1 a2 b2) := by
  have D0 := hide (Duo.start w a1 b1 c1 a2 b2 c2)
  have HH := hide (comp_all r1 r2 hD1 hD2 hlow g1)
  have HR := hide (And.intro r1 (And.intro r2 (And.intro hD1 hD2)))
  have CE1 := fun W => hide (euclid_any a2 a1 W (by have := HH.out.sm; omega) (by have := HH.out.sm; omega))
  clear r1 r2 hD1 hD2 g1 _g2 hlow
  go_enter Try.func27, Try.ntmps27
  go_upto_region 3 with (fail)
  all_goals (try (exfalso; omega))
  obtain ⟨W0, hW0⟩ : ∃ Z, (((w.alloc (.cells #[.int .i64 a1, .int .i64 b1, .int .i64 c1] 23)).alloc (.cells #[.int .i64 a2, .int .i64 b2, .int .i64 c2] 23)).alloc (.cells #[.int .i64 0, .int .i64 0, .int .i64 0] 23)) = Z := ⟨_, rfl⟩
  rw [hW0] at D0
  (try rw [hW0])
  obtain ⟨n, hn⟩ : ∃ n, w.heap.size = n := ⟨_, rfl⟩
  rw [hn] at D0
  (try rw [hn])
  clear hW0
  obtain ⟨f0, f1, f2⟩ := D0.out.f.cells
  obtain ⟨g0, g1, g2⟩ := D0.out.g.cells
  obtain ⟨s0, N, hs, hN, hS⟩ := HH.out.half
  have hsm := HH.out.sm
  have e1 : IntKind.i64.wrap (b1 + b2) = b1 + b2 := by rw [IntKind.wrap_i64]; omega
  have e2 : (b1 + b2).tdiv 2 = s0 := by rw [hs]; exact Int.mul_tdiv_cancel_left _ (by omega)
  have e3 : (b1 + b2) / 2 = s0 := by rw [hs]; omega
  have e4 : IntKind.i64.wrap (b2 - s0) = N := by rw [IntKind.wrap_i64]; omega
  have e5 : b2 - s0 = N := by omega
  have HS := hide (And.intro hs hN)
  have hN1 : -2309402 ≤ N := by omega
  have hN2 : N ≤ 2309402 := by omega
  obtain ⟨hS1, hS2⟩ := hS
  clear hs hN hsm
  go_wp2_with fail
  refine (CE1 _).out.mono ?_
  rintro e w1 ⟨d, y1, u1, rfl, hz, hb⟩
  have D1 := hide (D0.out.below hb)
  have HZ1 := hide hz
  have hd0 : 0 < d := by
    rw [hz.gcd]
    have := Int.gcd_pos_of_ne_zero_left a1 (show a2 ≠ 0 by have := HH.out.sm; omega)
    omega
  have hd9 : d ≤ 1154701 := by
    rw [hz.gcd]
    have h1 : Int.gcd a2 a1 ≤ (a2).natAbs := Nat.gcd_le_left _ (by have := HH.out.sm; omega)
    have := HH.out.sm
    omega
  have hy1 := hz.us
  have CE2 := fun W => hide (euclid_any s0 d W (by omega) (by omega))
  clear hb hz f0 f1 f2 g0 g1 g2 e1 e2 e3 e4 e5 CE1 D0
  obtain ⟨f0, f1, f2⟩ := D1.out.f.cells
  obtain ⟨g0, g1, g2⟩ := D1.out.g.cells
  go_wp2_with fail
  refine (CE2 _).out.mono ?_
  rintro e w2 ⟨d1, x2, y2, rfl, hz, hb⟩
  have D2 := hide (D1.out.below hb)
  have hx2 := hz.us
  have hy2 := hz.vs
  obtain ⟨v1, v2, q1, q2, hd1, hv1, hv2, hv9, hq⟩ := HH.out.nums s0 N d y1 u1 d1 x2 y2 HS.out.1 HS.out.2 HZ1.out.gcd HZ1.out.eq hz.gcd hz.eq
  have HQ := hide hq
  have t1 : (a1).tdiv d1 = v1 := by rw [q1]; exact Int.mul_tdiv_cancel_left _ (by omega)
  have t2 : (a2).tdiv d1 = v2 := by rw [q2]; exact Int.mul_tdiv_cancel_left _ (by omega)
  have t3 : a1 / d1 = v1 := by rw [q1]; exact Int.mul_ediv_cancel_left _ (by omega)
  have t4 : a2 / d1 = v2 := by rw [q2]; exact Int.mul_ediv_cancel_left _ (by omega)
  have t5 : (d1 == 0) = false := by simp; omega
  have t6 : ¬ d1 = 0 := by omega
  have t7 : ¬ v1 = 0 := by omega
  have t8 : (v1 == 0) = false := by simp; omega
  have hd19 : d1 ≤ 1154701 := by
    have h1 : d1 * 1 ≤ d1 * v1 := Int.mul_le_mul_of_nonneg_left (by omega) (by omega)
    have := HH.out.sm
    omega
  have hv29 : v2 ≤ 1154701 := by
    have h1 : 1 * v2 ≤ d1 * v2 := Int.mul_le_mul_of_nonneg_right (by omega) (by omega)
    have := HH.out.sm
    omega
  have hsm := HH.out.sm
  have T1 := fun W => hide (times_any y1 y2 v1 W hv1 (by omega) (by omega) (by omega) (by omega) (by omega))
  obtain ⟨m1, hm1⟩ : ∃ m, y1 * y2 % v1 = m := ⟨_, rfl⟩
  have m1b : 0 ≤ m1 ∧ m1 < v1 := by rw [← hm1]; exact ⟨Int.emod_nonneg _ (by omega), Int.emod_lt_of_pos _ hv1⟩
  rw [hm1] at T1
  have T2 := fun W => hide (times_any m1 N v1 W hv1 (by omega) (by omega) (by omega) (by omega) (by omega))
  obtain ⟨m2, hm2⟩ : ∃ m, m1 * N % v1 = m := ⟨_, rfl⟩
  have m2b : 0 ≤ m2 ∧ m2 < v1 := by rw [← hm2]; exact ⟨Int.emod_nonneg _ (by omega), Int.emod_lt_of_pos _ hv1⟩
  rw [hm2] at T2
  have T3 := fun W => hide (times_any x2 c2 v1 W hv1 (by omega) (by omega) (by omega) (by omega) (by omega))
  obtain ⟨m3, hm3⟩ : ∃ m, x2 * c2 % v1 = m := ⟨_, rfl⟩
  have m3b : 0 ≤ m3 ∧ m3 < v1 := by rw [← hm3]; exact ⟨Int.emod_nonneg _ (by omega), Int.emod_lt_of_pos _ hv1⟩
  rw [hm3] at T3
  have M1 := fun W => hide ((mod_any (-m2 - m3) v1 W hv1 (by omega) (by omega) (by omega)).mono fun _ _ h => (⟨h.1, h.2.symm⟩ : _ ∧ _ = W))
  obtain ⟨r, hr⟩ : ∃ m, (-m2 - m3) % v1 = m := ⟨_, rfl⟩
  have rb : 0 ≤ r ∧ r < v1 := by rw [← hr]; exact ⟨Int.emod_nonneg _ (by omega), Int.emod_lt_of_pos _ hv1⟩
  rw [hr] at M1
  obtain ⟨t0, ht0⟩ := comp_r hm1 hm2 hm3 hr
  obtain ⟨C, hC, hdisc, hsim, hbd⟩ := HQ.out r t0 ht0 rb.1 rb.2
  have HC := hide (And.intro hdisc hsim)
  have HB := hide hbd
  obtain ⟨W1, W2, W3, W4, W5, W6, W7, W8, W9⟩ := comp_wraps hC hbd ⟨by omega, by omega⟩
  have W10 : (v1 * C).tdiv v1 = C := Int.mul_tdiv_cancel_left _ (by omega)
  have W11 : v1 * C / v1 = C := Int.mul_ediv_cancel_left _ (by omega)
  obtain ⟨m2c, m2d⟩ := m2b
  obtain ⟨m3c, m3d⟩ := m3b
  clear hb hz q1 q2 hq hm1 hm2 hm3 hr ht0 hC hdisc hsim hbd CE2 hsm m1b hx2 hy2 hy1 hd0 hd9 D1 f0 f1 f2 g0 g1 g2
  obtain ⟨f0, f1, f2⟩ := D2.out.f.cells
  obtain ⟨g0, g1, g2⟩ := D2.out.g.cells
  go_wp2_with fail
  go_quiet (fail)
  obtain ⟨w3, hw3⟩ : ∃ Z, w2.drewN nq = Z := ⟨_, rfl⟩
  have D3 : Hid (Duo w w3 n a1 b1 c1 a2 b2 c2) := hide (by rw [← hw3]; exact D2.out.below (below_drewN (Below.refl _ _) _))
  rw [hw3]
  clear hw3 f0 f1 f2 g0 g1 g2 D2
  obtain ⟨f0, f1, f2⟩ := D3.out.f.cells
  obtain ⟨g0, g1, g2⟩ := D3.out.g.cells
  go_wp2_with fail
  go_quiet (first | (go_at_call 33; first | (with_reducible refine Calls.quiet_of (T1 _).out) | (with_reducible refine Calls.quiet_of (T2 _).out) | (with_reducible refine Calls.quiet_of (T3 _).out)) | (go_at_call 20; with_reducible refine Calls.quiet_of_same (M1 _).out))
  obtain ⟨w4, hw4⟩ : ∃ Z, w3.drewN nq = Z := ⟨_, rfl⟩
  have D4 : Hid (Duo w w4 n a1 b1 c1 a2 b2 c2) := hide (by rw [← hw4]; exact D3.out.below (below_drewN (Below.refl _ _) _))
  rw [hw4]
  clear hw4 f0 f1 f2 g0 g1 g2 D3 T1 T2 T3 M1
  have NW := MC.made w4 0 0 0
  have KB : Below w4.heap.size w4 (w4.alloc (.cells #[.int .i64 0, .int .i64 0, .int .i64 0] 23)) := bel_obj _ _
  obtain ⟨n0, n1, n2⟩ := NW.cells
  have D5 := hide (D4.out.below KB)
  obtain ⟨f0, f1, f2⟩ := D5.out.f.cells
  obtain ⟨g0, g1, g2⟩ := D5.out.g.cells
  obtain ⟨p0, p1, p2⟩ := D4.out.f.cells
  obtain ⟨o0, o1, o2⟩ := D4.out.g.cells
  have z0 := NW.frozen 0
  have z1 := NW.frozen 1
  have z2 := NW.frozen 2
  have HNW := hide NW
  have HKB := hide KB
  clear KB NW
  have W12 : wrap64 C = C := by have := HB.out; unfold wrap64; omega
  have AS : Hid (MC (w4.alloc (.cells #[.int .i64 (v1 * v2), .int .i64 (b2 + 2 * v2 * r), .int .i64 C] 23)).drew w4.heap.size (v1 * v2) (b2 + 2 * v2 * r) C) := hide (MC.made w4 _ _ _).drew
  have D6 : Hid (Duo w (w4.alloc (.cells #[.int .i64 (v1 * v2), .int .i64 (b2 + 2 * v2 * r), .int .i64 C] 23)).drew n a1 b1 c1 a2 b2 c2) := hide (D4.out.below ((bel_obj _ _).drew))
  have hn4 : n + 1 + 1 < w4.heap.size := D4.out.z.lt
  have CR := fun W => hide (reduce_big (v1 * v2) (b2 + 2 * v2 * r) C W (by have := HB.out; omega) (by have := HB.out; omega) (by have := HB.out; omega) (by have := HB.out; omega) (by have h1 := HC.out.1; have h2 := HH.out.sm; omega))
  go_wp2_with fail
  go_region
  obtain ⟨w5, hw5⟩ : ∃ Z, (w4.alloc (.cells #[.int .i64 (v1 * v2), .int .i64 (b2 + 2 * v2 * r), .int .i64 C] 23)).drew = Z := ⟨_, rfl⟩
  rw [hw5] at AS D6
  (try rw [hw5])
  obtain ⟨n4, hn5⟩ : ∃ m, w4.heap.size = m := ⟨_, rfl⟩
  rw [hn5] at AS hn4
  (try rw [hn5])
  clear hw5 hn5 f0 f1 f2 g0 g1 g2 p0 p1 p2 o0 o1 o2 n0 n1 n2 z0 z1 z2 HNW HKB D5 D4 W1 W2 W3 W4 W5 W6 W7 W8 W9 W10 W11 W12
  obtain ⟨a0, a1', a2'⟩ := AS.out.cells
  go_wp2_with fail
  refine (CR _).out.mono ?_
  rintro e w6 ⟨A, B, C', p, q, p', q', rfl, hI, hlo, hhi, hac, hb⟩
  have M7 := hide (AS.out.below hb)
  have D7 := hide (D6.out.below hb)
  have HI := hide hI
  have HF := hide (And.intro hlo (And.intro hhi hac))
  have y0 := M7.out.frozen 0
  have y1' := M7.out.frozen 1
  have y2' := M7.out.frozen 2
  obtain ⟨x0, x1, x2'⟩ := M7.out.cells
  have M8 := hide (M7.out.put A B C')
  have D8 : Hid (Duo w (put3 w6 n4 A B C') n a1 b1 c1 a2 b2 c2) := hide (by
    have e := D7.out
    have hz : w.heap.size ≤ n4 := by omega
    exact ⟨(put3_heap _ _ _ (by omega)).trans e.f, (put3_heap _ _ _ (by omega)).trans e.g, (put3_heap _ _ _ (by omega)).trans e.z, ((e.b.setCell (p := ⟨n4, 0, none⟩) hz _).setCell (p := ⟨n4, 1, none⟩) hz _).setCell (p := ⟨n4, 2, none⟩) hz _⟩)
  obtain ⟨u0, u1', u2⟩ := M8.out.cells
  obtain ⟨z0, z1, z2⟩ := D8.out.z.cells
  have zf0 := D8.out.z.frozen 0
  have zf1 := D8.out.z.frozen 1
  have zf2 := D8.out.z.frozen 2
  unfold put3 at u0 u1' u2 z0 z1 z2 zf0 zf1 zf2
  have M9 := hide (D8.out.z.put A B C')
  obtain ⟨v0, v1', v2'⟩ := M9.out.cells
  unfold put3 at v0 v1' v2'
  have hB9 : Hid (Below w.heap.size w (put3 (put3 w6 n4 A B C') (n + 1 + 1) A B C')) := hide (by
    have hz : w.heap.size ≤ n + 1 + 1 := by omega
    exact ((D8.out.b.setCell (p := ⟨n + 1 + 1, 0, none⟩) hz _).setCell (p := ⟨n + 1 + 1, 1, none⟩) hz _).setCell (p := ⟨n + 1 + 1, 2, none⟩) hz _)
  unfold put3 at hB9
  have HEND : Hid (RedF A B C' ∧ D = B * B - 4 * A * C' ∧ Sim D (Pr D (Lf a1 b1) (Lf a2 b2)) (Lf A B)) := hide (comp_end HC.out.1 HC.out.2 HI.out HF.out.1 HF.out.2.1 HF.out.2.2 (by have := HB.out; omega) HH.out.sm.2.2.2.2.2)
  clear hb hI hlo hhi hac a0 a1' a2' M7 M8 D6 D7 AS CR
  go_wp2_with fail
  exact bodyPost_ret (v := .agg #[.int .i64 A, .int .i64 B, .int .i64 C']) (by simp [results, Try.results27, go_sem, v0, v1', v2']) rfl ⟨A, B, C', rfl, HEND.out.1, HEND.out.2.1, HEND.out.2.2, hB9.out⟩

set_option maxRecDepth 100000 in
set_option maxHeartbeats 6400000 in
theorem compose_gt (a1 b1 c1 a2 b2 c2 D : Int) (w : World) (hord : a2 < a1) (r1 : RedF a1 b1 c1) (r2 : RedF a2 b2 c2) (hD1 : D = b1 * b1 - 4 * a1 * c1) (hD2 : D = b2 * b2 - 4 * a2 * c2) (hlow : -4000000000000 ≤ D) (_g1 : Int.gcd a1 (Int.gcd b1 c1) = 1) (g2 : Int.gcd a2 (Int.gcd b2 c2) = 1) :
    Calls Try.prog 27 #[.agg #[.int .i64 a1, .int .i64 b1, .int .i64 c1], .agg #[.int .i64 a2, .int .i64 b2, .int .i64 c2]] w (RetComp w D a1 b1 a2 b2) := by
  have D0 := hide (Duo.start w a2 b2 c2 a1 b1 c1)
  have HH := hide (comp_all r2 r1 hD2 hD1 hlow g2)
  have HR := hide (And.intro r2 (And.intro r1 (And.intro hD2 hD1)))
  have CE1 := fun W => hide (euclid_any a1 a2 W (by have := HH.out.sm; omega) (by have := HH.out.sm; omega))
  clear r1 r2 hD1 hD2 _g1 g2 hlow
  go_enter Try.func27, Try.ntmps27
  go_upto_region 3 with (fail)
  all_goals (try (exfalso; omega))
  obtain ⟨W0, hW0⟩ : ∃ Z, (((w.alloc (.cells #[.int .i64 a2, .int .i64 b2, .int .i64 c2] 23)).alloc (.cells #[.int .i64 a1, .int .i64 b1, .int .i64 c1] 23)).alloc (.cells #[.int .i64 0, .int .i64 0, .int .i64 0] 23)) = Z := ⟨_, rfl⟩
  rw [hW0] at D0
  (try rw [hW0])
  obtain ⟨n, hn⟩ : ∃ n, w.heap.size = n := ⟨_, rfl⟩
  rw [hn] at D0
  (try rw [hn])
  clear hW0
  obtain ⟨f0, f1, f2⟩ := D0.out.f.cells
  obtain ⟨g0, g1, g2⟩ := D0.out.g.cells
  obtain ⟨s0, N, hs, hN, hS⟩ := HH.out.half
  have hsm := HH.out.sm
  have e1 : IntKind.i64.wrap (b2 + b1) = b2 + b1 := by rw [IntKind.wrap_i64]; omega
  have e2 : (b2 + b1).tdiv 2 = s0 := by rw [hs]; exact Int.mul_tdiv_cancel_left _ (by omega)
  have e3 : (b2 + b1) / 2 = s0 := by rw [hs]; omega
  have e4 : IntKind.i64.wrap (b1 - s0) = N := by rw [IntKind.wrap_i64]; omega
  have e5 : b1 - s0 = N := by omega
  have HS := hide (And.intro hs hN)
  have hN1 : -2309402 ≤ N := by omega
  have hN2 : N ≤ 2309402 := by omega
  obtain ⟨hS1, hS2⟩ := hS
  clear hs hN hsm
  go_wp2_with fail
  refine (CE1 _).out.mono ?_
  rintro e w1 ⟨d, y1, u1, rfl, hz, hb⟩
  have D1 := hide (D0.out.below hb)
  have HZ1 := hide hz
  have hd0 : 0 < d := by
    rw [hz.gcd]
    have := Int.gcd_pos_of_ne_zero_left a2 (show a1 ≠ 0 by have := HH.out.sm; omega)
    omega
  have hd9 : d ≤ 1154701 := by
    rw [hz.gcd]
    have h1 : Int.gcd a1 a2 ≤ (a1).natAbs := Nat.gcd_le_left _ (by have := HH.out.sm; omega)
    have := HH.out.sm
    omega
  have hy1 := hz.us
  have CE2 := fun W => hide (euclid_any s0 d W (by omega) (by omega))
  clear hb hz f0 f1 f2 g0 g1 g2 e1 e2 e3 e4 e5 CE1 D0
  obtain ⟨f0, f1, f2⟩ := D1.out.f.cells
  obtain ⟨g0, g1, g2⟩ := D1.out.g.cells
  go_wp2_with fail
  refine (CE2 _).out.mono ?_
  rintro e w2 ⟨d1, x2, y2, rfl, hz, hb⟩
  have D2 := hide (D1.out.below hb)
  have hx2 := hz.us
  have hy2 := hz.vs
  obtain ⟨v1, v2, q1, q2, hd1, hv1, hv2, hv9, hq⟩ := HH.out.nums s0 N d y1 u1 d1 x2 y2 HS.out.1 HS.out.2 HZ1.out.gcd HZ1.out.eq hz.gcd hz.eq
  have HQ := hide hq
  have t1 : (a2).tdiv d1 = v1 := by rw [q1]; exact Int.mul_tdiv_cancel_left _ (by omega)
  have t2 : (a1).tdiv d1 = v2 := by rw [q2]; exact Int.mul_tdiv_cancel_left _ (by omega)
  have t3 : a2 / d1 = v1 := by rw [q1]; exact Int.mul_ediv_cancel_left _ (by omega)
  have t4 : a1 / d1 = v2 := by rw [q2]; exact Int.mul_ediv_cancel_left _ (by omega)
  have t5 : (d1 == 0) = false := by simp; omega
  have t6 : ¬ d1 = 0 := by omega
  have t7 : ¬ v1 = 0 := by omega
  have t8 : (v1 == 0) = false := by simp; omega
  have hd19 : d1 ≤ 1154701 := by
    have h1 : d1 * 1 ≤ d1 * v1 := Int.mul_le_mul_of_nonneg_left (by omega) (by omega)
    have := HH.out.sm
    omega
  have hv29 : v2 ≤ 1154701 := by
    have h1 : 1 * v2 ≤ d1 * v2 := Int.mul_le_mul_of_nonneg_right (by omega) (by omega)
    have := HH.out.sm
    omega
  have hsm := HH.out.sm
  have T1 := fun W => hide (times_any y1 y2 v1 W hv1 (by omega) (by omega) (by omega) (by omega) (by omega))
  obtain ⟨m1, hm1⟩ : ∃ m, y1 * y2 % v1 = m := ⟨_, rfl⟩
  have m1b : 0 ≤ m1 ∧ m1 < v1 := by rw [← hm1]; exact ⟨Int.emod_nonneg _ (by omega), Int.emod_lt_of_pos _ hv1⟩
  rw [hm1] at T1
  have T2 := fun W => hide (times_any m1 N v1 W hv1 (by omega) (by omega) (by omega) (by omega) (by omega))
  obtain ⟨m2, hm2⟩ : ∃ m, m1 * N % v1 = m := ⟨_, rfl⟩
  have m2b : 0 ≤ m2 ∧ m2 < v1 := by rw [← hm2]; exact ⟨Int.emod_nonneg _ (by omega), Int.emod_lt_of_pos _ hv1⟩
  rw [hm2] at T2
  have T3 := fun W => hide (times_any x2 c1 v1 W hv1 (by omega) (by omega) (by omega) (by omega) (by omega))
  obtain ⟨m3, hm3⟩ : ∃ m, x2 * c1 % v1 = m := ⟨_, rfl⟩
  have m3b : 0 ≤ m3 ∧ m3 < v1 := by rw [← hm3]; exact ⟨Int.emod_nonneg _ (by omega), Int.emod_lt_of_pos _ hv1⟩
  rw [hm3] at T3
  have M1 := fun W => hide ((mod_any (-m2 - m3) v1 W hv1 (by omega) (by omega) (by omega)).mono fun _ _ h => (⟨h.1, h.2.symm⟩ : _ ∧ _ = W))
  obtain ⟨r, hr⟩ : ∃ m, (-m2 - m3) % v1 = m := ⟨_, rfl⟩
  have rb : 0 ≤ r ∧ r < v1 := by rw [← hr]; exact ⟨Int.emod_nonneg _ (by omega), Int.emod_lt_of_pos _ hv1⟩
  rw [hr] at M1
  obtain ⟨t0, ht0⟩ := comp_r hm1 hm2 hm3 hr
  obtain ⟨C, hC, hdisc, hsim, hbd⟩ := HQ.out r t0 ht0 rb.1 rb.2
  have HC := hide (And.intro hdisc hsim)
  have HB := hide hbd
  obtain ⟨W1, W2, W3, W4, W5, W6, W7, W8, W9⟩ := comp_wraps hC hbd ⟨by omega, by omega⟩
  have W10 : (v1 * C).tdiv v1 = C := Int.mul_tdiv_cancel_left _ (by omega)
  have W11 : v1 * C / v1 = C := Int.mul_ediv_cancel_left _ (by omega)
  obtain ⟨m2c, m2d⟩ := m2b
  obtain ⟨m3c, m3d⟩ := m3b
  clear hb hz q1 q2 hq hm1 hm2 hm3 hr ht0 hC hdisc hsim hbd CE2 hsm m1b hx2 hy2 hy1 hd0 hd9 D1 f0 f1 f2 g0 g1 g2
  obtain ⟨f0, f1, f2⟩ := D2.out.f.cells
  obtain ⟨g0, g1, g2⟩ := D2.out.g.cells
  go_wp2_with fail
  go_quiet (fail)
  obtain ⟨w3, hw3⟩ : ∃ Z, w2.drewN nq = Z := ⟨_, rfl⟩
  have D3 : Hid (Duo w w3 n a2 b2 c2 a1 b1 c1) := hide (by rw [← hw3]; exact D2.out.below (below_drewN (Below.refl _ _) _))
  rw [hw3]
  clear hw3 f0 f1 f2 g0 g1 g2 D2
  obtain ⟨f0, f1, f2⟩ := D3.out.f.cells
  obtain ⟨g0, g1, g2⟩ := D3.out.g.cells
  go_wp2_with fail
  go_quiet (first | (go_at_call 33; first | (with_reducible refine Calls.quiet_of (T1 _).out) | (with_reducible refine Calls.quiet_of (T2 _).out) | (with_reducible refine Calls.quiet_of (T3 _).out)) | (go_at_call 20; with_reducible refine Calls.quiet_of_same (M1 _).out))
  obtain ⟨w4, hw4⟩ : ∃ Z, w3.drewN nq = Z := ⟨_, rfl⟩
  have D4 : Hid (Duo w w4 n a2 b2 c2 a1 b1 c1) := hide (by rw [← hw4]; exact D3.out.below (below_drewN (Below.refl _ _) _))
  rw [hw4]
  clear hw4 f0 f1 f2 g0 g1 g2 D3 T1 T2 T3 M1
  have NW := MC.made w4 0 0 0
  have KB : Below w4.heap.size w4 (w4.alloc (.cells #[.int .i64 0, .int .i64 0, .int .i64 0] 23)) := bel_obj _ _
  obtain ⟨n0, n1, n2⟩ := NW.cells
  have D5 := hide (D4.out.below KB)
  obtain ⟨f0, f1, f2⟩ := D5.out.f.cells
  obtain ⟨g0, g1, g2⟩ := D5.out.g.cells
  obtain ⟨p0, p1, p2⟩ := D4.out.f.cells
  obtain ⟨o0, o1, o2⟩ := D4.out.g.cells
  have z0 := NW.frozen 0
  have z1 := NW.frozen 1
  have z2 := NW.frozen 2
  have HNW := hide NW
  have HKB := hide KB
  clear KB NW
  have W12 : wrap64 C = C := by have := HB.out; unfold wrap64; omega
  have AS : Hid (MC (w4.alloc (.cells #[.int .i64 (v1 * v2), .int .i64 (b1 + 2 * v2 * r), .int .i64 C] 23)).drew w4.heap.size (v1 * v2) (b1 + 2 * v2 * r) C) := hide (MC.made w4 _ _ _).drew
  have D6 : Hid (Duo w (w4.alloc (.cells #[.int .i64 (v1 * v2), .int .i64 (b1 + 2 * v2 * r), .int .i64 C] 23)).drew n a2 b2 c2 a1 b1 c1) := hide (D4.out.below ((bel_obj _ _).drew))
  have hn4 : n + 1 + 1 < w4.heap.size := D4.out.z.lt
  have CR := fun W => hide (reduce_big (v1 * v2) (b1 + 2 * v2 * r) C W (by have := HB.out; omega) (by have := HB.out; omega) (by have := HB.out; omega) (by have := HB.out; omega) (by have h1 := HC.out.1; have h2 := HH.out.sm; omega))
  go_wp2_with fail
  go_region
  obtain ⟨w5, hw5⟩ : ∃ Z, (w4.alloc (.cells #[.int .i64 (v1 * v2), .int .i64 (b1 + 2 * v2 * r), .int .i64 C] 23)).drew = Z := ⟨_, rfl⟩
  rw [hw5] at AS D6
  (try rw [hw5])
  obtain ⟨n4, hn5⟩ : ∃ m, w4.heap.size = m := ⟨_, rfl⟩
  rw [hn5] at AS hn4
  (try rw [hn5])
  clear hw5 hn5 f0 f1 f2 g0 g1 g2 p0 p1 p2 o0 o1 o2 n0 n1 n2 z0 z1 z2 HNW HKB D5 D4 W1 W2 W3 W4 W5 W6 W7 W8 W9 W10 W11 W12
  obtain ⟨a0, a1', a2'⟩ := AS.out.cells
  go_wp2_with fail
  refine (CR _).out.mono ?_
  rintro e w6 ⟨A, B, C', p, q, p', q', rfl, hI, hlo, hhi, hac, hb⟩
  have M7 := hide (AS.out.below hb)
  have D7 := hide (D6.out.below hb)
  have HI := hide hI
  have HF := hide (And.intro hlo (And.intro hhi hac))
  have y0 := M7.out.frozen 0
  have y1' := M7.out.frozen 1
  have y2' := M7.out.frozen 2
  obtain ⟨x0, x1, x2'⟩ := M7.out.cells
  have M8 := hide (M7.out.put A B C')
  have D8 : Hid (Duo w (put3 w6 n4 A B C') n a2 b2 c2 a1 b1 c1) := hide (by
    have e := D7.out
    have hz : w.heap.size ≤ n4 := by omega
    exact ⟨(put3_heap _ _ _ (by omega)).trans e.f, (put3_heap _ _ _ (by omega)).trans e.g, (put3_heap _ _ _ (by omega)).trans e.z, ((e.b.setCell (p := ⟨n4, 0, none⟩) hz _).setCell (p := ⟨n4, 1, none⟩) hz _).setCell (p := ⟨n4, 2, none⟩) hz _⟩)
  obtain ⟨u0, u1', u2⟩ := M8.out.cells
  obtain ⟨z0, z1, z2⟩ := D8.out.z.cells
  have zf0 := D8.out.z.frozen 0
  have zf1 := D8.out.z.frozen 1
  have zf2 := D8.out.z.frozen 2
  unfold put3 at u0 u1' u2 z0 z1 z2 zf0 zf1 zf2
  have M9 := hide (D8.out.z.put A B C')
  obtain ⟨v0, v1', v2'⟩ := M9.out.cells
  unfold put3 at v0 v1' v2'
  have hB9 : Hid (Below w.heap.size w (put3 (put3 w6 n4 A B C') (n + 1 + 1) A B C')) := hide (by
    have hz : w.heap.size ≤ n + 1 + 1 := by omega
    exact ((D8.out.b.setCell (p := ⟨n + 1 + 1, 0, none⟩) hz _).setCell (p := ⟨n + 1 + 1, 1, none⟩) hz _).setCell (p := ⟨n + 1 + 1, 2, none⟩) hz _)
  unfold put3 at hB9
  have HEND : Hid (RedF A B C' ∧ D = B * B - 4 * A * C' ∧ Sim D (Pr D (Lf a2 b2) (Lf a1 b1)) (Lf A B)) := hide (comp_end HC.out.1 HC.out.2 HI.out HF.out.1 HF.out.2.1 HF.out.2.2 (by have := HB.out; omega) HH.out.sm.2.2.2.2.2)
  clear hb hI hlo hhi hac a0 a1' a2' M7 M8 D6 D7 AS CR
  go_wp2_with fail
  exact bodyPost_ret (v := .agg #[.int .i64 A, .int .i64 B, .int .i64 C']) (by simp [results, Try.results27, go_sem, v0, v1', v2']) rfl ⟨A, B, C', rfl, HEND.out.1, HEND.out.2.1, (Sim.comm D _ _).trans HH.out.sm.2.2.2.2.2 HEND.out.2.2, hB9.out⟩

theorem compose_any (a1 b1 c1 a2 b2 c2 D : Int) (w : World) (r1 : RedF a1 b1 c1) (r2 : RedF a2 b2 c2) (hD1 : D = b1 * b1 - 4 * a1 * c1) (hD2 : D = b2 * b2 - 4 * a2 * c2) (hlow : -4000000000000 ≤ D) (g1 : Int.gcd a1 (Int.gcd b1 c1) = 1) (g2 : Int.gcd a2 (Int.gcd b2 c2) = 1) :
    Calls Try.prog 27 #[.agg #[.int .i64 a1, .int .i64 b1, .int .i64 c1], .agg #[.int .i64 a2, .int .i64 b2, .int .i64 c2]] w (RetComp w D a1 b1 a2 b2) := by
  by_cases h : a1 ≤ a2
  · exact compose_le a1 b1 c1 a2 b2 c2 D w h r1 r2 hD1 hD2 hlow g1 g2
  · exact compose_gt a1 b1 c1 a2 b2 c2 D w (by omega) r1 r2 hD1 hD2 hlow g1 g2
end Go.Proofs.Ytkfjjljdhfjpbaa
