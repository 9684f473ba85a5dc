/- The reduction of forms with numbers up to 4 * 10^12. -/
import Derived.Test.YtkfjjljdhfjpbaaKRedW
namespace Go.Proofs.Ytkfjjljdhfjpbaa
open Go.RowKit

/-- what holds at the head of a round: the form (A, B, C) is (a, b, c) turned by p q / r s -/
structure RBig (a b c A B C p q r s : Int) : Prop where
  a1 : 1 ≤ A
  a2 : A ≤ 4000000000000
  c1 : 1 ≤ C
  c2 : C ≤ 4000000000000
  d : B * B - 4 * A * C = b * b - 4 * a * c
  det : p * s - q * r = 1
  va : A = fval a b c p r
  vb : B = 2 * a * p * q + b * (p * s + q * r) + 2 * c * r * s
  vc : C = fval a b c q s
  g : ∀ t : Int, (t ∣ A ∧ t ∣ B ∧ t ∣ C) ↔ (t ∣ a ∧ t ∣ b ∧ t ∣ c)

/-- a small value is taken at small places alone -/
theorem fval_big {a b c x y : Int} (ha : 1 ≤ a) (ha2 : a ≤ 4000000000000) (hc : 1 ≤ c) (hc2 : c ≤ 4000000000000) (hd : b * b - 4 * a * c < 0) (hv : fval a b c x y ≤ 4000000000000) : -8000000000000 ≤ x ∧ x ≤ 8000000000000 ∧ -8000000000000 ≤ y ∧ y ≤ 8000000000000 := by
  unfold fval at hv
  obtain ⟨V, hV⟩ : ∃ V, a * x * x + b * x * y + c * y * y = V := ⟨_, rfl⟩
  rw [hV] at hv
  have e1 : 4 * a * V = (2 * a * x + b * y) * (2 * a * x + b * y) + (4 * a * c - b * b) * (y * y) := by rw [← hV]; grind
  have e2 : 4 * c * V = (2 * c * y + b * x) * (2 * c * y + b * x) + (4 * a * c - b * b) * (x * x) := by rw [← hV]; grind
  have s1 := sq_pos' (2 * a * x + b * y)
  have s2 := sq_pos' (2 * c * y + b * x)
  have s3 := sq_pos' x
  have s4 := sq_pos' y
  have t1 : 1 * (y * y) ≤ (4 * a * c - b * b) * (y * y) := Int.mul_le_mul_of_nonneg_right (by omega) s4
  have t2 : 1 * (x * x) ≤ (4 * a * c - b * b) * (x * x) := Int.mul_le_mul_of_nonneg_right (by omega) s3
  have hV0 : 0 ≤ V := by
    rcases Int.lt_or_le V 0 with h | h
    · have : 4 * a * V ≤ 4 * a * (-1) := Int.mul_le_mul_of_nonneg_left (by omega) (by omega)
      omega
    · exact h
  have b1 : 4 * a * V ≤ 16000000000000 * 4000000000000 := mul_le_of (by omega) (by omega) hV0 hv
  have b2 : 4 * c * V ≤ 16000000000000 * 4000000000000 := mul_le_of (by omega) (by omega) hV0 hv
  obtain ⟨x1, x2⟩ := sq_le (x := x) (N := 8000000000000) (by omega) (by omega)
  obtain ⟨y1, y2⟩ := sq_le (x := y) (N := 8000000000000) (by omega) (by omega)
  exact ⟨x1, x2, y1, y2⟩

theorem RBig.small {a b c A B C p q r s : Int} (h : RBig a b c A B C p q r s) (ha : 1 ≤ a) (ha2 : a ≤ 4000000000000) (hc : 1 ≤ c) (hc2 : c ≤ 4000000000000) (hd : b * b - 4 * a * c < 0) :
    (-8000000000000 ≤ p ∧ p ≤ 8000000000000 ∧ -8000000000000 ≤ r ∧ r ≤ 8000000000000) ∧ (-8000000000000 ≤ q ∧ q ≤ 8000000000000 ∧ -8000000000000 ≤ s ∧ s ≤ 8000000000000) ∧ -8000000000000 ≤ B ∧ B ≤ 8000000000000 := by
  have h1 := h.va
  have h2 := h.vc
  have h3 := h.a2
  have h4 := h.c2
  have h5 := h.d
  have h6 : 4 * A * C ≤ 16000000000000 * 4000000000000 := mul_le_of (by have := h.a1; omega) (by omega) (by have := h.c1; omega) h4
  refine ⟨fval_big ha ha2 hc hc2 hd (by omega), fval_big ha ha2 hc hc2 hd (by omega), sq_le (by omega) (by omega)⟩

theorem RBig.start {a b c : Int} (ha : 1 ≤ a) (ha2 : a ≤ 4000000000000) (hc : 1 ≤ c) (hc2 : c ≤ 4000000000000) : RBig a b c a b c 1 0 0 1 :=
  ⟨ha, ha2, hc, hc2, rfl, by omega, by unfold fval; grind, by grind, by unfold fval; grind, fun _ => Iff.rfl⟩

/-- x becomes x + k y, so that B is above -A and not above A -/
theorem RBig.norm {a b c A B C p q r s : Int} (h : RBig a b c A B C p q r s) (hd : b * b - 4 * a * c < 0) {k : Int} (hk1 : -A < B + 2 * k * A) (hk2 : B + 2 * k * A ≤ A) :
    RBig a b c A (B + 2 * k * A) (C + k * (B + k * A)) p (q + k * p) r (s + k * r) := by
  obtain ⟨a1, a2, c1, c2, d, det, va, vb, vc, g⟩ := h
  have dd : (B + 2 * k * A) * (B + 2 * k * A) - 4 * A * (C + k * (B + k * A)) = b * b - 4 * a * c := by rw [← d]; grind
  have hC1 : 1 ≤ C + k * (B + k * A) := by
    rcases Int.lt_or_le (C + k * (B + k * A)) 1 with h | h
    · have h1 : 4 * A * (C + k * (B + k * A)) ≤ 4 * A * 0 := Int.mul_le_mul_of_nonneg_left (by omega) (by omega)
      have := sq_pos' (B + 2 * k * A)
      omega
    · exact h
  have hC2 : k * (B + k * A) ≤ 0 := by
    rcases Int.lt_trichotomy k 0 with hk | hk | hk
    · have : k * A ≤ -1 * A := Int.mul_le_mul_of_nonneg_right (by omega) (by omega)
      rw [Int.mul_assoc] at hk1
      exact Int.mul_nonpos_of_nonpos_of_nonneg (by omega) (by omega)
    · subst hk; omega
    · have : 1 * A ≤ k * A := Int.mul_le_mul_of_nonneg_right (by omega) (by omega)
      rw [Int.mul_assoc] at hk2
      exact Int.mul_nonpos_of_nonneg_of_nonpos (by omega) (by omega)
  refine ⟨a1, a2, hC1, by omega, dd, by grind, va, ?_, ?_, fun t => ?_⟩
  · rw [vb, va]; unfold fval; grind
  · rw [vc, vb, va]; unfold fval; grind
  · rw [← g]
    constructor
    · rintro ⟨h1, h2, h3⟩
      have h4 : t ∣ B := dvd_lin (-2 * k) 1 h1 h2 (by grind)
      refine ⟨h1, h4, dvd_lin (-k) 1 (dvd_lin k 1 h1 h4 (by grind) : t ∣ B + k * A) h3 (by grind)⟩
    · rintro ⟨h1, h2, h3⟩
      refine ⟨h1, dvd_lin (2 * k) 1 h1 h2 (by grind), dvd_lin k 1 (dvd_lin k 1 h1 h2 (by grind) : t ∣ B + k * A) h3 (by grind)⟩

theorem RBig.swap {a b c A B C p q r s : Int} (h : RBig a b c A B C p q r s) : RBig a b c C (-B) A q (-p) s (-r) := by
  obtain ⟨a1, a2, c1, c2, d, det, va, vb, vc, g⟩ := h
  refine ⟨c1, c2, a1, a2, by rw [← d]; grind, by grind, vc, ?_, ?_, fun t => ?_⟩
  · rw [vb]; grind
  · rw [va]; unfold fval; grind
  · rw [← g, Int.dvd_neg]
    exact ⟨fun ⟨h1, h2, h3⟩ => ⟨h3, h2, h1⟩, fun ⟨h1, h2, h3⟩ => ⟨h3, h2, h1⟩⟩


/-- no sum or product of a round is too long -/
theorem round_big {A B C p q r s k : Int} (a1 : 1 ≤ A) (a2 : A ≤ 4000000000000) (b1 : -8000000000000 ≤ B) (b2 : B ≤ 8000000000000) (c1 : 1 ≤ C) (c2 : C ≤ 4000000000000) (hp : -8000000000000 ≤ p ∧ p ≤ 8000000000000) (hq : -8000000000000 ≤ q ∧ q ≤ 8000000000000) (hr : -8000000000000 ≤ r ∧ r ≤ 8000000000000) (hs : -8000000000000 ≤ s ∧ s ≤ 8000000000000) (hk : -12000000000000 ≤ k ∧ k ≤ 12000000000000) (n1 : -A < B + 2 * k * A) (n2 : B + 2 * k * A ≤ A)
    (x1 : 1 ≤ C + k * (B + k * A)) (x2 : C + k * (B + k * A) ≤ 4000000000000) (hq' : -8000000000000 ≤ q + k * p ∧ q + k * p ≤ 8000000000000) (hs' : -8000000000000 ≤ s + k * r ∧ s + k * r ≤ 8000000000000) :
    (wrap64 (2 * k) = 2 * k ∧ wrap64 (2 * k * A) = 2 * k * A ∧ wrap64 (B + 2 * k * A) = B + 2 * k * A ∧ wrap64 (k * A) = k * A ∧ wrap64 (B + k * A) = B + k * A ∧ wrap64 (k * (B + k * A)) = k * (B + k * A) ∧ wrap64 (C + k * (B + k * A)) = C + k * (B + k * A)) ∧
    (wrap64 (k * p) = k * p ∧ wrap64 (q + k * p) = q + k * p ∧ wrap64 (k * r) = k * r ∧ wrap64 (s + k * r) = s + k * r) ∧
    (wrap64 (A - B) = A - B ∧ wrap64 (2 * A) = 2 * A ∧ wrap64 (-p) = -p ∧ wrap64 (-r) = -r ∧ wrap64 (-(B + 2 * k * A)) = -(B + 2 * k * A)) := by
  have m5 : 2 * k * A = 2 * (k * A) := Int.mul_assoc _ _ _
  obtain ⟨x, hx⟩ : ∃ x, k * (B + k * A) = x := ⟨_, rfl⟩
  obtain ⟨y, hy⟩ : ∃ y, k * A = y := ⟨_, rfl⟩
  obtain ⟨z, hz⟩ : ∃ z, k * p = z := ⟨_, rfl⟩
  obtain ⟨u, hu⟩ : ∃ u, k * r = u := ⟨_, rfl⟩
  rw [m5] at n1 n2 ⊢
  rw [hx] at x1 x2 ⊢
  rw [hy] at n1 n2 ⊢
  rw [hz] at hq' ⊢
  rw [hu] at hs' ⊢
  clear m5 hx hy hz hu
  unfold wrap64
  refine ⟨⟨?_, ?_, ?_, ?_, ?_, ?_, ?_⟩, ⟨?_, ?_, ?_, ?_⟩, ?_, ?_, ?_, ?_, ?_⟩ <;> omega

def RetRedB (w : World) (a b c : Int) : Ending → World → Prop := fun e w' => ∃ A B C p q r s : Int, e = .returned (.tuple #[.agg #[.int .i64 A, .int .i64 B, .int .i64 C], .agg #[.int .i64 p, .int .i64 q, .int .i64 r, .int .i64 s]]) ∧ RBig a b c A B C p q r s ∧ -A < B ∧ B ≤ A ∧ (A < C ∨ A = C ∧ 0 ≤ B) ∧ Below w.heap.size w w'

set_option maxRecDepth 100000 in
set_option maxHeartbeats 6400000 in
theorem reduce_big (a b c : Int) (w : World) (ha : 1 ≤ a) (ha2 : a ≤ 4000000000000) (hc : 1 ≤ c) (hc2 : c ≤ 4000000000000) (hd : b * b - 4 * a * c < 0) :
    Calls Try.prog 18 #[.agg #[.int .i64 a, .int .i64 b, .int .i64 c]] w (RetRedB w a b c) := by
  have H0 := hide (RedSt.start w a b c)
  have I0 := hide (RBig.start (b := b) ha ha2 hc hc2)
  have HSM : Hid (∀ A B C p q r s, RBig a b c A B C p q r s → (-8000000000000 ≤ p ∧ p ≤ 8000000000000 ∧ -8000000000000 ≤ r ∧ r ≤ 8000000000000) ∧ (-8000000000000 ≤ q ∧ q ≤ 8000000000000 ∧ -8000000000000 ≤ s ∧ s ≤ 8000000000000) ∧ -8000000000000 ≤ B ∧ B ≤ 8000000000000) := fun A B C p q r s h => h.small ha ha2 hc hc2 hd
  have HD := hide hd
  clear ha ha2 hc hc2 hd
  go_enter Try.func18, Try.ntmps18
  go_wp2_with fail
  go_loopg [5] (rmeas a b c) (fun N _ wr => ∃ A B C p q r s : Int, N = rmeas A B C ∧ Hid (RBig a b c A B C p q r s) ∧ Hid (RedSt w.heap.size w wr A B C p q r s))
  case atStart => exact ⟨a, b, c, 1, 0, 0, 1, rfl, I0, H0⟩
  case round =>
    clear H0 I0
    obtain ⟨A, B, C, p, q, r, s, rfl, HI, HS⟩ := hrel
    obtain ⟨⟨p1, p2, r1, r2⟩, ⟨q1, q2, s1, s2⟩, b1, b2⟩ := HSM.out _ _ _ _ _ _ _ HI.out
    have a1 := HI.out.a1
    have a2 := HI.out.a2
    have c1 := HI.out.c1
    have c2 := HI.out.c2
    have hk0 := Int.mul_ediv_add_emod (A - B) (2 * A)
    have CF := fun W => hide (qfloor_any (A - B) (2 * A) W (by omega) (by omega) (by omega) (by omega))
    have hk1 : (A - B) / (2 * A) ≤ 12000000000000 ∧ -12000000000000 ≤ (A - B) / (2 * A) := by
      have h0 : ((A - B) / (2 * A)).natAbs ≤ (A - B).natAbs := Int.natAbs_ediv_le_natAbs _ _
      omega
    obtain ⟨n1, n2⟩ := round_k (A := A) (B := B) a1
    have HL := hide (fun h1 h2 => rmeas_less (A := A) (B := B) (C := C) (k := (A - B) / (2 * A)) a1 h1 rfl h2)
    obtain ⟨k, hk⟩ : ∃ k, (A - B) / (2 * A) = k := ⟨_, rfl⟩
    rw [hk] at CF hk1 n1 n2 HL
    have HI2 := hide (HI.out.norm HD.out n1 n2)
    obtain ⟨_, ⟨q3, q4, s3, s4⟩, _, _⟩ := HSM.out _ _ _ _ _ _ _ HI2.out
    obtain ⟨⟨W1, W2, W3, W4, W5, W6, W7⟩, ⟨W8, W9, W10, W11⟩, W12, W13, W14, W15, W16⟩ := round_big (k := k) a1 a2 b1 b2 c1 c2 ⟨p1, p2⟩ ⟨q1, q2⟩ ⟨r1, r2⟩ ⟨s1, s2⟩ (by omega) n1 n2 HI2.out.c1 HI2.out.c2 ⟨q3, q4⟩ ⟨s3, s4⟩
    have HA2 : Hid (¬ 2 * A = 0) := by unfold Hid; omega
    clear hk0 hk hk1 a1 a2 b1 b2 c1 c2 p1 p2 q1 q2 r1 r2 s1 s2 q3 q4 s3 s4
    obtain ⟨g0, g1, g2⟩ := HS.out.f.cells
    obtain ⟨t0, t1, t2, t3⟩ := HS.out.m.cells
    have fz0 := HS.out.f.frozen 0
    have fz1 := HS.out.f.frozen 1
    have fz2 := HS.out.f.frozen 2
    have fy1 := HS.out.m.frozen 1
    have fy3 := HS.out.m.frozen 3
    have x0 := (HS.out.f.set0 A).cells.1
    have x1 := ((HS.out.f.set0 A).set1 (B + 2 * k * A)).cells.2.1
    have x2 := (((HS.out.f.set0 A).set1 (B + 2 * k * A)).set2 (C + k * (B + k * A))).cells.2.2
    have hS2 := HS.out.norm A (B + 2 * k * A) (C + k * (B + k * A)) (q + k * p) (s + k * r)
    have M1 := ((HS.out.m.other (a := ⟨w.heap.size, 0, none⟩) (by show w.heap.size ≠ _; omega) (.int .i64 A)).other (a := ⟨w.heap.size, 1, none⟩) (by show w.heap.size ≠ _; omega) (.int .i64 (B + 2 * k * A))).other (a := ⟨w.heap.size, 2, none⟩) (by show w.heap.size ≠ _; omega) (.int .i64 (C + k * (B + k * A)))
    have y1 := (M1.set1 (q + k * p)).cells.2.1
    have y3 := ((M1.set1 (q + k * p)).set3 (s + k * r)).cells.2.2.2
    have HS2 := hide hS2
    clear hS2 M1
    go_wp2_with fail
    refine (CF _).out.mono ?_
    rintro e w1 ⟨rfl, rfl⟩
    have z0 := HS2.out.g.frozen 0
    have z1 := HS2.out.g.frozen 1
    have z2 := HS2.out.g.frozen 2
    have z3 := HS2.out.z.frozen 0
    have z4 := HS2.out.z.frozen 1
    have z5 := HS2.out.z.frozen 2
    have z6 := HS2.out.z.frozen 3
    obtain ⟨v0, v1, v2⟩ := HS2.out.g.cells
    obtain ⟨v3, v4, v5, v6⟩ := HS2.out.z.cells
    have k0 := HS2.out.f.frozen 0
    have k1 := HS2.out.f.frozen 1
    have k2 := HS2.out.f.frozen 2
    have k3 := HS2.out.m.frozen 0
    have k4 := HS2.out.m.frozen 1
    have k5 := HS2.out.m.frozen 2
    have k6 := HS2.out.m.frozen 3
    by_cases h1 : A < C + k * (B + k * A) ∨ A = C + k * (B + k * A) ∧ 0 ≤ B + 2 * k * A
    · have e1 : decide (A < C + k * (B + k * A)) = true ∨ decide (A < C + k * (B + k * A)) = false ∧ (A == C + k * (B + k * A)) = true ∧ decide (0 ≤ B + 2 * k * A) = true := by
        simp only [decide_eq_true_eq, decide_eq_false_iff_not, beq_iff_eq]
        omega
      have FIN := hide (HS2.out.done A (B + 2 * k * A) (C + k * (B + k * A)) p (q + k * p) r (s + k * r))
      have H1 := hide h1
      have HN := hide (And.intro n1 n2)
      clear h1 n1 n2
      rcases e1 with e1 | ⟨e1, e2, e3⟩
      all_goals
        go_wp2_with fail
        go_region
        generalize hX : World.setCell _ _ _ = w9
        have F := FIN.out
        rw [hX] at F
        clear hX FIN k0 k1 k2 k3 k4 k5 k6 z0 z1 z2 z3 z4 z5 z6 v0 v1 v2 v3 v4 v5 v6 x0 x1 x2 y1 y3
        obtain ⟨F1, F2, F3⟩ := F
        obtain ⟨G0, G1, G2⟩ := F1.drew.cells
        obtain ⟨G3, G4, G5, G6⟩ := F2.drew.cells
        go_wp2_with fail
        refine bodyPost_ret (v := .tuple #[.agg #[.int .i64 A, .int .i64 (B + 2 * k * A), .int .i64 (C + k * (B + k * A))], .agg #[.int .i64 p, .int .i64 (q + k * p), .int .i64 r, .int .i64 (s + k * r)]]) (by simp [results, Try.results18, go_sem, G0, G1, G2, G3, G4, G5, G6]) rfl ⟨_, _, _, _, _, _, _, rfl, HI2.out, HN.out.1, HN.out.2, H1.out, below_drewN F3 1⟩
    · have e1 : decide (A < C + k * (B + k * A)) = false ∧ ((A == C + k * (B + k * A)) = false ∨ (A == C + k * (B + k * A)) = true ∧ decide (0 ≤ B + 2 * k * A) = false) := by
        simp only [decide_eq_false_iff_not, beq_iff_eq, beq_eq_false_iff_ne, ne_eq]
        omega
      have HM := hide (HL.out HI2.out.c1 h1)
      have HI3 := hide HI2.out.swap
      have HS3 := hide (HS2.out.swap (C + k * (B + k * A)) (-(B + 2 * k * A)) A (q + k * p) (-p) (s + k * r) (-r))
      clear h1 n1 n2
      rcases e1 with ⟨e1, e2 | ⟨e2, e3⟩⟩
      all_goals
        go_wp2_with fail
        go_roundg (rmeas (C + k * (B + k * A)) (-(B + 2 * k * A)) A)
        case measure => exact HM.out
        case rel => exact ⟨_, _, _, _, _, _, _, rfl, HI3, HS3⟩
end Go.Proofs.Ytkfjjljdhfjpbaa
