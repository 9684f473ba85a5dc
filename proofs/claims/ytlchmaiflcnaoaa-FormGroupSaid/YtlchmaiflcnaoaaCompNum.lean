/- The numbers of the composition of two reduced forms: they divide where they should, and none is too long. -/
import Derived.Test.YtlchmaiflcnaoaaCompLaw
namespace Go.Proofs.Ytlchmaiflcnaoaa

theorem ibez (a b : Int) : ∃ x y : Int, x * a + y * b = (Int.gcd a b : Int) := by
  have nb : ∀ m n : Nat, ∃ x y : Int, x * m + y * n = Nat.gcd m n := by
    intro m n
    induction m, n using Nat.gcd.induction with
    | H0 n => exact ⟨0, 1, by simp⟩
    | H1 m n hm ih =>
      obtain ⟨x, y, h⟩ := ih
      refine ⟨y - x * ((n / m : Nat) : Int), x, ?_⟩
      rw [Nat.gcd_rec, ← h]
      have e : ((n % m : Nat) : Int) = (n : Int) - (m : Int) * ((n / m : Nat) : Int) := by
        rw [Int.natCast_emod, Int.natCast_ediv]; exact Int.emod_def ..
      rw [e]; grind
  obtain ⟨x, y, h⟩ := nb a.natAbs b.natAbs
  refine ⟨x * a.sign, y * b.sign, ?_⟩
  rw [Int.mul_assoc, Int.mul_assoc, Int.sign_mul_self, Int.sign_mul_self, h]
  rfl
theorem ibez3 {a b c : Int} (h : Int.gcd a (Int.gcd b c) = 1) : ∃ x y z : Int, x * a + y * b + z * c = 1 := by
  obtain ⟨x, y, e1⟩ := ibez b c
  obtain ⟨p, q, e2⟩ := ibez a (Int.gcd b c)
  rw [h, ← e1] at e2
  exact ⟨p, q * x, q * y, by grind⟩
theorem fac (d a b x y : Int) : x * (d * a) + y * (d * b) = d * (x * a + y * b) := by grind
theorem fac4 {d n s v1 v2 c1 c2 : Int} (h : (d * s + n) * (d * s + n) - 4 * (d * v2) * c2 = (d * s - n) * (d * s - n) - 4 * (d * v1) * c1) : 4 * (d * (n * s)) = 4 * (d * (v2 * c2 - v1 * c1)) := by grind
theorem cm1 {n x2 s y2 y1 v2 w1 v1 c2 c1 t0 : Int} (f1 : n * (x2 * s + y2 * (y1 * v2 + w1 * v1)) = n) (f2 : x2 * (n * s) = x2 * (v2 * c2 - v1 * c1)) : v1 * (-(x2 * c1) + n * y2 * w1 + v2 * t0) = n + v2 * (-(y1 * y2 * n) - x2 * c2 + v1 * t0) := by grind
theorem cm2 {n x2 s y2 y1 v2 w1 v1 c2 c1 t0 : Int} (f1 : c2 * (x2 * s + y2 * (y1 * v2 + w1 * v1)) = c2) (f2 : y1 * y2 * (n * s) = y1 * y2 * (v2 * c2 - v1 * c1)) : v1 * (y2 * c2 * w1 + y1 * y2 * c1 + t0 * s) = c2 + (-(y1 * y2 * n) - x2 * c2 + v1 * t0) * s := by grind
theorem comp_make {a1 b1 c1 a2 b2 c2 D s0 n d y1 w1 d1 x2 y2 v1 v2 r s dd t0 : Int} (hD1 : D = b1 * b1 - 4 * a1 * c1) (hD2 : D = b2 * b2 - 4 * a2 * c2) (hs : b1 + b2 = 2 * s0) (hn : n = b2 - s0) (e1 : a1 = d1 * v1) (e2 : a2 = d1 * v2) (hs' : s0 = d1 * s) (hd : d = d1 * dd) (bz1 : y1 * a2 + w1 * a1 = d) (bz2 : x2 * s0 + y2 * d = d1) (hd1 : d1 ≠ 0)
    (hr : r = -(y1 * y2 * n) - x2 * c2 + v1 * t0) : ∃ t u, Comp a1 b1 c1 a2 b2 c2 D d1 v1 v2 r s n t u w1 x2 y1 y2 dd := by
  have e9 : x2 * s + y2 * dd = 1 := by
    have : d1 * (x2 * s + y2 * dd) = d1 * 1 := by rw [hs', hd, fac] at bz2; rw [bz2]; omega
    exact Int.eq_of_mul_eq_mul_left hd1 this
  have e10 : y1 * v2 + w1 * v1 = dd := by
    have : d1 * (y1 * v2 + w1 * v1) = d1 * dd := by rw [e1, e2, hd, fac] at bz1; exact bz1
    exact Int.eq_of_mul_eq_mul_left hd1 this
  have e3 : b1 = d1 * s - n := by rw [← hs', hn]; omega
  have e4 : b2 = d1 * s + n := by rw [← hs', hn]; omega
  have hns : n * s = v2 * c2 - v1 * c1 := by
    have h1 : 4 * (d1 * (n * s)) = 4 * (d1 * (v2 * c2 - v1 * c1)) := by
      have h0 : b2 * b2 - 4 * a2 * c2 = b1 * b1 - 4 * a1 * c1 := by rw [← hD1, hD2]
      rw [e1, e2, e3, e4] at h0
      exact fac4 h0
    exact Int.eq_of_mul_eq_mul_left hd1 (by omega)
  refine ⟨-(x2 * c1) + n * y2 * w1 + v2 * t0, y2 * c2 * w1 + y1 * y2 * c1 + t0 * s, e1, e2, e3, e4, hD2, hD1, ?_, ?_, e9, e10⟩
  · have f1 : n * (x2 * s + y2 * (y1 * v2 + w1 * v1)) = n := by rw [e10, e9]; omega
    rw [hr]
    exact cm1 f1 (by rw [hns])
  · have f1 : c2 * (x2 * s + y2 * (y1 * v2 + w1 * v1)) = c2 := by rw [e10, e9]; omega
    rw [hr]
    exact cm2 f1 (by rw [hns])
/-- the third number of the composed form, and its discriminant -/
theorem comp_third {a1 b1 c1 a2 b2 c2 D d1 v1 v2 r s n t u z1 x2 y1 y2 dd : Int} (h : Comp a1 b1 c1 a2 b2 c2 D d1 v1 v2 r s n t u z1 x2 y1 y2 dd) :
    c2 * d1 + r * (b2 + v2 * r) = v1 * (d1 * u + r * t) ∧ (b2 + 2 * v2 * r) * (b2 + 2 * v2 * r) - 4 * (v1 * v2) * (d1 * u + r * t) = D := by
  obtain ⟨e1, e2, e3, e4, e5, _, e7, e8, _, _⟩ := h
  have f : c2 * d1 + r * (b2 + v2 * r) = v1 * (d1 * u + r * t) := by
    have f1 : v1 * (d1 * u + r * t) = d1 * (v1 * u) + r * (v1 * t) := by grind
    rw [f1, e7, e8, e4]; grind
  refine ⟨f, ?_⟩
  have f2 : 4 * (v1 * v2) * (d1 * u + r * t) = 4 * v2 * (v1 * (d1 * u + r * t)) := by grind
  rw [f2, ← f, e5, e2]; grind

theorem red_bounds {a b c D : Int} (h : RedF a b c) (hD : D = b * b - 4 * a * c) (hlow : -4000000000000 ≤ D) : a ≤ 1154701 ∧ a * c ≤ 1340000000000 ∧ -1154701 ≤ b ∧ b ≤ 1154701 ∧ c ≤ 1340000000000 ∧ 1 ≤ c ∧ D < 0 := by
  obtain ⟨h0, h1, h2, h3, _⟩ := h
  have e1 : b * b ≤ a * a := by
    rcases Int.lt_or_le b 0 with hb | hb
    · have := Int.mul_le_mul (show -b ≤ a by omega) (show -b ≤ a by omega) (by omega) (by omega)
      grind
    · exact Int.mul_le_mul h2 h2 hb (by omega)
  have e2 : a * a ≤ a * c := Int.mul_le_mul_of_nonneg_left h3 (by omega)
  have e3 : 4 * a * c = 4 * (a * c) := by grind
  rw [e3] at hD
  have e4 : a * a ≤ 1333333333334 := by omega
  have ha : a ≤ 1154701 := by
    rcases Int.lt_or_le 1154701 a with h | h
    · have := Int.mul_le_mul (show 1154701 ≤ a by omega) (show 1154701 ≤ a by omega) (by omega) (by omega)
      omega
    · exact h
  have e5 : a * c ≤ 1340000000000 := by
    have := sq_nn b
    omega
  have e6 : 1 * c ≤ a * c := Int.mul_le_mul_of_nonneg_right (by omega) (by omega)
  have e7 : 1 * 1 ≤ a * a := Int.mul_le_mul (by omega) (by omega) (by omega) (by omega)
  exact ⟨ha, e5, by omega, by omega, by omega, by omega, by omega⟩

/-- none is too long -/
theorem comp_bounds {b2 c2 D d1 v1 v2 r C a1 a2 : Int} (ha1 : a1 = d1 * v1) (ha2 : a2 = d1 * v2) (hd : 0 < d1) (hv1 : 0 < v1) (hv2 : 0 < v2) (k1 : a1 ≤ 1154701) (k2 : a2 ≤ 1154701) (k3 : a2 * c2 ≤ 1340000000000) (k4 : -1154701 ≤ b2 ∧ b2 ≤ 1154701) (k5 : 1 ≤ c2) (hr : 0 ≤ r ∧ r < v1) (hC : c2 * d1 + r * (b2 + v2 * r) = v1 * C) (hdisc : (b2 + 2 * v2 * r) * (b2 + 2 * v2 * r) - 4 * (v1 * v2) * C = D) (hD : D < 0) :
    (1 ≤ v1 ∧ v1 ≤ 1154701) ∧ (1 ≤ v2 ∧ v2 ≤ 1154701) ∧ (1 ≤ d1 ∧ d1 ≤ 1154701) ∧ (1 ≤ v1 * v2 ∧ v1 * v2 ≤ 1400000000000) ∧ (0 ≤ v2 * r ∧ v2 * r ≤ 1400000000000) ∧ (0 ≤ c2 * d1 ∧ c2 * d1 ≤ 1340000000000) ∧ (-1700000000000000000 ≤ r * (b2 + v2 * r) ∧ r * (b2 + v2 * r) ≤ 1700000000000000000) ∧ 1 ≤ C ∧ C ≤ 3000000000000 := by
  have q1 : 1 * v1 ≤ d1 * v1 := Int.mul_le_mul_of_nonneg_right (by omega) (by omega)
  have q2 : 1 * v2 ≤ d1 * v2 := Int.mul_le_mul_of_nonneg_right (by omega) (by omega)
  have q3 : d1 * 1 ≤ d1 * v1 := Int.mul_le_mul_of_nonneg_left (by omega) (by omega)
  have q4 : d1 * 1 ≤ d1 * v2 := Int.mul_le_mul_of_nonneg_left (by omega) (by omega)
  have q5 : v1 * v2 ≤ 1154701 * 1154701 := Int.mul_le_mul (by omega) (by omega) (by omega) (by omega)
  have q6 : 1 * 1 ≤ v1 * v2 := Int.mul_le_mul (by omega) (by omega) (by omega) (by omega)
  have q7 : v2 * r ≤ 1154701 * 1154701 := Int.mul_le_mul (by omega) (by omega) (by omega) (by omega)
  have q8 : 0 ≤ v2 * r := Int.mul_nonneg (by omega) (by omega)
  have q9 : c2 * d1 ≤ c2 * a2 := Int.mul_le_mul_of_nonneg_left (by omega) (by omega)
  have q10 : c2 * a2 = a2 * c2 := Int.mul_comm ..
  have q11 : 0 ≤ c2 * d1 := Int.mul_nonneg (by omega) (by omega)
  obtain ⟨X, hX⟩ : ∃ X, b2 + v2 * r = X := ⟨_, rfl⟩
  have hX1 : -1154701 ≤ X ∧ X ≤ 1400000000000 := by omega
  have q12 : r * X ≤ 1154701 * 1400000000000 := by
    rcases Int.lt_or_le X 0 with h | h
    · have := Int.mul_nonpos_of_nonneg_of_nonpos hr.1 (show X ≤ 0 by omega)
      omega
    · exact Int.mul_le_mul (by omega) hX1.2 h (by omega)
  have q13 : -(1154701 * 1154701) ≤ r * X := by
    have h1 : r * (-1154701) ≤ r * X := Int.mul_le_mul_of_nonneg_left hX1.1 hr.1
    have h2 : r * 1154701 ≤ 1154701 * 1154701 := Int.mul_le_mul_of_nonneg_right (by omega) (by omega)
    omega
  have hC1 : 1 ≤ C := by
    apply Classical.byContradiction
    intro h
    have h1 : 4 * (v1 * v2) * C ≤ 4 * (v1 * v2) * 0 := Int.mul_le_mul_of_nonneg_left (by omega) (by omega)
    have h2 := sq_nn (b2 + 2 * v2 * r)
    omega
  have hC2 : C ≤ 3000000000000 := by
    apply Classical.byContradiction
    intro h
    have h1 : v1 * 3000000000000 ≤ v1 * C := Int.mul_le_mul_of_nonneg_left (by omega) (by omega)
    rw [hX] at hC
    have h2 : r * X ≤ v1 * 1400000000000 := by
      rcases Int.lt_or_le X 0 with h | h
      · have := Int.mul_nonpos_of_nonneg_of_nonpos hr.1 (show X ≤ 0 by omega)
        omega
      · exact Int.mul_le_mul (by omega) hX1.2 h (by omega)
    have h3 : 1340000000000 * 1 ≤ 1340000000000 * v1 := Int.mul_le_mul_of_nonneg_left (by omega) (by omega)
    omega
  rw [hX]
  omega

/-- the first form of a discriminant: composing with it changes nothing -/
theorem first_sim {a b c D σ : Int} (hD : D = b * b - 4 * a * c) (hσ : ∃ k, b = σ + 2 * k) (c0 : Int) (hc : D = σ * σ - 4 * c0) : Sim D (Pr D (Lf a b) (Lf 1 σ)) (Lf a b) := by
  obtain ⟨k, hk⟩ := hσ
  refine ⟨(1, 0), (2, 0), by decide, by decide, ?_, ?_⟩
  · intro z hz
    induction hz with
    | @mul x y hx hy =>
      obtain ⟨x, x', rfl⟩ := hx
      obtain ⟨y, y', rfl⟩ := hy
      refine ⟨_, ⟨x * y + x * (-(k * y')) - c * (x' * y'), a * (x * y') + x' * y + (b - k) * (x' * y'), rfl⟩, ?_⟩
      unfold mulZ
      ext <;> simp only []
      · subst hk hD; grind
      · subst hk hD; grind
    | add _ _ i1 i2 =>
      obtain ⟨w1, ⟨p1, p2, rfl⟩, f1⟩ := i1
      obtain ⟨w2, ⟨q1, q2, rfl⟩, f2⟩ := i2
      refine ⟨_, ⟨p1 + q1, p2 + q2, rfl⟩, ?_⟩
      rw [mulZ_add, f1, f2]
      unfold mulZ addZ
      ext <;> simp only [] <;> grind
  · rintro w ⟨x, y, rfl⟩
    refine ⟨mulZ D (2 * a * x + b * y, y) (2, 0), .mul ⟨x, y, rfl⟩ ⟨1, 0, by simp⟩, ?_⟩
    unfold mulZ
    ext <;> simp only [] <;> grind
/-- a form and the one with -b: composed they are the first one -/
theorem back_sim {a b c D σ : Int} (hD : D = b * b - 4 * a * c) (ha : a ≠ 0) (hσ : ∃ k, b = σ + 2 * k) (hg : ∃ x y z : Int, x * a + y * b + z * c = 1) : Sim D (Pr D (Lf a b) (Lf a (-b))) (Lf 1 σ) := by
  obtain ⟨k, hk⟩ := hσ
  obtain ⟨X, Y, Z, hXYZ⟩ := hg
  have hb0 : (2 * a, 0) ≠ ((0, 0) : Z2) := by
    intro h
    injection h with h1 _
    omega
  refine ⟨(1, 0), (2 * a, 0), by decide, hb0, ?_, ?_⟩
  · intro z hz
    induction hz with
    | @mul x y hx hy =>
      obtain ⟨x, x', rfl⟩ := hx
      obtain ⟨y, y', rfl⟩ := hy
      refine ⟨_, ⟨a * (x * y) - (b - k) * (x * y') + k * (x' * y) - c * (x' * y'), x * y' + x' * y, rfl⟩, ?_⟩
      unfold mulZ
      ext <;> simp only []
      · subst hk hD; grind
      · grind
    | add _ _ i1 i2 =>
      obtain ⟨w1, ⟨p1, p2, rfl⟩, f1⟩ := i1
      obtain ⟨w2, ⟨q1, q2, rfl⟩, f2⟩ := i2
      refine ⟨_, ⟨p1 + q1, p2 + q2, rfl⟩, ?_⟩
      rw [mulZ_add, f1, f2]
      unfold mulZ addZ
      ext <;> simp only [] <;> grind
  · rintro w ⟨x, y, rfl⟩
    have g1 : ∀ m : Int, Pr D (Lf a b) (Lf a (-b)) (mulZ D (2 * a * m, 0) (2 * a, 0)) := fun m => .mul ⟨m, 0, by simp⟩ ⟨1, 0, by simp⟩
    have g2 : ∀ m : Int, Pr D (Lf a b) (Lf a (-b)) (mulZ D (2 * a * m, 0) (-b, 1)) := fun m => .mul ⟨m, 0, by simp⟩ ⟨0, 1, by simp⟩
    have g3 : ∀ m : Int, Pr D (Lf a b) (Lf a (-b)) (mulZ D (b, 1) (2 * a * m, 0)) := fun m => .mul ⟨0, 1, by simp⟩ ⟨m, 0, by simp⟩
    have g4 : ∀ m : Int, Pr D (Lf a b) (Lf a (-b)) (mulZ D (m * b, m) (-b, 1)) := fun m => .mul ⟨0, m, by ext <;> simp only [] <;> grind⟩ ⟨0, 1, by simp⟩
    obtain ⟨m, hm⟩ : ∃ m, x - k * y = m := ⟨_, rfl⟩
    refine ⟨_, .add (.add (g1 (m * X)) (g2 (-(m * Y)))) (.add (g3 (m * Y + y)) (g4 (-(m * Z)))), ?_⟩
    clear g1 g2 g3 g4 hb0
    have hx : x = m + k * y := by omega
    unfold mulZ addZ
    ext
    · simp only []
      have e : 4 * a * m * (X * a + Y * b + Z * c) = 4 * a * m := by rw [hXYZ]; omega
      clear hm hXYZ
      subst hx hD hk
      grind
    · simp only []
      grind
end Go.Proofs.Ytlchmaiflcnaoaa
namespace Go.Proofs.Ytlchmaiflcnaoaa
/-- what the walk of compose asks of two reduced forms -/
structure CompAll (a1 b1 c1 a2 b2 c2 D : Int) : Prop where
  sm : (1 ≤ a1 ∧ a1 ≤ 1154701) ∧ (1 ≤ a2 ∧ a2 ≤ 1154701) ∧ (-1154701 ≤ b1 ∧ b1 ≤ 1154701) ∧ (-1154701 ≤ b2 ∧ b2 ≤ 1154701) ∧ (1 ≤ c2 ∧ c2 ≤ 1340000000000) ∧ D < 0
  half : ∃ s0 n : Int, b1 + b2 = 2 * s0 ∧ b2 = s0 + n ∧ (-1154701 ≤ s0 ∧ s0 ≤ 1154701)
  /-- the numbers that the two greatest divisors bring -/
  nums : ∀ s0 n d y1 w1 d1 x2 y2 : Int, b1 + b2 = 2 * s0 → b2 = s0 + n → d = Int.gcd a2 a1 → y1 * a2 + w1 * a1 = d → d1 = Int.gcd s0 d → x2 * s0 + y2 * d = d1 →
    ∃ v1 v2 : Int, a1 = d1 * v1 ∧ a2 = d1 * v2 ∧ 0 < d1 ∧ 0 < v1 ∧ 0 < v2 ∧ v1 ≤ 1154701 ∧ ∀ r t0 : Int, r = -(y1 * y2 * n) - x2 * c2 + v1 * t0 → 0 ≤ r → r < v1 →
      ∃ C : Int, c2 * d1 + r * (b2 + v2 * r) = v1 * C ∧ (b2 + 2 * v2 * r) * (b2 + 2 * v2 * r) - 4 * (v1 * v2) * C = D ∧ Sim D (Pr D (Lf a1 b1) (Lf a2 b2)) (Lf (v1 * v2) (b2 + 2 * v2 * r)) ∧
        ((1 ≤ v1 ∧ v1 ≤ 1154701) ∧ (1 ≤ v2 ∧ v2 ≤ 1154701) ∧ (1 ≤ d1 ∧ d1 ≤ 1154701) ∧ (1 ≤ v1 * v2 ∧ v1 * v2 ≤ 1400000000000) ∧ (0 ≤ v2 * r ∧ v2 * r ≤ 1400000000000) ∧ (0 ≤ c2 * d1 ∧ c2 * d1 ≤ 1340000000000) ∧ (-1700000000000000000 ≤ r * (b2 + v2 * r) ∧ r * (b2 + v2 * r) ≤ 1700000000000000000) ∧ 1 ≤ C ∧ C ≤ 3000000000000)
theorem par_half {b1 b2 x y D : Int} (h1 : D = b1 * b1 - 4 * x) (h2 : D = b2 * b2 - 4 * y) : ∃ s0 : Int, b1 + b2 = 2 * s0 := by
  have e : (b1 + b2) * (b2 - b1) = 4 * (y - x) := by grind
  rcases (show (b1 + b2) % 2 = 0 ∨ (b1 + b2) % 2 = 1 by omega) with h | h
  · exact ⟨(b1 + b2) / 2, by omega⟩
  · exfalso
    obtain ⟨k, hk⟩ : ∃ k, b1 + b2 = 2 * k + 1 := ⟨(b1 + b2) / 2, by omega⟩
    obtain ⟨l, hl⟩ : ∃ l, b2 - b1 = 2 * l + 1 := ⟨(b2 - b1) / 2, by omega⟩
    rw [hk, hl] at e
    have e2 : (2 * k + 1) * (2 * l + 1) = 4 * (k * l) + 2 * k + 2 * l + 1 := by grind
    omega
theorem comp_all {a1 b1 c1 a2 b2 c2 D : Int} (r1 : RedF a1 b1 c1) (r2 : RedF a2 b2 c2) (hD1 : D = b1 * b1 - 4 * a1 * c1) (hD2 : D = b2 * b2 - 4 * a2 * c2) (hlow : -4000000000000 ≤ D) (g1 : Int.gcd a1 (Int.gcd b1 c1) = 1) : CompAll a1 b1 c1 a2 b2 c2 D := by
  have k1 := red_bounds r1 hD1 hlow
  have k2 := red_bounds r2 hD2 hlow
  have p1 := r1.pos
  have p2 := r2.pos
  refine ⟨by omega, ?_, ?_⟩
  · obtain ⟨s0, hs⟩ := par_half (D := D) (b1 := b1) (b2 := b2) (x := a1 * c1) (y := a2 * c2) (by rw [← Int.mul_assoc]; exact hD1) (by rw [← Int.mul_assoc]; exact hD2)
    exact ⟨s0, b2 - s0, hs, by omega, by omega⟩
  · intro s0 n d y1 w1 d1 x2 y2 hs hn hd e1 hd1 e2
    have hdp : 0 < d := by
      rw [hd]
      have := Int.gcd_pos_of_ne_zero_left a1 (show a2 ≠ 0 by omega)
      omega
    have hd1p : 0 < d1 := by
      rw [hd1]
      have := Int.gcd_pos_of_ne_zero_right s0 (show d ≠ 0 by omega)
      omega
    obtain ⟨s, hs'⟩ : d1 ∣ s0 := by rw [hd1]; exact Int.gcd_dvd_left ..
    obtain ⟨dd, hdd⟩ : d1 ∣ d := by rw [hd1]; exact Int.gcd_dvd_right ..
    obtain ⟨v1, hv1⟩ : d1 ∣ a1 := Int.dvd_trans ⟨dd, hdd⟩ (by rw [hd]; exact Int.gcd_dvd_right ..)
    obtain ⟨v2, hv2⟩ : d1 ∣ a2 := Int.dvd_trans ⟨dd, hdd⟩ (by rw [hd]; exact Int.gcd_dvd_left ..)
    have hv1p : 0 < v1 := by
      apply Classical.byContradiction
      intro h
      have := Int.mul_le_mul_of_nonneg_left (show v1 ≤ 0 by omega) (show 0 ≤ d1 by omega)
      omega
    have hv2p : 0 < v2 := by
      apply Classical.byContradiction
      intro h
      have := Int.mul_le_mul_of_nonneg_left (show v2 ≤ 0 by omega) (show 0 ≤ d1 by omega)
      omega
    have hv1b : 1 * v1 ≤ d1 * v1 := Int.mul_le_mul_of_nonneg_right (by omega) (by omega)
    refine ⟨v1, v2, hv1, hv2, hd1p, hv1p, hv2p, by omega, fun r t0 hr hr0 hr1 => ?_⟩
    obtain ⟨t, u, hc⟩ := comp_make (s0 := s0) (n := n) hD1 hD2 hs (by omega) hv1 hv2 hs' hdd e1 e2 (by omega) hr
    obtain ⟨f1, f2⟩ := comp_third hc
    obtain ⟨X, Y, Z, hX⟩ := ibez3 g1
    have hk : (X * v1 + Y * s) * d1 + (-Y) * n + Z * c1 + 0 * c2 = 1 := by
      rw [← hX, hv1, hc.e3]; grind
    have hsim := comp_sim hc (by omega) (by omega) hk
    exact ⟨d1 * u + r * t, f1, f2, hsim, comp_bounds hv1 hv2 hd1p hv1p hv2p k1.1 k2.1 k2.2.1 ⟨k2.2.2.1, k2.2.2.2.1⟩ k2.2.2.2.2.2.1 ⟨hr0, hr1⟩ f1 f2 k2.2.2.2.2.2.2⟩
end Go.Proofs.Ytlchmaiflcnaoaa
namespace Go.Proofs.Ytlchmaiflcnaoaa
theorem comp_r {y1 y2 v1 N x2 c2 m1 m2 m3 r : Int} (h1 : y1 * y2 % v1 = m1) (h2 : m1 * N % v1 = m2) (h3 : x2 * c2 % v1 = m3) (h4 : (-m2 - m3) % v1 = r) : ∃ t0, r = -(y1 * y2 * N) - x2 * c2 + v1 * t0 := by
  have e1 := Int.mul_ediv_add_emod (y1 * y2) v1
  have e2 := Int.mul_ediv_add_emod (m1 * N) v1
  have e3 := Int.mul_ediv_add_emod (x2 * c2) v1
  have e4 := Int.mul_ediv_add_emod (-m2 - m3) v1
  rw [h1] at e1
  rw [h2] at e2
  rw [h3] at e3
  rw [h4] at e4
  generalize y1 * y2 / v1 = q1 at e1
  generalize m1 * N / v1 = q2 at e2
  generalize x2 * c2 / v1 = q3 at e3
  generalize (-m2 - m3) / v1 = q4 at e4
  refine ⟨q1 * N + q2 + q3 - q4, ?_⟩
  have f1 : y1 * y2 * N = v1 * q1 * N + m1 * N := by rw [← e1]; grind
  rw [f1, ← e2, ← e3]
  have f2 : r = -m2 - m3 - v1 * q4 := by omega
  rw [f2]
  grind
end Go.Proofs.Ytlchmaiflcnaoaa
namespace Go.Proofs.Ytlchmaiflcnaoaa
/-! the composed form has no divisor -/
/-- the number (B + sqrt D) / T carries a lattice into itself -/
def Mult (D B T : Int) (L : Z2 → Prop) : Prop := ∀ z, L z → ∃ z', L z' ∧ mulZ D (B, 1) z = mulZ D (T, 0) z'
theorem mulZ_cancel {D : Int} (hD : D < 0) {β x y : Z2} (hβ : β ≠ (0, 0)) (h : mulZ D β x = mulZ D β y) : x = y := by
  have e : mulZ D β (x.1 - y.1, x.2 - y.2) = (0, 0) := by
    have h1 := congrArg Prod.fst h
    have h2 := congrArg Prod.snd h
    unfold mulZ at h1 h2 ⊢
    simp only at h1 h2
    ext <;> simp only [] <;> grind
  have h0 : (x.1 - y.1, x.2 - y.2) = ((0, 0) : Z2) := by
    apply Classical.byContradiction
    intro hn
    exact mulZ_ne hD hβ hn e
  injection h0 with h1 h2
  exact Prod.ext (by omega) (by omega)
theorem Mult.sim {D B T : Int} (hD : D < 0) {L M : Z2 → Prop} (S : Sim D L M) (h : Mult D B T L) : Mult D B T M := by
  obtain ⟨α, β, _, hβ, k1, k2⟩ := S
  intro w hw
  obtain ⟨z, hz, e⟩ := k2 w hw
  obtain ⟨z', hz', f⟩ := h z hz
  obtain ⟨w', hw', e'⟩ := k1 z' hz'
  refine ⟨w', hw', mulZ_cancel hD hβ ?_⟩
  rw [← mulZ_assoc, mulZ_comm D β (B, 1), mulZ_assoc, ← e, ← mulZ_assoc, mulZ_comm D (B, 1) α, mulZ_assoc, f, ← mulZ_assoc, mulZ_comm D α (T, 0), mulZ_assoc, e', ← mulZ_assoc, mulZ_comm D (T, 0) β, mulZ_assoc]
theorem Mult.prod {D B T : Int} {L : Z2 → Prop} (N : Z2 → Prop) (h : Mult D B T L) : Mult D B T (Pr D L N) := by
  intro z hz
  induction hz with
  | @mul x y hx hy =>
    obtain ⟨x', hx', e⟩ := h x hx
    exact ⟨mulZ D x' y, .mul hx' hy, by rw [← mulZ_assoc, e, mulZ_assoc]⟩
  | add _ _ i1 i2 =>
    obtain ⟨w1, h1, f1⟩ := i1
    obtain ⟨w2, h2, f2⟩ := i2
    exact ⟨addZ w1 w2, .add h1 h2, by rw [mulZ_add, mulZ_add, f1, f2]⟩
theorem mult_form {A B C D t : Int} (hD : D = B * B - 4 * A * C) (h1 : t ∣ A) (h2 : t ∣ B) (h3 : t ∣ C) : Mult D B (2 * t) (Lf A B) := by
  obtain ⟨a, ha⟩ := h1
  obtain ⟨b, hb⟩ := h2
  obtain ⟨c, hc⟩ := h3
  rintro z ⟨x, y, rfl⟩
  refine ⟨_, ⟨-(c * y), a * x + b * y, rfl⟩, ?_⟩
  unfold mulZ
  ext <;> simp only []
  · rw [hD, ha, hb, hc]; grind
  · rw [ha, hb]; grind
theorem sigma_of {a b c D : Int} (hD : D = b * b - 4 * a * c) : ∃ σ c0 : Int, (∃ k, b = σ + 2 * k) ∧ D = σ * σ - 4 * c0 := by
  rcases (show b % 2 = 0 ∨ b % 2 = 1 by omega) with h | h
  · obtain ⟨k, hk⟩ : ∃ k, b = 2 * k := ⟨b / 2, by omega⟩
    exact ⟨0, a * c - k * k, ⟨k, by omega⟩, by rw [hD, hk]; grind⟩
  · obtain ⟨k, hk⟩ : ∃ k, b = 1 + 2 * k := ⟨b / 2, by omega⟩
    exact ⟨1, a * c - k * k - k, ⟨k, by omega⟩, by rw [hD, hk]; grind⟩
theorem prim_comp {a1 b1 c1 a2 b2 c2 A B C D : Int} (hD : D < 0) (hD1 : D = b1 * b1 - 4 * a1 * c1) (hD2 : D = b2 * b2 - 4 * a2 * c2) (hD3 : D = B * B - 4 * A * C) (ha1 : a1 ≠ 0) (ha2 : a2 ≠ 0) (g1 : Int.gcd a1 (Int.gcd b1 c1) = 1) (g2 : Int.gcd a2 (Int.gcd b2 c2) = 1) (S : Sim D (Pr D (Lf a1 b1) (Lf a2 b2)) (Lf A B)) : Int.gcd A (Int.gcd B C) = 1 := by
  obtain ⟨σ, c0, ⟨k1, hk1⟩, hσ⟩ := sigma_of hD1
  have hk2 : ∃ k, b2 = σ + 2 * k := by
    obtain ⟨s0, hs⟩ := par_half (D := D) (b1 := b1) (b2 := b2) (x := a1 * c1) (y := a2 * c2) (by rw [← Int.mul_assoc]; exact hD1) (by rw [← Int.mul_assoc]; exact hD2)
    exact ⟨s0 - σ - k1, by omega⟩
  obtain ⟨t, ht⟩ : ∃ t : Nat, Int.gcd A (Int.gcd B C) = t := ⟨_, rfl⟩
  have tA : (t : Int) ∣ A := by rw [← ht]; exact Int.gcd_dvd_left ..
  have tBC : (t : Int) ∣ (Int.gcd B C : Int) := by rw [← ht]; exact Int.gcd_dvd_right ..
  have tB : (t : Int) ∣ B := Int.dvd_trans tBC (Int.gcd_dvd_left ..)
  have tC : (t : Int) ∣ C := Int.dvd_trans tBC (Int.gcd_dvd_right ..)
  have m1 := (mult_form hD3 tA tB tC).sim hD S.symm
  have m2 := m1.prod (Pr D (Lf a1 (-b1)) (Lf a2 (-b2)))
  -- ((f g) (f' g')) is (f f') (g g'): the first one
  have s1 : Sim D (Pr D (Pr D (Lf a1 b1) (Lf a2 b2)) (Pr D (Lf a1 (-b1)) (Lf a2 (-b2)))) (Pr D (Pr D (Lf a1 b1) (Lf a1 (-b1))) (Pr D (Lf a2 b2) (Lf a2 (-b2)))) := by
    refine (Sim.assoc D _ _ _).trans hD (Sim.trans hD ?_ (Sim.assoc D _ _ _).symm)
    refine Sim.prod2 hD (Sim.refl D _) ?_
    refine (Sim.assoc D _ _ _).symm.trans hD (Sim.trans hD ?_ (Sim.assoc D _ _ _))
    exact (Sim.comm D _ _).prod _
  have s2 := Sim.prod2 hD (back_sim (σ := σ) hD1 ha1 ⟨k1, hk1⟩ (ibez3 g1)) (back_sim (σ := σ) hD2 ha2 hk2 (ibez3 g2))
  have s3 := first_sim (a := 1) (b := σ) (c := c0) (D := D) (σ := σ) (by rw [hσ]; omega) ⟨0, by omega⟩ c0 hσ
  have m3 := m2.sim hD ((s1.trans hD s2).trans hD s3)
  obtain ⟨_, ⟨x, y, rfl⟩, e⟩ := m3 (2, 0) ⟨1, 0, by simp⟩
  have e2 := congrArg Prod.snd e
  unfold mulZ at e2
  simp only at e2
  have e3 : (t : Int) * y = 1 := by
    have : 2 * ((t : Int) * y) = 2 := by grind
    omega
  have h1 : (t : Int) ∣ 1 := ⟨y, e3.symm⟩
  rw [ht]
  have := Int.le_of_dvd (by omega) h1
  have : t ≠ 0 := by rintro rfl; simp at e3
  omega
end Go.Proofs.Ytlchmaiflcnaoaa
