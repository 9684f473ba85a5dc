/- The plain law of the reduction of a form: what each round keeps, and what it ends with. -/
namespace Go.Proofs.Ytkfjjljdhfjpbaa

/-- the value of a form -/
def fval (A B C x y : Int) : Int := A * x * x + B * x * y + C * y * y
/-- what holds at the head of a round: the form (A, B, C) is (a, b, c) turned by p q / r s -/
structure RInv (a b c A B C p q r s : Int) : Prop where
  a1 : 1 ≤ A
  a2 : A ≤ 1000000
  c1 : 1 ≤ C
  c2 : C ≤ 1000000
  d : B * B - 4 * A * C = b * b - 4 * a * c
  det : p * s - q * r = 1
  va : A = fval a b c p r
  vb : B = 2 * a * p * q + b * (p * s + q * r) + 2 * c * r * s
  vc : C = fval a b c q s
  g : ∀ t : Int, (t ∣ A ∧ t ∣ B ∧ t ∣ C) ↔ (t ∣ a ∧ t ∣ b ∧ t ∣ c)

theorem sq_le {x N : Int} (hN : 0 ≤ N) (h : x * x ≤ N * N) : -N ≤ x ∧ x ≤ N := by
  constructor
  · rcases Int.lt_or_le x (-N) with h1 | h1
    · have : (N + 1) * (N + 1) ≤ (-x) * (-x) := Int.mul_le_mul (by omega) (by omega) (by omega) (by omega)
      grind
    · exact h1
  · rcases Int.lt_or_le N x with h1 | h1
    · have : (N + 1) * (N + 1) ≤ x * x := Int.mul_le_mul (by omega) (by omega) (by omega) (by omega)
      grind
    · exact h1
theorem sq_pos' (x : Int) : 0 ≤ x * x := by
  rcases Int.le_total 0 x with h | h
  · exact Int.mul_nonneg h h
  · exact Int.mul_nonneg_of_nonpos_of_nonpos h h
theorem mul_le_of {x y N M : Int} (hx : 0 ≤ x) (hx2 : x ≤ N) (hy : 0 ≤ y) (hy2 : y ≤ M) : x * y ≤ N * M := Int.mul_le_mul hx2 hy2 hy (by omega)

/-- a small value is taken at small places alone -/
theorem fval_small {a b c x y : Int} (ha : 1 ≤ a) (ha2 : a ≤ 1000000) (hc : 1 ≤ c) (hc2 : c ≤ 1000000) (hd : b * b - 4 * a * c < 0) (hv : fval a b c x y ≤ 1000000) : -2000000 ≤ x ∧ x ≤ 2000000 ∧ -2000000 ≤ y ∧ y ≤ 2000000 := by
  unfold fval at hv
  obtain ⟨V, hV⟩ : ∃ V, a * x * x + b * x * y + c * y * y = V := ⟨_, rfl⟩
  rw [hV] at hv
  have e1 : 4 * a * V = (2 * a * x + b * y) * (2 * a * x + b * y) + (4 * a * c - b * b) * (y * y) := by rw [← hV]; grind
  have e2 : 4 * c * V = (2 * c * y + b * x) * (2 * c * y + b * x) + (4 * a * c - b * b) * (x * x) := by rw [← hV]; grind
  have s1 := sq_pos' (2 * a * x + b * y)
  have s2 := sq_pos' (2 * c * y + b * x)
  have s3 := sq_pos' x
  have s4 := sq_pos' y
  have t1 : 1 * (y * y) ≤ (4 * a * c - b * b) * (y * y) := Int.mul_le_mul_of_nonneg_right (by omega) s4
  have t2 : 1 * (x * x) ≤ (4 * a * c - b * b) * (x * x) := Int.mul_le_mul_of_nonneg_right (by omega) s3
  have hV0 : 0 ≤ V := by
    rcases Int.lt_or_le V 0 with h | h
    · have : 4 * a * V ≤ 4 * a * (-1) := Int.mul_le_mul_of_nonneg_left (by omega) (by omega)
      omega
    · exact h
  have b1 : 4 * a * V ≤ 4000000 * 1000000 := mul_le_of (by omega) (by omega) hV0 hv
  have b2 : 4 * c * V ≤ 4000000 * 1000000 := mul_le_of (by omega) (by omega) hV0 hv
  obtain ⟨x1, x2⟩ := sq_le (x := x) (N := 2000000) (by omega) (by omega)
  obtain ⟨y1, y2⟩ := sq_le (x := y) (N := 2000000) (by omega) (by omega)
  exact ⟨x1, x2, y1, y2⟩

theorem RInv.small {a b c A B C p q r s : Int} (h : RInv a b c A B C p q r s) (ha : 1 ≤ a) (ha2 : a ≤ 1000000) (hc : 1 ≤ c) (hc2 : c ≤ 1000000) (hd : b * b - 4 * a * c < 0) :
    (-2000000 ≤ p ∧ p ≤ 2000000 ∧ -2000000 ≤ r ∧ r ≤ 2000000) ∧ (-2000000 ≤ q ∧ q ≤ 2000000 ∧ -2000000 ≤ s ∧ s ≤ 2000000) ∧ -2000000 ≤ B ∧ B ≤ 2000000 := by
  have h1 := h.va
  have h2 := h.vc
  have h3 := h.a2
  have h4 := h.c2
  have h5 := h.d
  have h6 : 4 * A * C ≤ 4000000 * 1000000 := mul_le_of (by have := h.a1; omega) (by omega) (by have := h.c1; omega) h4
  refine ⟨fval_small ha ha2 hc hc2 hd (by omega), fval_small ha ha2 hc hc2 hd (by omega), sq_le (by omega) (by omega)⟩

theorem RInv.start {a b c : Int} (ha : 1 ≤ a) (ha2 : a ≤ 1000000) (hc : 1 ≤ c) (hc2 : c ≤ 1000000) : RInv a b c a b c 1 0 0 1 :=
  ⟨ha, ha2, hc, hc2, rfl, by omega, by unfold fval; grind, by grind, by unfold fval; grind, fun _ => Iff.rfl⟩

theorem dvd_lin {t x y z : Int} (k l : Int) (h1 : t ∣ x) (h2 : t ∣ y) (h : z = x * k + y * l) : t ∣ z := by
  rw [h]; exact Int.dvd_add (Int.dvd_mul_of_dvd_left h1) (Int.dvd_mul_of_dvd_left h2)

/-- x becomes x + k y, so that B is above -A and not above A -/
theorem RInv.norm {a b c A B C p q r s : Int} (h : RInv a b c A B C p q r s) (hd : b * b - 4 * a * c < 0) {k : Int} (hk1 : -A < B + 2 * k * A) (hk2 : B + 2 * k * A ≤ A) :
    RInv a b c A (B + 2 * k * A) (C + k * (B + k * A)) p (q + k * p) r (s + k * r) := by
  obtain ⟨a1, a2, c1, c2, d, det, va, vb, vc, g⟩ := h
  have dd : (B + 2 * k * A) * (B + 2 * k * A) - 4 * A * (C + k * (B + k * A)) = b * b - 4 * a * c := by rw [← d]; grind
  have hC1 : 1 ≤ C + k * (B + k * A) := by
    rcases Int.lt_or_le (C + k * (B + k * A)) 1 with h | h
    · have h1 : 4 * A * (C + k * (B + k * A)) ≤ 4 * A * 0 := Int.mul_le_mul_of_nonneg_left (by omega) (by omega)
      have := sq_pos' (B + 2 * k * A)
      omega
    · exact h
  have hC2 : k * (B + k * A) ≤ 0 := by
    rcases Int.lt_trichotomy k 0 with hk | hk | hk
    · have : k * A ≤ -1 * A := Int.mul_le_mul_of_nonneg_right (by omega) (by omega)
      rw [Int.mul_assoc] at hk1
      exact Int.mul_nonpos_of_nonpos_of_nonneg (by omega) (by omega)
    · subst hk; omega
    · have : 1 * A ≤ k * A := Int.mul_le_mul_of_nonneg_right (by omega) (by omega)
      rw [Int.mul_assoc] at hk2
      exact Int.mul_nonpos_of_nonneg_of_nonpos (by omega) (by omega)
  refine ⟨a1, a2, hC1, by omega, dd, by grind, va, ?_, ?_, fun t => ?_⟩
  · rw [vb, va]; unfold fval; grind
  · rw [vc, vb, va]; unfold fval; grind
  · rw [← g]
    constructor
    · rintro ⟨h1, h2, h3⟩
      have h4 : t ∣ B := dvd_lin (-2 * k) 1 h1 h2 (by grind)
      refine ⟨h1, h4, dvd_lin (-k) 1 (dvd_lin k 1 h1 h4 (by grind) : t ∣ B + k * A) h3 (by grind)⟩
    · rintro ⟨h1, h2, h3⟩
      refine ⟨h1, dvd_lin (2 * k) 1 h1 h2 (by grind), dvd_lin k 1 (dvd_lin k 1 h1 h2 (by grind) : t ∣ B + k * A) h3 (by grind)⟩

theorem RInv.swap {a b c A B C p q r s : Int} (h : RInv a b c A B C p q r s) : RInv a b c C (-B) A q (-p) s (-r) := by
  obtain ⟨a1, a2, c1, c2, d, det, va, vb, vc, g⟩ := h
  refine ⟨c1, c2, a1, a2, by rw [← d]; grind, by grind, vc, ?_, ?_, fun t => ?_⟩
  · rw [vb]; grind
  · rw [va]; unfold fval; grind
  · rw [← g, Int.dvd_neg]
    exact ⟨fun ⟨h1, h2, h3⟩ => ⟨h3, h2, h1⟩, fun ⟨h1, h2, h3⟩ => ⟨h3, h2, h1⟩⟩

/-- the k of a round -/
theorem round_k {A B : Int} (hA : 1 ≤ A) : -A < B + 2 * ((A - B) / (2 * A)) * A ∧ B + 2 * ((A - B) / (2 * A)) * A ≤ A := by
  have h1 := Int.mul_ediv_add_emod (A - B) (2 * A)
  have h2 := Int.emod_nonneg (A - B) (b := 2 * A) (by omega)
  have h3 := Int.emod_lt_of_pos (A - B) (b := 2 * A) (by omega)
  rw [show 2 * A * ((A - B) / (2 * A)) = 2 * ((A - B) / (2 * A)) * A from by grind] at h1
  omega

/-- a measure that each round lowers -/
def rmeas (A B C : Int) : Nat := 2 * A.toNat + if C = A ∧ 0 ≤ B ∧ B ≤ A then 0 else 1
theorem rmeas_less {A B C k : Int} (hA : 1 ≤ A) (hC : 1 ≤ C + k * (B + k * A)) (hk : k = (A - B) / (2 * A)) (hn : ¬ (A < C + k * (B + k * A) ∨ A = C + k * (B + k * A) ∧ 0 ≤ B + 2 * k * A)) :
    rmeas (C + k * (B + k * A)) (-(B + 2 * k * A)) A < rmeas A B C := by
  have ⟨h1, h2⟩ := round_k (A := A) (B := B) hA
  rw [← hk] at h1 h2
  unfold rmeas
  by_cases h : A = C + k * (B + k * A)
  · rw [if_pos ⟨h, by omega, by omega⟩, ← h, if_neg]
    · omega
    · rintro ⟨e1, e2, e3⟩
      have : k = 0 := by rw [hk]; exact Int.ediv_eq_zero_of_lt (by omega) (by omega)
      subst this
      omega
  · have : C + k * (B + k * A) < A := by omega
    split <;> split <;> omega
end Go.Proofs.Ytkfjjljdhfjpbaa
