/- The plain law of the composition of forms: lattices in the numbers u + v sqrt D; one reduced form of each class. -/
namespace Go.Proofs.Ytlchmaiflcnaoaa
/-! numbers u + v sqrt D, as pairs -/
abbrev Z2 := Int × Int
def mulZ (D : Int) (x y : Z2) : Z2 := (x.1 * y.1 + D * x.2 * y.2, x.1 * y.2 + x.2 * y.1)
def addZ (x y : Z2) : Z2 := (x.1 + y.1, x.2 + y.2)
theorem mulZ_comm (D : Int) (x y : Z2) : mulZ D x y = mulZ D y x := by unfold mulZ; ext <;> grind
theorem mulZ_assoc (D : Int) (x y z : Z2) : mulZ D (mulZ D x y) z = mulZ D x (mulZ D y z) := by unfold mulZ; ext <;> grind
theorem mulZ_add (D : Int) (x y z : Z2) : mulZ D x (addZ y z) = addZ (mulZ D x y) (mulZ D x z) := by unfold mulZ addZ; ext <;> grind
theorem add_mulZ (D : Int) (x y z : Z2) : mulZ D (addZ x y) z = addZ (mulZ D x z) (mulZ D y z) := by unfold mulZ addZ; ext <;> grind
def nrm (D : Int) (x : Z2) : Int := x.1 * x.1 - D * x.2 * x.2
theorem nrm_mul (D : Int) (x y : Z2) : nrm D (mulZ D x y) = nrm D x * nrm D y := by unfold nrm mulZ; grind
theorem sq_nn (x : Int) : 0 ≤ x * x := by
  rcases Int.lt_or_le x 0 with h | h
  · have := Int.mul_nonneg_of_nonpos_of_nonpos (Int.le_of_lt h) (Int.le_of_lt h); exact this
  · exact Int.mul_nonneg h h
theorem sq_pos0 {x : Int} (h : x ≠ 0) : 0 < x * x := by
  have h1 := sq_nn x
  have h2 : x * x ≠ 0 := Int.mul_ne_zero h h
  omega
theorem nrm_nn {D : Int} (hD : D < 0) (x : Z2) : 0 ≤ nrm D x := by
  unfold nrm
  have h1 := sq_nn x.1
  have h2 := Int.mul_nonneg (show 0 ≤ -D by omega) (sq_nn x.2)
  have h3 : -D * (x.2 * x.2) = -(D * x.2 * x.2) := by grind
  omega
theorem nrm_zero {D : Int} (hD : D < 0) {x : Z2} (h : nrm D x = 0) : x = (0, 0) := by
  unfold nrm at h
  have h1 := sq_nn x.1
  have h2 := Int.mul_nonneg (show 0 ≤ -D by omega) (sq_nn x.2)
  have h3 : -D * (x.2 * x.2) = -(D * x.2 * x.2) := by grind
  have h4 : x.1 = 0 := by
    apply Classical.byContradiction
    intro hx
    have := sq_pos0 hx
    omega
  have h5 : x.2 = 0 := by
    apply Classical.byContradiction
    intro hx
    have := Int.mul_pos (show 0 < -D by omega) (sq_pos0 hx)
    omega
  exact Prod.ext h4 h5
theorem nrm_pos {D : Int} (hD : D < 0) {x : Z2} (h : x ≠ (0, 0)) : 0 < nrm D x := by
  have h1 := nrm_nn hD x
  have h2 : nrm D x ≠ 0 := fun e => h (nrm_zero hD e)
  omega
theorem mulZ_ne {D : Int} (hD : D < 0) {x y : Z2} (hx : x ≠ (0, 0)) (hy : y ≠ (0, 0)) : mulZ D x y ≠ (0, 0) := by
  intro h
  have h1 := nrm_mul D x y
  rw [h] at h1
  have h2 := Int.mul_pos (nrm_pos hD hx) (nrm_pos hD hy)
  unfold nrm at h1 h2
  simp at h1
  omega

/-- the products of two lattices and their sums -/
inductive Pr (D : Int) (A B : Z2 → Prop) : Z2 → Prop
  | mul {x y : Z2} : A x → B y → Pr D A B (mulZ D x y)
  | add {x y : Z2} : Pr D A B x → Pr D A B y → Pr D A B (addZ x y)
theorem Pr.comm {D : Int} {A B : Z2 → Prop} {z : Z2} (h : Pr D A B z) : Pr D B A z := by
  induction h with
  | mul ha hb => rw [mulZ_comm]; exact .mul hb ha
  | add _ _ h1 h2 => exact .add h1 h2
theorem Pr.push {D : Int} {A B C : Z2 → Prop} {z y : Z2} (h : Pr D A B z) (hc : C y) : Pr D A (Pr D B C) (mulZ D z y) := by
  induction h with
  | mul ha hb => rw [mulZ_assoc]; exact .mul ha (.mul hb hc)
  | add _ _ h1 h2 => rw [add_mulZ]; exact .add h1 h2
theorem Pr.assoc {D : Int} {A B C : Z2 → Prop} {z : Z2} (h : Pr D (Pr D A B) C z) : Pr D A (Pr D B C) z := by
  induction h with
  | mul ha hb => exact ha.push hb
  | add _ _ h1 h2 => exact .add h1 h2
theorem Pr.mono {D : Int} {A A' B B' : Z2 → Prop} (ha : ∀ z, A z → A' z) (hb : ∀ z, B z → B' z) {z : Z2} (h : Pr D A B z) : Pr D A' B' z := by
  induction h with
  | mul h1 h2 => exact .mul (ha _ h1) (hb _ h2)
  | add _ _ h1 h2 => exact .add h1 h2

/-- two lattices that are multiples of one another -/
def Sim (D : Int) (A B : Z2 → Prop) : Prop := ∃ α β : Z2, α ≠ (0, 0) ∧ β ≠ (0, 0) ∧ (∀ z, A z → ∃ w, B w ∧ mulZ D α z = mulZ D β w) ∧ (∀ w, B w → ∃ z, A z ∧ mulZ D α z = mulZ D β w)
theorem Sim.of_eq {D : Int} {A B : Z2 → Prop} (h1 : ∀ z, A z → B z) (h2 : ∀ z, B z → A z) : Sim D A B :=
  ⟨(1, 0), (1, 0), by decide, by decide, fun z hz => ⟨z, h1 z hz, rfl⟩, fun z hz => ⟨z, h2 z hz, rfl⟩⟩
theorem Sim.refl (D : Int) (A : Z2 → Prop) : Sim D A A := Sim.of_eq (fun _ h => h) (fun _ h => h)
theorem Sim.symm {D : Int} {A B : Z2 → Prop} (h : Sim D A B) : Sim D B A := by
  obtain ⟨α, β, h1, h2, h3, h4⟩ := h
  refine ⟨β, α, h2, h1, fun z hz => ?_, fun z hz => ?_⟩
  · obtain ⟨w, hw, e⟩ := h4 z hz; exact ⟨w, hw, e.symm⟩
  · obtain ⟨w, hw, e⟩ := h3 z hz; exact ⟨w, hw, e.symm⟩
theorem Sim.trans {D : Int} (hD : D < 0) {A B C : Z2 → Prop} (h : Sim D A B) (k : Sim D B C) : Sim D A C := by
  obtain ⟨α, β, h1, h2, h3, h4⟩ := h
  obtain ⟨γ, δ, k1, k2, k3, k4⟩ := k
  refine ⟨mulZ D γ α, mulZ D β δ, mulZ_ne hD k1 h1, mulZ_ne hD h2 k2, fun z hz => ?_, fun z hz => ?_⟩
  · obtain ⟨w, hw, e⟩ := h3 z hz
    obtain ⟨v, hv, f⟩ := k3 w hw
    refine ⟨v, hv, ?_⟩
    rw [mulZ_assoc, e, mulZ_assoc, ← f, ← mulZ_assoc, ← mulZ_assoc, mulZ_comm D γ β]
  · obtain ⟨w, hw, f⟩ := k4 z hz
    obtain ⟨v, hv, e⟩ := h4 w hw
    refine ⟨v, hv, ?_⟩
    rw [mulZ_assoc, e, mulZ_assoc, ← f, ← mulZ_assoc, ← mulZ_assoc, mulZ_comm D γ β]
theorem Sim.prod {D : Int} {A A' : Z2 → Prop} (B : Z2 → Prop) (h : Sim D A A') : Sim D (Pr D A B) (Pr D A' B) := by
  obtain ⟨α, β, h1, h2, h3, h4⟩ := h
  refine ⟨α, β, h1, h2, fun z hz => ?_, fun z hz => ?_⟩
  · induction hz with
    | @mul x y ha hb =>
      obtain ⟨w, hw, e⟩ := h3 x ha
      exact ⟨mulZ D w y, .mul hw hb, by rw [← mulZ_assoc, e, mulZ_assoc]⟩
    | add _ _ i1 i2 =>
      obtain ⟨w1, hw1, e1⟩ := i1
      obtain ⟨w2, hw2, e2⟩ := i2
      exact ⟨addZ w1 w2, .add hw1 hw2, by rw [mulZ_add, mulZ_add, e1, e2]⟩
  · induction hz with
    | @mul x y ha hb =>
      obtain ⟨w, hw, e⟩ := h4 x ha
      exact ⟨mulZ D w y, .mul hw hb, by rw [← mulZ_assoc, e, mulZ_assoc]⟩
    | add _ _ i1 i2 =>
      obtain ⟨w1, hw1, e1⟩ := i1
      obtain ⟨w2, hw2, e2⟩ := i2
      exact ⟨addZ w1 w2, .add hw1 hw2, by rw [mulZ_add, mulZ_add, e1, e2]⟩
theorem Sim.comm (D : Int) (A B : Z2 → Prop) : Sim D (Pr D A B) (Pr D B A) := Sim.of_eq (fun _ h => h.comm) (fun _ h => h.comm)
theorem Sim.assoc (D : Int) (A B C : Z2 → Prop) : Sim D (Pr D (Pr D A B) C) (Pr D A (Pr D B C)) :=
  Sim.of_eq (fun _ h => h.assoc) (fun z h => by
    have h1 : Pr D (Pr D C B) A z := (h.comm.mono (fun _ k => k.comm) (fun _ k => k))
    exact (h1.assoc.comm).mono (fun _ k => k.comm) (fun _ k => k))
theorem Sim.prod2 {D : Int} (hD : D < 0) {A A' B B' : Z2 → Prop} (h : Sim D A A') (k : Sim D B B') : Sim D (Pr D A B) (Pr D A' B') :=
  (h.prod B).trans hD (((Sim.comm D A' B).trans hD (k.prod A')).trans hD (Sim.comm D B' A'))

/-- the lattice of a form: 2 a x + (b + sqrt D) y -/
def Lf (a b : Int) : Z2 → Prop := fun z => ∃ x y : Int, z = (2 * a * x + b * y, y)

/-- forms that a turn carries into one another have lattices that are multiples of one another -/
theorem sim_turn {a b c A B p q r s : Int} (hdet : p * s - q * r = 1) (hA : A = a * p * p + b * p * r + c * r * r) (hB : B = 2 * a * p * q + b * (p * s + q * r) + 2 * c * r * s) (ha : a ≠ 0) (hA0 : A ≠ 0) : Sim (b * b - 4 * a * c) (Lf a b) (Lf A B) := by
  have hth : (2 * a * p + b * r, -r) ≠ ((0, 0) : Z2) := by
    intro h
    injection h with h1 h2
    have : r = 0 := by omega
    subst this
    apply hA0
    have h3 : 2 * a * p = 0 := by simpa using h1
    have h4 : p = 0 := by
      rcases Int.mul_eq_zero.1 h3 with h5 | h5
      · omega
      · exact h5
    rw [hA, h4]; simp
  have hb0 : (2 * a, 0) ≠ ((0, 0) : Z2) := by
    intro h
    injection h with h1 _
    omega
  refine ⟨(2 * a * p + b * r, -r), (2 * a, 0), hth, hb0, ?_, ?_⟩
  · rintro z ⟨x, y, rfl⟩
    refine ⟨(2 * A * (s * x - q * y) + B * (p * y - r * x), p * y - r * x), ⟨_, _, rfl⟩, ?_⟩
    unfold mulZ
    ext <;> simp only [] <;> subst hA hB <;> grind
  · rintro z ⟨x, y, rfl⟩
    refine ⟨(2 * a * (p * x + q * y) + b * (r * x + s * y), r * x + s * y), ⟨_, _, rfl⟩, ?_⟩
    unfold mulZ
    ext <;> simp only [] <;> subst hA hB <;> grind

theorem Lf.smul {a b : Int} {z : Z2} (h : Lf a b z) (k : Int) : Lf a b (k * z.1, k * z.2) := by
  obtain ⟨x, y, rfl⟩ := h
  exact ⟨k * x, k * y, by ext <;> simp only [] <;> grind⟩
/-- what the composition's numbers satisfy -/
structure Comp (a1 b1 c1 a2 b2 c2 D d1 v1 v2 r s n t u z1 x2 y1 y2 dd : Int) : Prop where
  e1 : a1 = d1 * v1
  e2 : a2 = d1 * v2
  e3 : b1 = d1 * s - n
  e4 : b2 = d1 * s + n
  e5 : D = b2 * b2 - 4 * a2 * c2
  e6 : D = b1 * b1 - 4 * a1 * c1
  e7 : v1 * t = n + v2 * r
  e8 : v1 * u = c2 + r * s
  e9 : x2 * s + y2 * dd = 1
  e10 : y1 * v2 + z1 * v1 = dd
theorem Comp.nsp {a1 b1 c1 a2 b2 c2 D d1 v1 v2 r s n t u z1 x2 y1 y2 dd : Int} (h : Comp a1 b1 c1 a2 b2 c2 D d1 v1 v2 r s n t u z1 x2 y1 y2 dd) (hd : d1 ≠ 0) : n * s = v2 * c2 - v1 * c1 := by
  obtain ⟨e1, e2, e3, e4, e5, e6, e7, e8, e9, e10⟩ := h
  have h1 : d1 * (n * s) = d1 * (v2 * c2 - v1 * c1) := by
    have : b2 * b2 - 4 * a2 * c2 = b1 * b1 - 4 * a1 * c1 := by rw [← e5, e6]
    subst e1 e2 e3 e4
    have h2 : 4 * (d1 * (n * s)) = 4 * (d1 * (v2 * c2 - v1 * c1)) := by grind
    omega
  exact Int.eq_of_mul_eq_mul_left hd h1
theorem e11_aux {n s v1 v2 c1 c2 t u r : Int} (h0 : n * s = v2 * c2 - v1 * c1) (e7 : v1 * t = n + v2 * r) (e8 : v1 * u = c2 + r * s) : v1 * (s * t) = v1 * (v2 * u - c1) := by
  have h1 : v1 * (s * t) = s * (v1 * t) := by grind
  have h2 : v1 * (v2 * u - c1) = v2 * (v1 * u) - v1 * c1 := by grind
  rw [h1, h2, e7, e8]
  grind
theorem Comp.e11 {a1 b1 c1 a2 b2 c2 D d1 v1 v2 r s n t u z1 x2 y1 y2 dd : Int} (h : Comp a1 b1 c1 a2 b2 c2 D d1 v1 v2 r s n t u z1 x2 y1 y2 dd) (hd : d1 ≠ 0) (hv : v1 ≠ 0) : s * t = v2 * u - c1 := by
  exact Int.eq_of_mul_eq_mul_left hv (e11_aux (h.nsp hd) h.e7 h.e8)
theorem comp_sim {a1 b1 c1 a2 b2 c2 D d1 v1 v2 r s n t u z1 x2 y1 y2 dd k1 k2 k3 k4 : Int} (h : Comp a1 b1 c1 a2 b2 c2 D d1 v1 v2 r s n t u z1 x2 y1 y2 dd) (hd : d1 ≠ 0) (hv : v1 ≠ 0) (hk : k1 * d1 + k2 * n + k3 * c1 + k4 * c2 = 1) :
    Sim D (Pr D (Lf a1 b1) (Lf a2 b2)) (Lf (v1 * v2) (b2 + 2 * v2 * r)) := by
  have e11 := h.e11 hd hv
  obtain ⟨e1, e2, e3, e4, e5, _, e7, e8, e9, e10⟩ := h
  have hb0 : (2 * d1, 0) ≠ ((0, 0) : Z2) := by
    intro h
    injection h with h1 _
    omega
  refine ⟨(1, 0), (2 * d1, 0), by decide, hb0, ?_, ?_⟩
  · intro z hz
    induction hz with
    | @mul x y hx hy =>
      obtain ⟨x, x', rfl⟩ := hx
      obtain ⟨y, y', rfl⟩ := hy
      refine ⟨_, ⟨d1 * x * y - r * (x * y') - t * (x' * y) - u * (x' * y'), v1 * (x * y') + v2 * (x' * y) + s * (x' * y'), rfl⟩, ?_⟩
      unfold mulZ
      ext
      · simp only []
        subst e5 e1 e2 e3 e4
        grind
      · simp only []
        subst e5 e1 e2 e3 e4
        grind
    | add _ _ i1 i2 =>
      obtain ⟨w1, ⟨p1, p2, rfl⟩, f1⟩ := i1
      obtain ⟨w2, ⟨q1, q2, rfl⟩, f2⟩ := i2
      refine ⟨_, ⟨p1 + q1, p2 + q2, rfl⟩, ?_⟩
      rw [mulZ_add, f1, f2]
      unfold mulZ addZ
      ext <;> simp only [] <;> grind
  · rintro w ⟨X, Y, rfl⟩
    have g1 : ∀ m : Int, Pr D (Lf a1 b1) (Lf a2 b2) (mulZ D (2 * a1 * m, 0) (2 * a2, 0)) := fun m => .mul ⟨m, 0, by simp⟩ ⟨1, 0, by simp⟩
    have g2 : ∀ m : Int, Pr D (Lf a1 b1) (Lf a2 b2) (mulZ D (2 * a1 * m, 0) (b2, 1)) := fun m => .mul ⟨m, 0, by simp⟩ ⟨0, 1, by simp⟩
    have g3 : ∀ m : Int, Pr D (Lf a1 b1) (Lf a2 b2) (mulZ D (b1, 1) (2 * a2 * m, 0)) := fun m => .mul ⟨0, 1, by simp⟩ ⟨m, 0, by simp⟩
    have g4 : ∀ m : Int, Pr D (Lf a1 b1) (Lf a2 b2) (mulZ D (m * b1, m) (b2, 1)) := fun m => .mul ⟨0, m, by ext <;> simp only [] <;> grind⟩ ⟨0, 1, by simp⟩
    obtain ⟨Z, hZ⟩ : ∃ Z, X + Y * y2 * y1 * t + Y * y2 * z1 * r + Y * x2 * u = Z := ⟨_, rfl⟩
    obtain ⟨m2, h2⟩ : ∃ m, (k2 * v2 + k4 * s) * Z + Y * y2 * z1 = m := ⟨_, rfl⟩
    obtain ⟨m3, h3⟩ : ∃ m, (k3 * s - k2 * v1) * Z + Y * y2 * y1 = m := ⟨_, rfl⟩
    obtain ⟨m4, h4⟩ : ∃ m, -(k3 * v2 + k4 * v1) * Z + Y * x2 = m := ⟨_, rfl⟩
    have hB1 : v1 * m2 + v2 * m3 + s * m4 = Y := by
      have e : v1 * m2 + v2 * m3 + s * m4 = Y * (x2 * s + y2 * (y1 * v2 + z1 * v1)) := by rw [← h2, ← h3, ← h4]; grind
      rw [e, e10, e9]; omega
    have hB2 : d1 * (k1 * Z) - r * m2 - t * m3 - u * m4 = X := by
      have e : d1 * (k1 * Z) - r * m2 - t * m3 - u * m4 = Z * (k1 * d1 + k2 * (v1 * t - v2 * r) + k3 * (v2 * u - s * t) + k4 * (v1 * u - r * s)) - (Y * y2 * y1 * t + Y * y2 * z1 * r + Y * x2 * u) := by rw [← h2, ← h3, ← h4]; grind
      have e' : k1 * d1 + k2 * (v1 * t - v2 * r) + k3 * (v2 * u - s * t) + k4 * (v1 * u - r * s) = 1 := by
        rw [e7, e8, e11, ← hk]; grind
      rw [e, e']; omega
    refine ⟨_, .add (.add (g1 (k1 * Z)) (g2 m2)) (.add (g3 m3) (g4 m4)), ?_⟩
    have q2 : 2 * a1 * b2 = v1 * (2 * d1 * (b2 + 2 * v2 * r)) - r * (4 * d1 * v1 * v2) := by rw [e1]; grind
    have q3 : 2 * a2 * b1 = v2 * (2 * d1 * (b2 + 2 * v2 * r)) - t * (4 * d1 * v1 * v2) := by
      have e : t * (4 * d1 * v1 * v2) = 4 * d1 * v2 * (v1 * t) := by grind
      rw [e, e7, e2, e3, e4]; grind
    have q4 : b1 * b2 + D = s * (2 * d1 * (b2 + 2 * v2 * r)) - u * (4 * d1 * v1 * v2) := by
      have e : u * (4 * d1 * v1 * v2) = 4 * d1 * v2 * (v1 * u) := by grind
      rw [e, e8, e5, e2, e3, e4]; grind
    have q5 : 2 * a1 = 2 * d1 * v1 := by rw [e1]; grind
    have q6 : 2 * a2 = 2 * d1 * v2 := by rw [e2]; grind
    have q7 : b1 + b2 = 2 * d1 * s := by rw [e3, e4]; grind
    have q8 : (2 * a1) * (2 * a2) = d1 * (4 * d1 * v1 * v2) := by rw [e1, e2]; grind
    clear g1 g2 g3 g4 h2 h3 h4 hZ e1 e2 e3 e4 e5 e7 e8 e9 e10 e11 hk hb0 hd hv
    unfold mulZ addZ
    ext
    · simp only []
      have f1 : 2 * a1 * (k1 * Z) * (2 * a2) = (2 * a1) * (2 * a2) * (k1 * Z) := by grind
      have f2 : 2 * a1 * m2 * b2 = (2 * a1 * b2) * m2 := by grind
      have f3 : b1 * (2 * a2 * m3) = (2 * a2 * b1) * m3 := by grind
      have f4 : m4 * b1 * b2 + D * m4 * 1 = (b1 * b2 + D) * m4 := by grind
      rw [f1, f2, f3, f4, q8, q2, q3, q4, ← hB1, ← hB2]
      grind
    · simp only []
      have f : 1 * (2 * a1 * (k1 * Z) * 0 + 0 * (2 * a2) + (2 * a1 * m2 * 1 + 0 * b2) + (b1 * 0 + 1 * (2 * a2 * m3) + (m4 * b1 * 1 + m4 * b2))) = (2 * a1) * m2 + (2 * a2) * m3 + (b1 + b2) * m4 := by grind
      rw [f, q5, q6, q7, ← hB1]
      grind

/-! reduced forms: of each class one -/
structure RedF (a b c : Int) : Prop where
  pos : 0 < a
  lo : -a < b
  hi : b ≤ a
  ac : a ≤ c
  eq : a = c → 0 ≤ b
theorem min_aux {a b c x y : Int} (h0 : 0 < a) (h1 : -a ≤ b) (h2 : b ≤ a) (h3 : a ≤ c) (hx : 0 ≤ x) (hy : 1 ≤ y) : c ≤ a * x * x + b * x * y + c * y * y := by
  have hxy : 0 ≤ x * y := Int.mul_nonneg hx (by omega)
  have e1 : -(a * (x * y)) ≤ b * (x * y) := by
    have := Int.mul_le_mul_of_nonneg_right h1 hxy
    rw [Int.neg_mul] at this; exact this
  have q1 : b * x * y = b * (x * y) := by grind
  rcases Int.lt_or_le x y with h | h
  · have e2 : a * (x * y) ≤ c * (x * y) := Int.mul_le_mul_of_nonneg_right h3 hxy
    have e3 : 0 ≤ a * (x * x) := Int.mul_nonneg (by omega) (Int.mul_nonneg hx hx)
    have e4 : c * 1 ≤ c * (y * (y - x)) := Int.mul_le_mul_of_nonneg_left (by
      have := Int.mul_le_mul (a := 1) (b := 1) hy (show 1 ≤ y - x by omega) (by omega) (by omega)
      omega) (by omega)
    have q2 : c * (y * (y - x)) = c * y * y - c * (x * y) := by grind
    have q3 : a * x * x = a * (x * x) := by grind
    omega
  · have e2 : 0 ≤ a * (x * (x - y)) := Int.mul_nonneg (by omega) (Int.mul_nonneg hx (by omega))
    have q2 : a * (x * (x - y)) = a * x * x - a * (x * y) := by grind
    have e4 : c * 1 ≤ c * (y * y) := Int.mul_le_mul_of_nonneg_left (by
      have := Int.mul_le_mul (a := 1) (b := 1) hy hy (by omega) (by omega)
      omega) (by omega)
    have q3 : c * y * y = c * (y * y) := by grind
    omega
theorem RedF.min {a b c : Int} (h : RedF a b c) (x y : Int) (hy : y ≠ 0) : c ≤ a * x * x + b * x * y + c * y * y := by
  obtain ⟨h0, h1, h2, h3, _⟩ := h
  rcases Int.lt_or_le y 0 with hy1 | hy1
  · rcases Int.lt_or_le x 0 with hx | hx
    · have := min_aux (x := -x) (y := -y) h0 (by omega) h2 h3 (by omega) (by omega)
      grind
    · have := min_aux (b := -b) (x := x) (y := -y) h0 (by omega) (by omega) h3 hx (by omega)
      grind
  · rcases Int.lt_or_le x 0 with hx | hx
    · have := min_aux (b := -b) (x := -x) (y := y) h0 (by omega) (by omega) h3 (by omega) (by omega)
      grind
    · exact min_aux h0 (by omega) h2 h3 hx (by omega)
theorem RedF.min1 {a b c : Int} (h : RedF a b c) {x y : Int} (hxy : x ≠ 0 ∨ y ≠ 0) : a ≤ a * x * x + b * x * y + c * y * y := by
  by_cases hy : y = 0
  · subst hy
    have hx : x ≠ 0 := hxy.resolve_right (by simp)
    have h1 := sq_pos0 hx
    have h2 : a * 1 ≤ a * (x * x) := Int.mul_le_mul_of_nonneg_left (by omega) (by have := h.pos; omega)
    have h3 : a * x * x + b * x * 0 + c * 0 * 0 = a * (x * x) := by grind
    omega
  · have := h.min x y hy
    have := h.ac
    omega
/-- f is g behind a turn -/
structure Turn (a b c a' b' c' p q r s : Int) : Prop where
  det : p * s - q * r = 1
  ea : a = a' * p * p + b' * p * r + c' * r * r
  eb : b = 2 * a' * p * q + b' * (p * s + q * r) + 2 * c' * r * s
  ec : c = a' * q * q + b' * q * s + c' * s * s
theorem Turn.back {a b c a' b' c' p q r s : Int} (h : Turn a b c a' b' c' p q r s) : Turn a' b' c' a b c s (-q) (-r) p := by
  obtain ⟨h1, rfl, rfl, rfl⟩ := h
  have h2 : p * s = 1 + q * r := by omega
  refine ⟨by grind, ?_, ?_, ?_⟩
  · have e : a' = a' * ((p * s - q * r) * (p * s - q * r)) := by rw [h1]; omega
    rw [e]; grind
  · have e : b' = b' * ((p * s - q * r) * (p * s - q * r)) := by rw [h1]; omega
    rw [e]; grind
  · have e : c' = c' * ((p * s - q * r) * (p * s - q * r)) := by rw [h1]; omega
    rw [e]; grind
theorem red_unique {a b c a' b' c' p q r s : Int} (h : RedF a b c) (h' : RedF a' b' c') (t : Turn a b c a' b' c' p q r s) : a = a' ∧ b = b' ∧ c = c' := by
  have t' := t.back
  have n1 : p ≠ 0 ∨ r ≠ 0 := by
    by_cases hp : p = 0
    · right; intro hr; have := t.det; rw [hp, hr] at this; simp at this
    · exact .inl hp
  have n2 : s ≠ 0 ∨ -r ≠ 0 := by
    by_cases hs : s = 0
    · right; intro hr; have := t.det; rw [hs, show r = 0 by omega] at this; simp at this
    · exact .inl hs
  have m1 : a' ≤ a := by rw [t.ea]; exact h'.min1 n1
  have m2 : a ≤ a' := by
    have := h.min1 n2
    rw [← t'.ea] at this; exact this
  have haa : a = a' := by omega
  by_cases hr : r = 0
  · have hd := t.det
    subst hr
    have e1 : p * s = 1 := by have := t.det; grind
    have e2 : b = 2 * a' * (p * q) + b' := by
      have := t.eb
      have e3 : b' * (p * s + q * 0) = b' := by rw [e1]; grind
      rw [e3] at this
      rw [this]; grind
    have e4 : p * q = 0 := by
      apply Classical.byContradiction
      intro hn
      have h1 := h.lo; have h2 := h.hi; have h3 := h'.lo; have h4 := h'.hi; have h5 := h'.pos
      rcases Int.lt_or_le (p * q) 0 with hk | hk
      · have := Int.mul_le_mul_of_nonneg_left (show p * q ≤ -1 by omega) (show 0 ≤ 2 * a' by omega)
        omega
      · have := Int.mul_le_mul_of_nonneg_left (show 1 ≤ p * q by omega) (show 0 ≤ 2 * a' by omega)
        omega
    have hp : p ≠ 0 := by intro hp; rw [hp] at e1; simp at e1
    have hq : q = 0 := (Int.mul_eq_zero.1 e4).resolve_left hp
    have e5 : c = c' := by
      have := t.ec
      have hs2 : s * s = 1 := by
        have h1 : (p * s) * (p * s) = 1 := by rw [e1]; rfl
        have h2 := sq_nn s
        have h3 := sq_nn p
        have h4 : (p * p) * (s * s) = 1 := by rw [← h1]; grind
        have h5 : s * s ≠ 0 := by intro h; rw [h] at h4; simp at h4
        have h6 : p * p ≠ 0 := by intro h; rw [h] at h4; simp at h4
        have h7 := Int.mul_le_mul_of_nonneg_right (show 1 ≤ p * p by omega) h2
        omega
      rw [hq] at this
      have e6 : a' * 0 * 0 + b' * 0 * s + c' * s * s = c' * (s * s) := by grind
      rw [e6, hs2] at this; omega
    rw [e4] at e2
    exact ⟨haa, by omega, e5⟩
  · have k1 := h'.min p r hr
    rw [← t.ea] at k1
    have k2 := h.min s (-r) (by omega)
    rw [← t'.ea] at k2
    have e1 := h'.ac
    have e2 := h.ac
    have hc' : c' = a' := by omega
    have hc : c = a := by omega
    have b1 := h'.eq hc'.symm
    have b2 := h.eq hc.symm
    have hdisc : b * b - 4 * a * c = b' * b' - 4 * a' * c' := by
      have e : b * b - 4 * a * c = (b' * b' - 4 * a' * c') * ((p * s - q * r) * (p * s - q * r)) := by
        rw [t.ea, t.eb, t.ec]; grind
      rw [e, t.det]; omega
    rw [hc, hc', haa] at hdisc
    have e3 : (b - b') * (b + b') = 0 := by grind
    rcases Int.mul_eq_zero.1 e3 with e | e
    · exact ⟨haa, by omega, by omega⟩
    · exact ⟨haa, by omega, by omega⟩

theorem nrm_form {D a b c : Int} (h : D = b * b - 4 * a * c) (x y : Int) : nrm D (2 * a * x + b * y, y) = 4 * a * (a * x * x + b * x * y + c * y * y) := by
  unfold nrm
  subst h
  grind
def crs (x y : Z2) : Int := x.1 * y.2 - x.2 * y.1
theorem crs_mul (D : Int) (α x y : Z2) : crs (mulZ D α x) (mulZ D α y) = nrm D α * crs x y := by unfold crs mulZ nrm; grind
theorem sim_turn_back {D a b c a' b' c' : Int} (hD : D < 0) (h : D = b * b - 4 * a * c) (h' : D = b' * b' - 4 * a' * c') (ha : 0 < a) (ha' : 0 < a') (S : Sim D (Lf a b) (Lf a' b')) : ∃ p q r s, Turn a b c a' b' c' p q r s := by
  obtain ⟨α, β, hα, hβ, k1, k2⟩ := S
  obtain ⟨_, ⟨p, r, rfl⟩, f1⟩ := k1 (2 * a, 0) ⟨1, 0, by simp⟩
  obtain ⟨_, ⟨q, s, rfl⟩, f2⟩ := k1 (b, 1) ⟨0, 1, by simp⟩
  obtain ⟨_, ⟨p', r', rfl⟩, g1⟩ := k2 (2 * a', 0) ⟨1, 0, by simp⟩
  obtain ⟨_, ⟨q', s', rfl⟩, g2⟩ := k2 (b', 1) ⟨0, 1, by simp⟩
  have nα := nrm_pos hD hα
  have nβ := nrm_pos hD hβ
  have c1 := crs_mul D α (2 * a, 0) (b, 1)
  rw [f1, f2, crs_mul] at c1
  have c2 := crs_mul D β (2 * a', 0) (b', 1)
  rw [← g1, ← g2, crs_mul] at c2
  have d1 : crs (2 * a' * p + b' * r, r) (2 * a' * q + b' * s, s) = 2 * a' * (p * s - q * r) := by unfold crs; grind
  have d2 : crs (2 * a * p' + b * r', r') (2 * a * q' + b * s', s') = 2 * a * (p' * s' - q' * r') := by unfold crs; grind
  have d3 : crs (2 * a, 0) (b, 1) = 2 * a := by unfold crs; simp
  have d4 : crs (2 * a', 0) (b', 1) = 2 * a' := by unfold crs; simp
  rw [d1, d3] at c1
  rw [d2, d4] at c2
  obtain ⟨M, hM⟩ : ∃ M, p * s - q * r = M := ⟨_, rfl⟩
  obtain ⟨M', hM'⟩ : ∃ M, p' * s' - q' * r' = M := ⟨_, rfl⟩
  rw [hM] at c1
  rw [hM'] at c2
  obtain ⟨K, hK⟩ : ∃ K, nrm D α * a = K := ⟨_, rfl⟩
  obtain ⟨K', hK'⟩ : ∃ K, nrm D β * a' = K := ⟨_, rfl⟩
  have pK : 0 < K := by rw [← hK]; exact Int.mul_pos nα ha
  have pK' : 0 < K' := by rw [← hK']; exact Int.mul_pos nβ ha'
  have c3 : K' * M = K := by
    have e1 : nrm D β * (2 * a' * M) = 2 * (nrm D β * a' * M) := by grind
    have e2 : nrm D α * (2 * a) = 2 * (nrm D α * a) := by grind
    rw [e1, e2, hK, hK'] at c1; omega
  have c4 : K * M' = K' := by
    have e1 : nrm D α * (2 * a * M') = 2 * (nrm D α * a * M') := by grind
    have e2 : nrm D β * (2 * a') = 2 * (nrm D β * a') := by grind
    rw [e1, e2, hK, hK'] at c2; omega
  have pM : 0 < M := by
    apply Classical.byContradiction
    intro hn
    have := Int.mul_le_mul_of_nonneg_left (show M ≤ 0 by omega) (show 0 ≤ K' by omega)
    omega
  have pM' : 0 < M' := by
    apply Classical.byContradiction
    intro hn
    have := Int.mul_le_mul_of_nonneg_left (show M' ≤ 0 by omega) (show 0 ≤ K by omega)
    omega
  have hM1 : M = 1 := by
    apply Classical.byContradiction
    intro hn
    have e1 := Int.mul_le_mul_of_nonneg_left (show 2 ≤ M by omega) (show 0 ≤ K' by omega)
    have e2 := Int.mul_le_mul_of_nonneg_left (show 1 ≤ M' by omega) (show 0 ≤ K by omega)
    omega
  have hKK : K = K' := by rw [hM1] at c3; omega
  have key : ∀ x y : Int, a * x * x + b * x * y + c * y * y = a' * (p * x + q * y) * (p * x + q * y) + b' * (p * x + q * y) * (r * x + s * y) + c' * (r * x + s * y) * (r * x + s * y) := by
    intro x y
    have e : mulZ D α (2 * a * x + b * y, y) = mulZ D β (2 * a' * (p * x + q * y) + b' * (r * x + s * y), r * x + s * y) := by
      have h1 : (2 * a * x + b * y, y) = addZ (mulZ D (2 * a, 0) (x, 0)) (mulZ D (b, 1) (y, 0)) := by unfold addZ mulZ; ext <;> simp only [] <;> grind
      have h2 : (2 * a' * (p * x + q * y) + b' * (r * x + s * y), r * x + s * y) = addZ (mulZ D (2 * a' * p + b' * r, r) (x, 0)) (mulZ D (2 * a' * q + b' * s, s) (y, 0)) := by unfold addZ mulZ; ext <;> simp only [] <;> grind
      rw [h1, h2, mulZ_add, mulZ_add, ← mulZ_assoc, ← mulZ_assoc, ← mulZ_assoc, ← mulZ_assoc, f1, f2]
    have e2 := congrArg (nrm D) e
    rw [nrm_mul, nrm_mul, nrm_form h, nrm_form h'] at e2
    have e3 : nrm D α * (4 * a * (a * x * x + b * x * y + c * y * y)) = 4 * (K * (a * x * x + b * x * y + c * y * y)) := by rw [← hK]; grind
    have e4 : ∀ V : Int, nrm D β * (4 * a' * V) = 4 * (K * V) := fun V => by rw [hKK, ← hK']; grind
    rw [e3, e4] at e2
    exact Int.eq_of_mul_eq_mul_left (show K ≠ 0 by omega) (by omega)
  have key1 := key 1 0
  have key2 := key 0 1
  have key3 := key 1 1
  refine ⟨p, q, r, s, by rw [hM, hM1], ?_, ?_, ?_⟩
  · grind
  · grind
  · grind
/-- lattices that are multiples of one another: one reduced form -/
theorem sim_unique {D a b c a' b' c' : Int} (hD : D < 0) (h : D = b * b - 4 * a * c) (h' : D = b' * b' - 4 * a' * c') (r : RedF a b c) (r' : RedF a' b' c') (S : Sim D (Lf a b) (Lf a' b')) : a = a' ∧ b = b' ∧ c = c' := by
  obtain ⟨p, q, u, s, t⟩ := sim_turn_back hD h h' r.pos r'.pos S
  exact red_unique r r' t
end Go.Proofs.Ytlchmaiflcnaoaa
