/- Plain laws and first walks, in one text: each under the conditions that its theorems name. -/
import Derived.KernelRfl
namespace Go.Proofs.Ytkfjjljdhfjpbaa
/-! numbers u + v sqrt D, as pairs -/
abbrev Z2 := Int × Int
def mulZ (D : Int) (x y : Z2) : Z2 := (x.1 * y.1 + D * x.2 * y.2, x.1 * y.2 + x.2 * y.1)
def addZ (x y : Z2) : Z2 := (x.1 + y.1, x.2 + y.2)
theorem mulZ_comm (D : Int) (x y : Z2) : mulZ D x y = mulZ D y x := by unfold mulZ; ext <;> grind
theorem mulZ_assoc (D : Int) (x y z : Z2) : mulZ D (mulZ D x y) z = mulZ D x (mulZ D y z) := by unfold mulZ; ext <;> grind
theorem mulZ_add (D : Int) (x y z : Z2) : mulZ D x (addZ y z) = addZ (mulZ D x y) (mulZ D x z) := by unfold mulZ addZ; ext <;> grind
theorem add_mulZ (D : Int) (x y z : Z2) : mulZ D (addZ x y) z = addZ (mulZ D x z) (mulZ D y z) := by unfold mulZ addZ; ext <;> grind
def nrm (D : Int) (x : Z2) : Int := x.1 * x.1 - D * x.2 * x.2
theorem nrm_mul (D : Int) (x y : Z2) : nrm D (mulZ D x y) = nrm D x * nrm D y := by unfold nrm mulZ; grind
theorem sq_nn (x : Int) : 0 ≤ x * x := by
  rcases Int.lt_or_le x 0 with h | h
  · have := Int.mul_nonneg_of_nonpos_of_nonpos (Int.le_of_lt h) (Int.le_of_lt h); exact this
  · exact Int.mul_nonneg h h
theorem sq_pos0 {x : Int} (h : x ≠ 0) : 0 < x * x := by
  have h1 := sq_nn x
  have h2 : x * x ≠ 0 := Int.mul_ne_zero h h
  omega
theorem nrm_nn {D : Int} (hD : D < 0) (x : Z2) : 0 ≤ nrm D x := by
  unfold nrm
  have h1 := sq_nn x.1
  have h2 := Int.mul_nonneg (show 0 ≤ -D by omega) (sq_nn x.2)
  have h3 : -D * (x.2 * x.2) = -(D * x.2 * x.2) := by grind
  omega
theorem nrm_zero {D : Int} (hD : D < 0) {x : Z2} (h : nrm D x = 0) : x = (0, 0) := by
  unfold nrm at h
  have h1 := sq_nn x.1
  have h2 := Int.mul_nonneg (show 0 ≤ -D by omega) (sq_nn x.2)
  have h3 : -D * (x.2 * x.2) = -(D * x.2 * x.2) := by grind
  have h4 : x.1 = 0 := by
    apply Classical.byContradiction
    intro hx
    have := sq_pos0 hx
    omega
  have h5 : x.2 = 0 := by
    apply Classical.byContradiction
    intro hx
    have := Int.mul_pos (show 0 < -D by omega) (sq_pos0 hx)
    omega
  exact Prod.ext h4 h5
theorem nrm_pos {D : Int} (hD : D < 0) {x : Z2} (h : x ≠ (0, 0)) : 0 < nrm D x := by
  have h1 := nrm_nn hD x
  have h2 : nrm D x ≠ 0 := fun e => h (nrm_zero hD e)
  omega
theorem mulZ_ne {D : Int} (hD : D < 0) {x y : Z2} (hx : x ≠ (0, 0)) (hy : y ≠ (0, 0)) : mulZ D x y ≠ (0, 0) := by
  intro h
  have h1 := nrm_mul D x y
  rw [h] at h1
  have h2 := Int.mul_pos (nrm_pos hD hx) (nrm_pos hD hy)
  unfold nrm at h1 h2
  simp at h1
  omega

/-- the products of two lattices and their sums -/
inductive Pr (D : Int) (A B : Z2 → Prop) : Z2 → Prop
  | mul {x y : Z2} : A x → B y → Pr D A B (mulZ D x y)
  | add {x y : Z2} : Pr D A B x → Pr D A B y → Pr D A B (addZ x y)
theorem Pr.comm {D : Int} {A B : Z2 → Prop} {z : Z2} (h : Pr D A B z) : Pr D B A z := by
  induction h with
  | mul ha hb => rw [mulZ_comm]; exact .mul hb ha
  | add _ _ h1 h2 => exact .add h1 h2
theorem Pr.push {D : Int} {A B C : Z2 → Prop} {z y : Z2} (h : Pr D A B z) (hc : C y) : Pr D A (Pr D B C) (mulZ D z y) := by
  induction h with
  | mul ha hb => rw [mulZ_assoc]; exact .mul ha (.mul hb hc)
  | add _ _ h1 h2 => rw [add_mulZ]; exact .add h1 h2
theorem Pr.assoc {D : Int} {A B C : Z2 → Prop} {z : Z2} (h : Pr D (Pr D A B) C z) : Pr D A (Pr D B C) z := by
  induction h with
  | mul ha hb => exact ha.push hb
  | add _ _ h1 h2 => exact .add h1 h2
theorem Pr.mono {D : Int} {A A' B B' : Z2 → Prop} (ha : ∀ z, A z → A' z) (hb : ∀ z, B z → B' z) {z : Z2} (h : Pr D A B z) : Pr D A' B' z := by
  induction h with
  | mul h1 h2 => exact .mul (ha _ h1) (hb _ h2)
  | add _ _ h1 h2 => exact .add h1 h2

/-- two lattices that are multiples of one another -/
def Sim (D : Int) (A B : Z2 → Prop) : Prop := ∃ α β : Z2, α ≠ (0, 0) ∧ β ≠ (0, 0) ∧ (∀ z, A z → ∃ w, B w ∧ mulZ D α z = mulZ D β w) ∧ (∀ w, B w → ∃ z, A z ∧ mulZ D α z = mulZ D β w)
theorem Sim.of_eq {D : Int} {A B : Z2 → Prop} (h1 : ∀ z, A z → B z) (h2 : ∀ z, B z → A z) : Sim D A B :=
  ⟨(1, 0), (1, 0), by decide, by decide, fun z hz => ⟨z, h1 z hz, rfl⟩, fun z hz => ⟨z, h2 z hz, rfl⟩⟩
theorem Sim.refl (D : Int) (A : Z2 → Prop) : Sim D A A := Sim.of_eq (fun _ h => h) (fun _ h => h)
theorem Sim.symm {D : Int} {A B : Z2 → Prop} (h : Sim D A B) : Sim D B A := by
  obtain ⟨α, β, h1, h2, h3, h4⟩ := h
  refine ⟨β, α, h2, h1, fun z hz => ?_, fun z hz => ?_⟩
  · obtain ⟨w, hw, e⟩ := h4 z hz; exact ⟨w, hw, e.symm⟩
  · obtain ⟨w, hw, e⟩ := h3 z hz; exact ⟨w, hw, e.symm⟩
theorem Sim.trans {D : Int} (hD : D < 0) {A B C : Z2 → Prop} (h : Sim D A B) (k : Sim D B C) : Sim D A C := by
  obtain ⟨α, β, h1, h2, h3, h4⟩ := h
  obtain ⟨γ, δ, k1, k2, k3, k4⟩ := k
  refine ⟨mulZ D γ α, mulZ D β δ, mulZ_ne hD k1 h1, mulZ_ne hD h2 k2, fun z hz => ?_, fun z hz => ?_⟩
  · obtain ⟨w, hw, e⟩ := h3 z hz
    obtain ⟨v, hv, f⟩ := k3 w hw
    refine ⟨v, hv, ?_⟩
    rw [mulZ_assoc, e, mulZ_assoc, ← f, ← mulZ_assoc, ← mulZ_assoc, mulZ_comm D γ β]
  · obtain ⟨w, hw, f⟩ := k4 z hz
    obtain ⟨v, hv, e⟩ := h4 w hw
    refine ⟨v, hv, ?_⟩
    rw [mulZ_assoc, e, mulZ_assoc, ← f, ← mulZ_assoc, ← mulZ_assoc, mulZ_comm D γ β]
theorem Sim.prod {D : Int} {A A' : Z2 → Prop} (B : Z2 → Prop) (h : Sim D A A') : Sim D (Pr D A B) (Pr D A' B) := by
  obtain ⟨α, β, h1, h2, h3, h4⟩ := h
  refine ⟨α, β, h1, h2, fun z hz => ?_, fun z hz => ?_⟩
  · induction hz with
    | @mul x y ha hb =>
      obtain ⟨w, hw, e⟩ := h3 x ha
      exact ⟨mulZ D w y, .mul hw hb, by rw [← mulZ_assoc, e, mulZ_assoc]⟩
    | add _ _ i1 i2 =>
      obtain ⟨w1, hw1, e1⟩ := i1
      obtain ⟨w2, hw2, e2⟩ := i2
      exact ⟨addZ w1 w2, .add hw1 hw2, by rw [mulZ_add, mulZ_add, e1, e2]⟩
  · induction hz with
    | @mul x y ha hb =>
      obtain ⟨w, hw, e⟩ := h4 x ha
      exact ⟨mulZ D w y, .mul hw hb, by rw [← mulZ_assoc, e, mulZ_assoc]⟩
    | add _ _ i1 i2 =>
      obtain ⟨w1, hw1, e1⟩ := i1
      obtain ⟨w2, hw2, e2⟩ := i2
      exact ⟨addZ w1 w2, .add hw1 hw2, by rw [mulZ_add, mulZ_add, e1, e2]⟩
theorem Sim.comm (D : Int) (A B : Z2 → Prop) : Sim D (Pr D A B) (Pr D B A) := Sim.of_eq (fun _ h => h.comm) (fun _ h => h.comm)
theorem Sim.assoc (D : Int) (A B C : Z2 → Prop) : Sim D (Pr D (Pr D A B) C) (Pr D A (Pr D B C)) :=
  Sim.of_eq (fun _ h => h.assoc) (fun z h => by
    have h1 : Pr D (Pr D C B) A z := (h.comm.mono (fun _ k => k.comm) (fun _ k => k))
    exact (h1.assoc.comm).mono (fun _ k => k.comm) (fun _ k => k))
theorem Sim.prod2 {D : Int} (hD : D < 0) {A A' B B' : Z2 → Prop} (h : Sim D A A') (k : Sim D B B') : Sim D (Pr D A B) (Pr D A' B') :=
  (h.prod B).trans hD (((Sim.comm D A' B).trans hD (k.prod A')).trans hD (Sim.comm D B' A'))

/-- the lattice of a form: 2 a x + (b + sqrt D) y -/
def Lf (a b : Int) : Z2 → Prop := fun z => ∃ x y : Int, z = (2 * a * x + b * y, y)

/-- forms that a turn carries into one another have lattices that are multiples of one another -/
theorem sim_turn {a b c A B p q r s : Int} (hdet : p * s - q * r = 1) (hA : A = a * p * p + b * p * r + c * r * r) (hB : B = 2 * a * p * q + b * (p * s + q * r) + 2 * c * r * s) (ha : a ≠ 0) (hA0 : A ≠ 0) : Sim (b * b - 4 * a * c) (Lf a b) (Lf A B) := by
  have hth : (2 * a * p + b * r, -r) ≠ ((0, 0) : Z2) := by
    intro h
    injection h with h1 h2
    have : r = 0 := by omega
    subst this
    apply hA0
    have h3 : 2 * a * p = 0 := by simpa using h1
    have h4 : p = 0 := by
      rcases Int.mul_eq_zero.1 h3 with h5 | h5
      · omega
      · exact h5
    rw [hA, h4]; simp
  have hb0 : (2 * a, 0) ≠ ((0, 0) : Z2) := by
    intro h
    injection h with h1 _
    omega
  refine ⟨(2 * a * p + b * r, -r), (2 * a, 0), hth, hb0, ?_, ?_⟩
  · rintro z ⟨x, y, rfl⟩
    refine ⟨(2 * A * (s * x - q * y) + B * (p * y - r * x), p * y - r * x), ⟨_, _, rfl⟩, ?_⟩
    unfold mulZ
    ext <;> simp only [] <;> subst hA hB <;> grind
  · rintro z ⟨x, y, rfl⟩
    refine ⟨(2 * a * (p * x + q * y) + b * (r * x + s * y), r * x + s * y), ⟨_, _, rfl⟩, ?_⟩
    unfold mulZ
    ext <;> simp only [] <;> subst hA hB <;> grind

theorem Lf.smul {a b : Int} {z : Z2} (h : Lf a b z) (k : Int) : Lf a b (k * z.1, k * z.2) := by
  obtain ⟨x, y, rfl⟩ := h
  exact ⟨k * x, k * y, by ext <;> simp only [] <;> grind⟩
/-- what the composition's numbers satisfy -/
structure Comp (a1 b1 c1 a2 b2 c2 D d1 v1 v2 r s n t u z1 x2 y1 y2 dd : Int) : Prop where
  e1 : a1 = d1 * v1
  e2 : a2 = d1 * v2
  e3 : b1 = d1 * s - n
  e4 : b2 = d1 * s + n
  e5 : D = b2 * b2 - 4 * a2 * c2
  e6 : D = b1 * b1 - 4 * a1 * c1
  e7 : v1 * t = n + v2 * r
  e8 : v1 * u = c2 + r * s
  e9 : x2 * s + y2 * dd = 1
  e10 : y1 * v2 + z1 * v1 = dd
theorem Comp.nsp {a1 b1 c1 a2 b2 c2 D d1 v1 v2 r s n t u z1 x2 y1 y2 dd : Int} (h : Comp a1 b1 c1 a2 b2 c2 D d1 v1 v2 r s n t u z1 x2 y1 y2 dd) (hd : d1 ≠ 0) : n * s = v2 * c2 - v1 * c1 := by
  obtain ⟨e1, e2, e3, e4, e5, e6, e7, e8, e9, e10⟩ := h
  have h1 : d1 * (n * s) = d1 * (v2 * c2 - v1 * c1) := by
    have : b2 * b2 - 4 * a2 * c2 = b1 * b1 - 4 * a1 * c1 := by rw [← e5, e6]
    subst e1 e2 e3 e4
    have h2 : 4 * (d1 * (n * s)) = 4 * (d1 * (v2 * c2 - v1 * c1)) := by grind
    omega
  exact Int.eq_of_mul_eq_mul_left hd h1
theorem e11_aux {n s v1 v2 c1 c2 t u r : Int} (h0 : n * s = v2 * c2 - v1 * c1) (e7 : v1 * t = n + v2 * r) (e8 : v1 * u = c2 + r * s) : v1 * (s * t) = v1 * (v2 * u - c1) := by
  have h1 : v1 * (s * t) = s * (v1 * t) := by grind
  have h2 : v1 * (v2 * u - c1) = v2 * (v1 * u) - v1 * c1 := by grind
  rw [h1, h2, e7, e8]
  grind
theorem Comp.e11 {a1 b1 c1 a2 b2 c2 D d1 v1 v2 r s n t u z1 x2 y1 y2 dd : Int} (h : Comp a1 b1 c1 a2 b2 c2 D d1 v1 v2 r s n t u z1 x2 y1 y2 dd) (hd : d1 ≠ 0) (hv : v1 ≠ 0) : s * t = v2 * u - c1 := by
  exact Int.eq_of_mul_eq_mul_left hv (e11_aux (h.nsp hd) h.e7 h.e8)
theorem comp_sim {a1 b1 c1 a2 b2 c2 D d1 v1 v2 r s n t u z1 x2 y1 y2 dd k1 k2 k3 k4 : Int} (h : Comp a1 b1 c1 a2 b2 c2 D d1 v1 v2 r s n t u z1 x2 y1 y2 dd) (hd : d1 ≠ 0) (hv : v1 ≠ 0) (hk : k1 * d1 + k2 * n + k3 * c1 + k4 * c2 = 1) :
    Sim D (Pr D (Lf a1 b1) (Lf a2 b2)) (Lf (v1 * v2) (b2 + 2 * v2 * r)) := by
  have e11 := h.e11 hd hv
  obtain ⟨e1, e2, e3, e4, e5, _, e7, e8, e9, e10⟩ := h
  have hb0 : (2 * d1, 0) ≠ ((0, 0) : Z2) := by
    intro h
    injection h with h1 _
    omega
  refine ⟨(1, 0), (2 * d1, 0), by decide, hb0, ?_, ?_⟩
  · intro z hz
    induction hz with
    | @mul x y hx hy =>
      obtain ⟨x, x', rfl⟩ := hx
      obtain ⟨y, y', rfl⟩ := hy
      refine ⟨_, ⟨d1 * x * y - r * (x * y') - t * (x' * y) - u * (x' * y'), v1 * (x * y') + v2 * (x' * y) + s * (x' * y'), rfl⟩, ?_⟩
      unfold mulZ
      ext
      · simp only []
        subst e5 e1 e2 e3 e4
        grind
      · simp only []
        subst e5 e1 e2 e3 e4
        grind
    | add _ _ i1 i2 =>
      obtain ⟨w1, ⟨p1, p2, rfl⟩, f1⟩ := i1
      obtain ⟨w2, ⟨q1, q2, rfl⟩, f2⟩ := i2
      refine ⟨_, ⟨p1 + q1, p2 + q2, rfl⟩, ?_⟩
      rw [mulZ_add, f1, f2]
      unfold mulZ addZ
      ext <;> simp only [] <;> grind
  · rintro w ⟨X, Y, rfl⟩
    have g1 : ∀ m : Int, Pr D (Lf a1 b1) (Lf a2 b2) (mulZ D (2 * a1 * m, 0) (2 * a2, 0)) := fun m => .mul ⟨m, 0, by simp⟩ ⟨1, 0, by simp⟩
    have g2 : ∀ m : Int, Pr D (Lf a1 b1) (Lf a2 b2) (mulZ D (2 * a1 * m, 0) (b2, 1)) := fun m => .mul ⟨m, 0, by simp⟩ ⟨0, 1, by simp⟩
    have g3 : ∀ m : Int, Pr D (Lf a1 b1) (Lf a2 b2) (mulZ D (b1, 1) (2 * a2 * m, 0)) := fun m => .mul ⟨0, 1, by simp⟩ ⟨m, 0, by simp⟩
    have g4 : ∀ m : Int, Pr D (Lf a1 b1) (Lf a2 b2) (mulZ D (m * b1, m) (b2, 1)) := fun m => .mul ⟨0, m, by ext <;> simp only [] <;> grind⟩ ⟨0, 1, by simp⟩
    obtain ⟨Z, hZ⟩ : ∃ Z, X + Y * y2 * y1 * t + Y * y2 * z1 * r + Y * x2 * u = Z := ⟨_, rfl⟩
    obtain ⟨m2, h2⟩ : ∃ m, (k2 * v2 + k4 * s) * Z + Y * y2 * z1 = m := ⟨_, rfl⟩
    obtain ⟨m3, h3⟩ : ∃ m, (k3 * s - k2 * v1) * Z + Y * y2 * y1 = m := ⟨_, rfl⟩
    obtain ⟨m4, h4⟩ : ∃ m, -(k3 * v2 + k4 * v1) * Z + Y * x2 = m := ⟨_, rfl⟩
    have hB1 : v1 * m2 + v2 * m3 + s * m4 = Y := by
      have e : v1 * m2 + v2 * m3 + s * m4 = Y * (x2 * s + y2 * (y1 * v2 + z1 * v1)) := by rw [← h2, ← h3, ← h4]; grind
      rw [e, e10, e9]; omega
    have hB2 : d1 * (k1 * Z) - r * m2 - t * m3 - u * m4 = X := by
      have e : d1 * (k1 * Z) - r * m2 - t * m3 - u * m4 = Z * (k1 * d1 + k2 * (v1 * t - v2 * r) + k3 * (v2 * u - s * t) + k4 * (v1 * u - r * s)) - (Y * y2 * y1 * t + Y * y2 * z1 * r + Y * x2 * u) := by rw [← h2, ← h3, ← h4]; grind
      have e' : k1 * d1 + k2 * (v1 * t - v2 * r) + k3 * (v2 * u - s * t) + k4 * (v1 * u - r * s) = 1 := by
        rw [e7, e8, e11, ← hk]; grind
      rw [e, e']; omega
    refine ⟨_, .add (.add (g1 (k1 * Z)) (g2 m2)) (.add (g3 m3) (g4 m4)), ?_⟩
    have q2 : 2 * a1 * b2 = v1 * (2 * d1 * (b2 + 2 * v2 * r)) - r * (4 * d1 * v1 * v2) := by rw [e1]; grind
    have q3 : 2 * a2 * b1 = v2 * (2 * d1 * (b2 + 2 * v2 * r)) - t * (4 * d1 * v1 * v2) := by
      have e : t * (4 * d1 * v1 * v2) = 4 * d1 * v2 * (v1 * t) := by grind
      rw [e, e7, e2, e3, e4]; grind
    have q4 : b1 * b2 + D = s * (2 * d1 * (b2 + 2 * v2 * r)) - u * (4 * d1 * v1 * v2) := by
      have e : u * (4 * d1 * v1 * v2) = 4 * d1 * v2 * (v1 * u) := by grind
      rw [e, e8, e5, e2, e3, e4]; grind
    have q5 : 2 * a1 = 2 * d1 * v1 := by rw [e1]; grind
    have q6 : 2 * a2 = 2 * d1 * v2 := by rw [e2]; grind
    have q7 : b1 + b2 = 2 * d1 * s := by rw [e3, e4]; grind
    have q8 : (2 * a1) * (2 * a2) = d1 * (4 * d1 * v1 * v2) := by rw [e1, e2]; grind
    clear g1 g2 g3 g4 h2 h3 h4 hZ e1 e2 e3 e4 e5 e7 e8 e9 e10 e11 hk hb0 hd hv
    unfold mulZ addZ
    ext
    · simp only []
      have f1 : 2 * a1 * (k1 * Z) * (2 * a2) = (2 * a1) * (2 * a2) * (k1 * Z) := by grind
      have f2 : 2 * a1 * m2 * b2 = (2 * a1 * b2) * m2 := by grind
      have f3 : b1 * (2 * a2 * m3) = (2 * a2 * b1) * m3 := by grind
      have f4 : m4 * b1 * b2 + D * m4 * 1 = (b1 * b2 + D) * m4 := by grind
      rw [f1, f2, f3, f4, q8, q2, q3, q4, ← hB1, ← hB2]
      grind
    · simp only []
      have f : 1 * (2 * a1 * (k1 * Z) * 0 + 0 * (2 * a2) + (2 * a1 * m2 * 1 + 0 * b2) + (b1 * 0 + 1 * (2 * a2 * m3) + (m4 * b1 * 1 + m4 * b2))) = (2 * a1) * m2 + (2 * a2) * m3 + (b1 + b2) * m4 := by grind
      rw [f, q5, q6, q7, ← hB1]
      grind

/-! reduced forms: of each class one -/
structure RedF (a b c : Int) : Prop where
  pos : 0 < a
  lo : -a < b
  hi : b ≤ a
  ac : a ≤ c
  eq : a = c → 0 ≤ b
theorem min_aux {a b c x y : Int} (h0 : 0 < a) (h1 : -a ≤ b) (h2 : b ≤ a) (h3 : a ≤ c) (hx : 0 ≤ x) (hy : 1 ≤ y) : c ≤ a * x * x + b * x * y + c * y * y := by
  have hxy : 0 ≤ x * y := Int.mul_nonneg hx (by omega)
  have e1 : -(a * (x * y)) ≤ b * (x * y) := by
    have := Int.mul_le_mul_of_nonneg_right h1 hxy
    rw [Int.neg_mul] at this; exact this
  have q1 : b * x * y = b * (x * y) := by grind
  rcases Int.lt_or_le x y with h | h
  · have e2 : a * (x * y) ≤ c * (x * y) := Int.mul_le_mul_of_nonneg_right h3 hxy
    have e3 : 0 ≤ a * (x * x) := Int.mul_nonneg (by omega) (Int.mul_nonneg hx hx)
    have e4 : c * 1 ≤ c * (y * (y - x)) := Int.mul_le_mul_of_nonneg_left (by
      have := Int.mul_le_mul (a := 1) (b := 1) hy (show 1 ≤ y - x by omega) (by omega) (by omega)
      omega) (by omega)
    have q2 : c * (y * (y - x)) = c * y * y - c * (x * y) := by grind
    have q3 : a * x * x = a * (x * x) := by grind
    omega
  · have e2 : 0 ≤ a * (x * (x - y)) := Int.mul_nonneg (by omega) (Int.mul_nonneg hx (by omega))
    have q2 : a * (x * (x - y)) = a * x * x - a * (x * y) := by grind
    have e4 : c * 1 ≤ c * (y * y) := Int.mul_le_mul_of_nonneg_left (by
      have := Int.mul_le_mul (a := 1) (b := 1) hy hy (by omega) (by omega)
      omega) (by omega)
    have q3 : c * y * y = c * (y * y) := by grind
    omega
theorem RedF.min {a b c : Int} (h : RedF a b c) (x y : Int) (hy : y ≠ 0) : c ≤ a * x * x + b * x * y + c * y * y := by
  obtain ⟨h0, h1, h2, h3, _⟩ := h
  rcases Int.lt_or_le y 0 with hy1 | hy1
  · rcases Int.lt_or_le x 0 with hx | hx
    · have := min_aux (x := -x) (y := -y) h0 (by omega) h2 h3 (by omega) (by omega)
      grind
    · have := min_aux (b := -b) (x := x) (y := -y) h0 (by omega) (by omega) h3 hx (by omega)
      grind
  · rcases Int.lt_or_le x 0 with hx | hx
    · have := min_aux (b := -b) (x := -x) (y := y) h0 (by omega) (by omega) h3 (by omega) (by omega)
      grind
    · exact min_aux h0 (by omega) h2 h3 hx (by omega)
theorem RedF.min1 {a b c : Int} (h : RedF a b c) {x y : Int} (hxy : x ≠ 0 ∨ y ≠ 0) : a ≤ a * x * x + b * x * y + c * y * y := by
  by_cases hy : y = 0
  · subst hy
    have hx : x ≠ 0 := hxy.resolve_right (by simp)
    have h1 := sq_pos0 hx
    have h2 : a * 1 ≤ a * (x * x) := Int.mul_le_mul_of_nonneg_left (by omega) (by have := h.pos; omega)
    have h3 : a * x * x + b * x * 0 + c * 0 * 0 = a * (x * x) := by grind
    omega
  · have := h.min x y hy
    have := h.ac
    omega
/-- f is g behind a turn -/
structure Turn (a b c a' b' c' p q r s : Int) : Prop where
  det : p * s - q * r = 1
  ea : a = a' * p * p + b' * p * r + c' * r * r
  eb : b = 2 * a' * p * q + b' * (p * s + q * r) + 2 * c' * r * s
  ec : c = a' * q * q + b' * q * s + c' * s * s
theorem Turn.back {a b c a' b' c' p q r s : Int} (h : Turn a b c a' b' c' p q r s) : Turn a' b' c' a b c s (-q) (-r) p := by
  obtain ⟨h1, rfl, rfl, rfl⟩ := h
  have h2 : p * s = 1 + q * r := by omega
  refine ⟨by grind, ?_, ?_, ?_⟩
  · have e : a' = a' * ((p * s - q * r) * (p * s - q * r)) := by rw [h1]; omega
    rw [e]; grind
  · have e : b' = b' * ((p * s - q * r) * (p * s - q * r)) := by rw [h1]; omega
    rw [e]; grind
  · have e : c' = c' * ((p * s - q * r) * (p * s - q * r)) := by rw [h1]; omega
    rw [e]; grind
theorem red_unique {a b c a' b' c' p q r s : Int} (h : RedF a b c) (h' : RedF a' b' c') (t : Turn a b c a' b' c' p q r s) : a = a' ∧ b = b' ∧ c = c' := by
  have t' := t.back
  have n1 : p ≠ 0 ∨ r ≠ 0 := by
    by_cases hp : p = 0
    · right; intro hr; have := t.det; rw [hp, hr] at this; simp at this
    · exact .inl hp
  have n2 : s ≠ 0 ∨ -r ≠ 0 := by
    by_cases hs : s = 0
    · right; intro hr; have := t.det; rw [hs, show r = 0 by omega] at this; simp at this
    · exact .inl hs
  have m1 : a' ≤ a := by rw [t.ea]; exact h'.min1 n1
  have m2 : a ≤ a' := by
    have := h.min1 n2
    rw [← t'.ea] at this; exact this
  have haa : a = a' := by omega
  by_cases hr : r = 0
  · have hd := t.det
    subst hr
    have e1 : p * s = 1 := by have := t.det; grind
    have e2 : b = 2 * a' * (p * q) + b' := by
      have := t.eb
      have e3 : b' * (p * s + q * 0) = b' := by rw [e1]; grind
      rw [e3] at this
      rw [this]; grind
    have e4 : p * q = 0 := by
      apply Classical.byContradiction
      intro hn
      have h1 := h.lo; have h2 := h.hi; have h3 := h'.lo; have h4 := h'.hi; have h5 := h'.pos
      rcases Int.lt_or_le (p * q) 0 with hk | hk
      · have := Int.mul_le_mul_of_nonneg_left (show p * q ≤ -1 by omega) (show 0 ≤ 2 * a' by omega)
        omega
      · have := Int.mul_le_mul_of_nonneg_left (show 1 ≤ p * q by omega) (show 0 ≤ 2 * a' by omega)
        omega
    have hp : p ≠ 0 := by intro hp; rw [hp] at e1; simp at e1
    have hq : q = 0 := (Int.mul_eq_zero.1 e4).resolve_left hp
    have e5 : c = c' := by
      have := t.ec
      have hs2 : s * s = 1 := by
        have h1 : (p * s) * (p * s) = 1 := by rw [e1]; rfl
        have h2 := sq_nn s
        have h3 := sq_nn p
        have h4 : (p * p) * (s * s) = 1 := by rw [← h1]; grind
        have h5 : s * s ≠ 0 := by intro h; rw [h] at h4; simp at h4
        have h6 : p * p ≠ 0 := by intro h; rw [h] at h4; simp at h4
        have h7 := Int.mul_le_mul_of_nonneg_right (show 1 ≤ p * p by omega) h2
        omega
      rw [hq] at this
      have e6 : a' * 0 * 0 + b' * 0 * s + c' * s * s = c' * (s * s) := by grind
      rw [e6, hs2] at this; omega
    rw [e4] at e2
    exact ⟨haa, by omega, e5⟩
  · have k1 := h'.min p r hr
    rw [← t.ea] at k1
    have k2 := h.min s (-r) (by omega)
    rw [← t'.ea] at k2
    have e1 := h'.ac
    have e2 := h.ac
    have hc' : c' = a' := by omega
    have hc : c = a := by omega
    have b1 := h'.eq hc'.symm
    have b2 := h.eq hc.symm
    have hdisc : b * b - 4 * a * c = b' * b' - 4 * a' * c' := by
      have e : b * b - 4 * a * c = (b' * b' - 4 * a' * c') * ((p * s - q * r) * (p * s - q * r)) := by
        rw [t.ea, t.eb, t.ec]; grind
      rw [e, t.det]; omega
    rw [hc, hc', haa] at hdisc
    have e3 : (b - b') * (b + b') = 0 := by grind
    rcases Int.mul_eq_zero.1 e3 with e | e
    · exact ⟨haa, by omega, by omega⟩
    · exact ⟨haa, by omega, by omega⟩

theorem nrm_form {D a b c : Int} (h : D = b * b - 4 * a * c) (x y : Int) : nrm D (2 * a * x + b * y, y) = 4 * a * (a * x * x + b * x * y + c * y * y) := by
  unfold nrm
  subst h
  grind
def crs (x y : Z2) : Int := x.1 * y.2 - x.2 * y.1
theorem crs_mul (D : Int) (α x y : Z2) : crs (mulZ D α x) (mulZ D α y) = nrm D α * crs x y := by unfold crs mulZ nrm; grind
theorem sim_turn_back {D a b c a' b' c' : Int} (hD : D < 0) (h : D = b * b - 4 * a * c) (h' : D = b' * b' - 4 * a' * c') (ha : 0 < a) (ha' : 0 < a') (S : Sim D (Lf a b) (Lf a' b')) : ∃ p q r s, Turn a b c a' b' c' p q r s := by
  obtain ⟨α, β, hα, hβ, k1, k2⟩ := S
  obtain ⟨_, ⟨p, r, rfl⟩, f1⟩ := k1 (2 * a, 0) ⟨1, 0, by simp⟩
  obtain ⟨_, ⟨q, s, rfl⟩, f2⟩ := k1 (b, 1) ⟨0, 1, by simp⟩
  obtain ⟨_, ⟨p', r', rfl⟩, g1⟩ := k2 (2 * a', 0) ⟨1, 0, by simp⟩
  obtain ⟨_, ⟨q', s', rfl⟩, g2⟩ := k2 (b', 1) ⟨0, 1, by simp⟩
  have nα := nrm_pos hD hα
  have nβ := nrm_pos hD hβ
  have c1 := crs_mul D α (2 * a, 0) (b, 1)
  rw [f1, f2, crs_mul] at c1
  have c2 := crs_mul D β (2 * a', 0) (b', 1)
  rw [← g1, ← g2, crs_mul] at c2
  have d1 : crs (2 * a' * p + b' * r, r) (2 * a' * q + b' * s, s) = 2 * a' * (p * s - q * r) := by unfold crs; grind
  have d2 : crs (2 * a * p' + b * r', r') (2 * a * q' + b * s', s') = 2 * a * (p' * s' - q' * r') := by unfold crs; grind
  have d3 : crs (2 * a, 0) (b, 1) = 2 * a := by unfold crs; simp
  have d4 : crs (2 * a', 0) (b', 1) = 2 * a' := by unfold crs; simp
  rw [d1, d3] at c1
  rw [d2, d4] at c2
  obtain ⟨M, hM⟩ : ∃ M, p * s - q * r = M := ⟨_, rfl⟩
  obtain ⟨M', hM'⟩ : ∃ M, p' * s' - q' * r' = M := ⟨_, rfl⟩
  rw [hM] at c1
  rw [hM'] at c2
  obtain ⟨K, hK⟩ : ∃ K, nrm D α * a = K := ⟨_, rfl⟩
  obtain ⟨K', hK'⟩ : ∃ K, nrm D β * a' = K := ⟨_, rfl⟩
  have pK : 0 < K := by rw [← hK]; exact Int.mul_pos nα ha
  have pK' : 0 < K' := by rw [← hK']; exact Int.mul_pos nβ ha'
  have c3 : K' * M = K := by
    have e1 : nrm D β * (2 * a' * M) = 2 * (nrm D β * a' * M) := by grind
    have e2 : nrm D α * (2 * a) = 2 * (nrm D α * a) := by grind
    rw [e1, e2, hK, hK'] at c1; omega
  have c4 : K * M' = K' := by
    have e1 : nrm D α * (2 * a * M') = 2 * (nrm D α * a * M') := by grind
    have e2 : nrm D β * (2 * a') = 2 * (nrm D β * a') := by grind
    rw [e1, e2, hK, hK'] at c2; omega
  have pM : 0 < M := by
    apply Classical.byContradiction
    intro hn
    have := Int.mul_le_mul_of_nonneg_left (show M ≤ 0 by omega) (show 0 ≤ K' by omega)
    omega
  have pM' : 0 < M' := by
    apply Classical.byContradiction
    intro hn
    have := Int.mul_le_mul_of_nonneg_left (show M' ≤ 0 by omega) (show 0 ≤ K by omega)
    omega
  have hM1 : M = 1 := by
    apply Classical.byContradiction
    intro hn
    have e1 := Int.mul_le_mul_of_nonneg_left (show 2 ≤ M by omega) (show 0 ≤ K' by omega)
    have e2 := Int.mul_le_mul_of_nonneg_left (show 1 ≤ M' by omega) (show 0 ≤ K by omega)
    omega
  have hKK : K = K' := by rw [hM1] at c3; omega
  have key : ∀ x y : Int, a * x * x + b * x * y + c * y * y = a' * (p * x + q * y) * (p * x + q * y) + b' * (p * x + q * y) * (r * x + s * y) + c' * (r * x + s * y) * (r * x + s * y) := by
    intro x y
    have e : mulZ D α (2 * a * x + b * y, y) = mulZ D β (2 * a' * (p * x + q * y) + b' * (r * x + s * y), r * x + s * y) := by
      have h1 : (2 * a * x + b * y, y) = addZ (mulZ D (2 * a, 0) (x, 0)) (mulZ D (b, 1) (y, 0)) := by unfold addZ mulZ; ext <;> simp only [] <;> grind
      have h2 : (2 * a' * (p * x + q * y) + b' * (r * x + s * y), r * x + s * y) = addZ (mulZ D (2 * a' * p + b' * r, r) (x, 0)) (mulZ D (2 * a' * q + b' * s, s) (y, 0)) := by unfold addZ mulZ; ext <;> simp only [] <;> grind
      rw [h1, h2, mulZ_add, mulZ_add, ← mulZ_assoc, ← mulZ_assoc, ← mulZ_assoc, ← mulZ_assoc, f1, f2]
    have e2 := congrArg (nrm D) e
    rw [nrm_mul, nrm_mul, nrm_form h, nrm_form h'] at e2
    have e3 : nrm D α * (4 * a * (a * x * x + b * x * y + c * y * y)) = 4 * (K * (a * x * x + b * x * y + c * y * y)) := by rw [← hK]; grind
    have e4 : ∀ V : Int, nrm D β * (4 * a' * V) = 4 * (K * V) := fun V => by rw [hKK, ← hK']; grind
    rw [e3, e4] at e2
    exact Int.eq_of_mul_eq_mul_left (show K ≠ 0 by omega) (by omega)
  have key1 := key 1 0
  have key2 := key 0 1
  have key3 := key 1 1
  refine ⟨p, q, r, s, by rw [hM, hM1], ?_, ?_, ?_⟩
  · grind
  · grind
  · grind
/-- lattices that are multiples of one another: one reduced form -/
theorem sim_unique {D a b c a' b' c' : Int} (hD : D < 0) (h : D = b * b - 4 * a * c) (h' : D = b' * b' - 4 * a' * c') (r : RedF a b c) (r' : RedF a' b' c') (S : Sim D (Lf a b) (Lf a' b')) : a = a' ∧ b = b' ∧ c = c' := by
  obtain ⟨p, q, u, s, t⟩ := sim_turn_back hD h h' r.pos r'.pos S
  exact red_unique r r' t
end Go.Proofs.Ytkfjjljdhfjpbaa

namespace Go.Proofs.Ytkfjjljdhfjpbaa

theorem ibez (a b : Int) : ∃ x y : Int, x * a + y * b = (Int.gcd a b : Int) := by
  have nb : ∀ m n : Nat, ∃ x y : Int, x * m + y * n = Nat.gcd m n := by
    intro m n
    induction m, n using Nat.gcd.induction with
    | H0 n => exact ⟨0, 1, by simp⟩
    | H1 m n hm ih =>
      obtain ⟨x, y, h⟩ := ih
      refine ⟨y - x * ((n / m : Nat) : Int), x, ?_⟩
      rw [Nat.gcd_rec, ← h]
      have e : ((n % m : Nat) : Int) = (n : Int) - (m : Int) * ((n / m : Nat) : Int) := by
        rw [Int.natCast_emod, Int.natCast_ediv]; exact Int.emod_def ..
      rw [e]; grind
  obtain ⟨x, y, h⟩ := nb a.natAbs b.natAbs
  refine ⟨x * a.sign, y * b.sign, ?_⟩
  rw [Int.mul_assoc, Int.mul_assoc, Int.sign_mul_self, Int.sign_mul_self, h]
  rfl
theorem ibez3 {a b c : Int} (h : Int.gcd a (Int.gcd b c) = 1) : ∃ x y z : Int, x * a + y * b + z * c = 1 := by
  obtain ⟨x, y, e1⟩ := ibez b c
  obtain ⟨p, q, e2⟩ := ibez a (Int.gcd b c)
  rw [h, ← e1] at e2
  exact ⟨p, q * x, q * y, by grind⟩
theorem fac (d a b x y : Int) : x * (d * a) + y * (d * b) = d * (x * a + y * b) := by grind
theorem fac4 {d n s v1 v2 c1 c2 : Int} (h : (d * s + n) * (d * s + n) - 4 * (d * v2) * c2 = (d * s - n) * (d * s - n) - 4 * (d * v1) * c1) : 4 * (d * (n * s)) = 4 * (d * (v2 * c2 - v1 * c1)) := by grind
theorem cm1 {n x2 s y2 y1 v2 w1 v1 c2 c1 t0 : Int} (f1 : n * (x2 * s + y2 * (y1 * v2 + w1 * v1)) = n) (f2 : x2 * (n * s) = x2 * (v2 * c2 - v1 * c1)) : v1 * (-(x2 * c1) + n * y2 * w1 + v2 * t0) = n + v2 * (-(y1 * y2 * n) - x2 * c2 + v1 * t0) := by grind
theorem cm2 {n x2 s y2 y1 v2 w1 v1 c2 c1 t0 : Int} (f1 : c2 * (x2 * s + y2 * (y1 * v2 + w1 * v1)) = c2) (f2 : y1 * y2 * (n * s) = y1 * y2 * (v2 * c2 - v1 * c1)) : v1 * (y2 * c2 * w1 + y1 * y2 * c1 + t0 * s) = c2 + (-(y1 * y2 * n) - x2 * c2 + v1 * t0) * s := by grind
theorem comp_make {a1 b1 c1 a2 b2 c2 D s0 n d y1 w1 d1 x2 y2 v1 v2 r s dd t0 : Int} (hD1 : D = b1 * b1 - 4 * a1 * c1) (hD2 : D = b2 * b2 - 4 * a2 * c2) (hs : b1 + b2 = 2 * s0) (hn : n = b2 - s0) (e1 : a1 = d1 * v1) (e2 : a2 = d1 * v2) (hs' : s0 = d1 * s) (hd : d = d1 * dd) (bz1 : y1 * a2 + w1 * a1 = d) (bz2 : x2 * s0 + y2 * d = d1) (hd1 : d1 ≠ 0)
    (hr : r = -(y1 * y2 * n) - x2 * c2 + v1 * t0) : ∃ t u, Comp a1 b1 c1 a2 b2 c2 D d1 v1 v2 r s n t u w1 x2 y1 y2 dd := by
  have e9 : x2 * s + y2 * dd = 1 := by
    have : d1 * (x2 * s + y2 * dd) = d1 * 1 := by rw [hs', hd, fac] at bz2; rw [bz2]; omega
    exact Int.eq_of_mul_eq_mul_left hd1 this
  have e10 : y1 * v2 + w1 * v1 = dd := by
    have : d1 * (y1 * v2 + w1 * v1) = d1 * dd := by rw [e1, e2, hd, fac] at bz1; exact bz1
    exact Int.eq_of_mul_eq_mul_left hd1 this
  have e3 : b1 = d1 * s - n := by rw [← hs', hn]; omega
  have e4 : b2 = d1 * s + n := by rw [← hs', hn]; omega
  have hns : n * s = v2 * c2 - v1 * c1 := by
    have h1 : 4 * (d1 * (n * s)) = 4 * (d1 * (v2 * c2 - v1 * c1)) := by
      have h0 : b2 * b2 - 4 * a2 * c2 = b1 * b1 - 4 * a1 * c1 := by rw [← hD1, hD2]
      rw [e1, e2, e3, e4] at h0
      exact fac4 h0
    exact Int.eq_of_mul_eq_mul_left hd1 (by omega)
  refine ⟨-(x2 * c1) + n * y2 * w1 + v2 * t0, y2 * c2 * w1 + y1 * y2 * c1 + t0 * s, e1, e2, e3, e4, hD2, hD1, ?_, ?_, e9, e10⟩
  · have f1 : n * (x2 * s + y2 * (y1 * v2 + w1 * v1)) = n := by rw [e10, e9]; omega
    rw [hr]
    exact cm1 f1 (by rw [hns])
  · have f1 : c2 * (x2 * s + y2 * (y1 * v2 + w1 * v1)) = c2 := by rw [e10, e9]; omega
    rw [hr]
    exact cm2 f1 (by rw [hns])
/-- the third number of the composed form, and its discriminant -/
theorem comp_third {a1 b1 c1 a2 b2 c2 D d1 v1 v2 r s n t u z1 x2 y1 y2 dd : Int} (h : Comp a1 b1 c1 a2 b2 c2 D d1 v1 v2 r s n t u z1 x2 y1 y2 dd) :
    c2 * d1 + r * (b2 + v2 * r) = v1 * (d1 * u + r * t) ∧ (b2 + 2 * v2 * r) * (b2 + 2 * v2 * r) - 4 * (v1 * v2) * (d1 * u + r * t) = D := by
  obtain ⟨e1, e2, e3, e4, e5, _, e7, e8, _, _⟩ := h
  have f : c2 * d1 + r * (b2 + v2 * r) = v1 * (d1 * u + r * t) := by
    have f1 : v1 * (d1 * u + r * t) = d1 * (v1 * u) + r * (v1 * t) := by grind
    rw [f1, e7, e8, e4]; grind
  refine ⟨f, ?_⟩
  have f2 : 4 * (v1 * v2) * (d1 * u + r * t) = 4 * v2 * (v1 * (d1 * u + r * t)) := by grind
  rw [f2, ← f, e5, e2]; grind

theorem red_bounds {a b c D : Int} (h : RedF a b c) (hD : D = b * b - 4 * a * c) (hlow : -4000000000000 ≤ D) : a ≤ 1154701 ∧ a * c ≤ 1340000000000 ∧ -1154701 ≤ b ∧ b ≤ 1154701 ∧ c ≤ 1340000000000 ∧ 1 ≤ c ∧ D < 0 := by
  obtain ⟨h0, h1, h2, h3, _⟩ := h
  have e1 : b * b ≤ a * a := by
    rcases Int.lt_or_le b 0 with hb | hb
    · have := Int.mul_le_mul (show -b ≤ a by omega) (show -b ≤ a by omega) (by omega) (by omega)
      grind
    · exact Int.mul_le_mul h2 h2 hb (by omega)
  have e2 : a * a ≤ a * c := Int.mul_le_mul_of_nonneg_left h3 (by omega)
  have e3 : 4 * a * c = 4 * (a * c) := by grind
  rw [e3] at hD
  have e4 : a * a ≤ 1333333333334 := by omega
  have ha : a ≤ 1154701 := by
    rcases Int.lt_or_le 1154701 a with h | h
    · have := Int.mul_le_mul (show 1154701 ≤ a by omega) (show 1154701 ≤ a by omega) (by omega) (by omega)
      omega
    · exact h
  have e5 : a * c ≤ 1340000000000 := by
    have := sq_nn b
    omega
  have e6 : 1 * c ≤ a * c := Int.mul_le_mul_of_nonneg_right (by omega) (by omega)
  have e7 : 1 * 1 ≤ a * a := Int.mul_le_mul (by omega) (by omega) (by omega) (by omega)
  exact ⟨ha, e5, by omega, by omega, by omega, by omega, by omega⟩

/-- none is too long -/
theorem comp_bounds {b2 c2 D d1 v1 v2 r C a1 a2 : Int} (ha1 : a1 = d1 * v1) (ha2 : a2 = d1 * v2) (hd : 0 < d1) (hv1 : 0 < v1) (hv2 : 0 < v2) (k1 : a1 ≤ 1154701) (k2 : a2 ≤ 1154701) (k3 : a2 * c2 ≤ 1340000000000) (k4 : -1154701 ≤ b2 ∧ b2 ≤ 1154701) (k5 : 1 ≤ c2) (hr : 0 ≤ r ∧ r < v1) (hC : c2 * d1 + r * (b2 + v2 * r) = v1 * C) (hdisc : (b2 + 2 * v2 * r) * (b2 + 2 * v2 * r) - 4 * (v1 * v2) * C = D) (hD : D < 0) :
    (1 ≤ v1 ∧ v1 ≤ 1154701) ∧ (1 ≤ v2 ∧ v2 ≤ 1154701) ∧ (1 ≤ d1 ∧ d1 ≤ 1154701) ∧ (1 ≤ v1 * v2 ∧ v1 * v2 ≤ 1400000000000) ∧ (0 ≤ v2 * r ∧ v2 * r ≤ 1400000000000) ∧ (0 ≤ c2 * d1 ∧ c2 * d1 ≤ 1340000000000) ∧ (-1700000000000000000 ≤ r * (b2 + v2 * r) ∧ r * (b2 + v2 * r) ≤ 1700000000000000000) ∧ 1 ≤ C ∧ C ≤ 3000000000000 := by
  have q1 : 1 * v1 ≤ d1 * v1 := Int.mul_le_mul_of_nonneg_right (by omega) (by omega)
  have q2 : 1 * v2 ≤ d1 * v2 := Int.mul_le_mul_of_nonneg_right (by omega) (by omega)
  have q3 : d1 * 1 ≤ d1 * v1 := Int.mul_le_mul_of_nonneg_left (by omega) (by omega)
  have q4 : d1 * 1 ≤ d1 * v2 := Int.mul_le_mul_of_nonneg_left (by omega) (by omega)
  have q5 : v1 * v2 ≤ 1154701 * 1154701 := Int.mul_le_mul (by omega) (by omega) (by omega) (by omega)
  have q6 : 1 * 1 ≤ v1 * v2 := Int.mul_le_mul (by omega) (by omega) (by omega) (by omega)
  have q7 : v2 * r ≤ 1154701 * 1154701 := Int.mul_le_mul (by omega) (by omega) (by omega) (by omega)
  have q8 : 0 ≤ v2 * r := Int.mul_nonneg (by omega) (by omega)
  have q9 : c2 * d1 ≤ c2 * a2 := Int.mul_le_mul_of_nonneg_left (by omega) (by omega)
  have q10 : c2 * a2 = a2 * c2 := Int.mul_comm ..
  have q11 : 0 ≤ c2 * d1 := Int.mul_nonneg (by omega) (by omega)
  obtain ⟨X, hX⟩ : ∃ X, b2 + v2 * r = X := ⟨_, rfl⟩
  have hX1 : -1154701 ≤ X ∧ X ≤ 1400000000000 := by omega
  have q12 : r * X ≤ 1154701 * 1400000000000 := by
    rcases Int.lt_or_le X 0 with h | h
    · have := Int.mul_nonpos_of_nonneg_of_nonpos hr.1 (show X ≤ 0 by omega)
      omega
    · exact Int.mul_le_mul (by omega) hX1.2 h (by omega)
  have q13 : -(1154701 * 1154701) ≤ r * X := by
    have h1 : r * (-1154701) ≤ r * X := Int.mul_le_mul_of_nonneg_left hX1.1 hr.1
    have h2 : r * 1154701 ≤ 1154701 * 1154701 := Int.mul_le_mul_of_nonneg_right (by omega) (by omega)
    omega
  have hC1 : 1 ≤ C := by
    apply Classical.byContradiction
    intro h
    have h1 : 4 * (v1 * v2) * C ≤ 4 * (v1 * v2) * 0 := Int.mul_le_mul_of_nonneg_left (by omega) (by omega)
    have h2 := sq_nn (b2 + 2 * v2 * r)
    omega
  have hC2 : C ≤ 3000000000000 := by
    apply Classical.byContradiction
    intro h
    have h1 : v1 * 3000000000000 ≤ v1 * C := Int.mul_le_mul_of_nonneg_left (by omega) (by omega)
    rw [hX] at hC
    have h2 : r * X ≤ v1 * 1400000000000 := by
      rcases Int.lt_or_le X 0 with h | h
      · have := Int.mul_nonpos_of_nonneg_of_nonpos hr.1 (show X ≤ 0 by omega)
        omega
      · exact Int.mul_le_mul (by omega) hX1.2 h (by omega)
    have h3 : 1340000000000 * 1 ≤ 1340000000000 * v1 := Int.mul_le_mul_of_nonneg_left (by omega) (by omega)
    omega
  rw [hX]
  omega

/-- the first form of a discriminant: composing with it changes nothing -/
theorem first_sim {a b c D σ : Int} (hD : D = b * b - 4 * a * c) (hσ : ∃ k, b = σ + 2 * k) (c0 : Int) (hc : D = σ * σ - 4 * c0) : Sim D (Pr D (Lf a b) (Lf 1 σ)) (Lf a b) := by
  obtain ⟨k, hk⟩ := hσ
  refine ⟨(1, 0), (2, 0), by decide, by decide, ?_, ?_⟩
  · intro z hz
    induction hz with
    | @mul x y hx hy =>
      obtain ⟨x, x', rfl⟩ := hx
      obtain ⟨y, y', rfl⟩ := hy
      refine ⟨_, ⟨x * y + x * (-(k * y')) - c * (x' * y'), a * (x * y') + x' * y + (b - k) * (x' * y'), rfl⟩, ?_⟩
      unfold mulZ
      ext <;> simp only []
      · subst hk hD; grind
      · subst hk hD; grind
    | add _ _ i1 i2 =>
      obtain ⟨w1, ⟨p1, p2, rfl⟩, f1⟩ := i1
      obtain ⟨w2, ⟨q1, q2, rfl⟩, f2⟩ := i2
      refine ⟨_, ⟨p1 + q1, p2 + q2, rfl⟩, ?_⟩
      rw [mulZ_add, f1, f2]
      unfold mulZ addZ
      ext <;> simp only [] <;> grind
  · rintro w ⟨x, y, rfl⟩
    refine ⟨mulZ D (2 * a * x + b * y, y) (2, 0), .mul ⟨x, y, rfl⟩ ⟨1, 0, by simp⟩, ?_⟩
    unfold mulZ
    ext <;> simp only [] <;> grind
/-- a form and the one with -b: composed they are the first one -/
theorem back_sim {a b c D σ : Int} (hD : D = b * b - 4 * a * c) (ha : a ≠ 0) (hσ : ∃ k, b = σ + 2 * k) (hg : ∃ x y z : Int, x * a + y * b + z * c = 1) : Sim D (Pr D (Lf a b) (Lf a (-b))) (Lf 1 σ) := by
  obtain ⟨k, hk⟩ := hσ
  obtain ⟨X, Y, Z, hXYZ⟩ := hg
  have hb0 : (2 * a, 0) ≠ ((0, 0) : Z2) := by
    intro h
    injection h with h1 _
    omega
  refine ⟨(1, 0), (2 * a, 0), by decide, hb0, ?_, ?_⟩
  · intro z hz
    induction hz with
    | @mul x y hx hy =>
      obtain ⟨x, x', rfl⟩ := hx
      obtain ⟨y, y', rfl⟩ := hy
      refine ⟨_, ⟨a * (x * y) - (b - k) * (x * y') + k * (x' * y) - c * (x' * y'), x * y' + x' * y, rfl⟩, ?_⟩
      unfold mulZ
      ext <;> simp only []
      · subst hk hD; grind
      · grind
    | add _ _ i1 i2 =>
      obtain ⟨w1, ⟨p1, p2, rfl⟩, f1⟩ := i1
      obtain ⟨w2, ⟨q1, q2, rfl⟩, f2⟩ := i2
      refine ⟨_, ⟨p1 + q1, p2 + q2, rfl⟩, ?_⟩
      rw [mulZ_add, f1, f2]
      unfold mulZ addZ
      ext <;> simp only [] <;> grind
  · rintro w ⟨x, y, rfl⟩
    have g1 : ∀ m : Int, Pr D (Lf a b) (Lf a (-b)) (mulZ D (2 * a * m, 0) (2 * a, 0)) := fun m => .mul ⟨m, 0, by simp⟩ ⟨1, 0, by simp⟩
    have g2 : ∀ m : Int, Pr D (Lf a b) (Lf a (-b)) (mulZ D (2 * a * m, 0) (-b, 1)) := fun m => .mul ⟨m, 0, by simp⟩ ⟨0, 1, by simp⟩
    have g3 : ∀ m : Int, Pr D (Lf a b) (Lf a (-b)) (mulZ D (b, 1) (2 * a * m, 0)) := fun m => .mul ⟨0, 1, by simp⟩ ⟨m, 0, by simp⟩
    have g4 : ∀ m : Int, Pr D (Lf a b) (Lf a (-b)) (mulZ D (m * b, m) (-b, 1)) := fun m => .mul ⟨0, m, by ext <;> simp only [] <;> grind⟩ ⟨0, 1, by simp⟩
    obtain ⟨m, hm⟩ : ∃ m, x - k * y = m := ⟨_, rfl⟩
    refine ⟨_, .add (.add (g1 (m * X)) (g2 (-(m * Y)))) (.add (g3 (m * Y + y)) (g4 (-(m * Z)))), ?_⟩
    clear g1 g2 g3 g4 hb0
    have hx : x = m + k * y := by omega
    unfold mulZ addZ
    ext
    · simp only []
      have e : 4 * a * m * (X * a + Y * b + Z * c) = 4 * a * m := by rw [hXYZ]; omega
      clear hm hXYZ
      subst hx hD hk
      grind
    · simp only []
      grind
end Go.Proofs.Ytkfjjljdhfjpbaa
namespace Go.Proofs.Ytkfjjljdhfjpbaa
/-- what the walk of compose asks of two reduced forms -/
structure CompAll (a1 b1 c1 a2 b2 c2 D : Int) : Prop where
  sm : (1 ≤ a1 ∧ a1 ≤ 1154701) ∧ (1 ≤ a2 ∧ a2 ≤ 1154701) ∧ (-1154701 ≤ b1 ∧ b1 ≤ 1154701) ∧ (-1154701 ≤ b2 ∧ b2 ≤ 1154701) ∧ (1 ≤ c2 ∧ c2 ≤ 1340000000000) ∧ D < 0
  half : ∃ s0 n : Int, b1 + b2 = 2 * s0 ∧ b2 = s0 + n ∧ (-1154701 ≤ s0 ∧ s0 ≤ 1154701)
  /-- the numbers that the two greatest divisors bring -/
  nums : ∀ s0 n d y1 w1 d1 x2 y2 : Int, b1 + b2 = 2 * s0 → b2 = s0 + n → d = Int.gcd a2 a1 → y1 * a2 + w1 * a1 = d → d1 = Int.gcd s0 d → x2 * s0 + y2 * d = d1 →
    ∃ v1 v2 : Int, a1 = d1 * v1 ∧ a2 = d1 * v2 ∧ 0 < d1 ∧ 0 < v1 ∧ 0 < v2 ∧ v1 ≤ 1154701 ∧ ∀ r t0 : Int, r = -(y1 * y2 * n) - x2 * c2 + v1 * t0 → 0 ≤ r → r < v1 →
      ∃ C : Int, c2 * d1 + r * (b2 + v2 * r) = v1 * C ∧ (b2 + 2 * v2 * r) * (b2 + 2 * v2 * r) - 4 * (v1 * v2) * C = D ∧ Sim D (Pr D (Lf a1 b1) (Lf a2 b2)) (Lf (v1 * v2) (b2 + 2 * v2 * r)) ∧
        ((1 ≤ v1 ∧ v1 ≤ 1154701) ∧ (1 ≤ v2 ∧ v2 ≤ 1154701) ∧ (1 ≤ d1 ∧ d1 ≤ 1154701) ∧ (1 ≤ v1 * v2 ∧ v1 * v2 ≤ 1400000000000) ∧ (0 ≤ v2 * r ∧ v2 * r ≤ 1400000000000) ∧ (0 ≤ c2 * d1 ∧ c2 * d1 ≤ 1340000000000) ∧ (-1700000000000000000 ≤ r * (b2 + v2 * r) ∧ r * (b2 + v2 * r) ≤ 1700000000000000000) ∧ 1 ≤ C ∧ C ≤ 3000000000000)
theorem par_half {b1 b2 x y D : Int} (h1 : D = b1 * b1 - 4 * x) (h2 : D = b2 * b2 - 4 * y) : ∃ s0 : Int, b1 + b2 = 2 * s0 := by
  have e : (b1 + b2) * (b2 - b1) = 4 * (y - x) := by grind
  rcases (show (b1 + b2) % 2 = 0 ∨ (b1 + b2) % 2 = 1 by omega) with h | h
  · exact ⟨(b1 + b2) / 2, by omega⟩
  · exfalso
    obtain ⟨k, hk⟩ : ∃ k, b1 + b2 = 2 * k + 1 := ⟨(b1 + b2) / 2, by omega⟩
    obtain ⟨l, hl⟩ : ∃ l, b2 - b1 = 2 * l + 1 := ⟨(b2 - b1) / 2, by omega⟩
    rw [hk, hl] at e
    have e2 : (2 * k + 1) * (2 * l + 1) = 4 * (k * l) + 2 * k + 2 * l + 1 := by grind
    omega
theorem comp_all {a1 b1 c1 a2 b2 c2 D : Int} (r1 : RedF a1 b1 c1) (r2 : RedF a2 b2 c2) (hD1 : D = b1 * b1 - 4 * a1 * c1) (hD2 : D = b2 * b2 - 4 * a2 * c2) (hlow : -4000000000000 ≤ D) (g1 : Int.gcd a1 (Int.gcd b1 c1) = 1) : CompAll a1 b1 c1 a2 b2 c2 D := by
  have k1 := red_bounds r1 hD1 hlow
  have k2 := red_bounds r2 hD2 hlow
  have p1 := r1.pos
  have p2 := r2.pos
  refine ⟨by omega, ?_, ?_⟩
  · obtain ⟨s0, hs⟩ := par_half (D := D) (b1 := b1) (b2 := b2) (x := a1 * c1) (y := a2 * c2) (by rw [← Int.mul_assoc]; exact hD1) (by rw [← Int.mul_assoc]; exact hD2)
    exact ⟨s0, b2 - s0, hs, by omega, by omega⟩
  · intro s0 n d y1 w1 d1 x2 y2 hs hn hd e1 hd1 e2
    have hdp : 0 < d := by
      rw [hd]
      have := Int.gcd_pos_of_ne_zero_left a1 (show a2 ≠ 0 by omega)
      omega
    have hd1p : 0 < d1 := by
      rw [hd1]
      have := Int.gcd_pos_of_ne_zero_right s0 (show d ≠ 0 by omega)
      omega
    obtain ⟨s, hs'⟩ : d1 ∣ s0 := by rw [hd1]; exact Int.gcd_dvd_left ..
    obtain ⟨dd, hdd⟩ : d1 ∣ d := by rw [hd1]; exact Int.gcd_dvd_right ..
    obtain ⟨v1, hv1⟩ : d1 ∣ a1 := Int.dvd_trans ⟨dd, hdd⟩ (by rw [hd]; exact Int.gcd_dvd_right ..)
    obtain ⟨v2, hv2⟩ : d1 ∣ a2 := Int.dvd_trans ⟨dd, hdd⟩ (by rw [hd]; exact Int.gcd_dvd_left ..)
    have hv1p : 0 < v1 := by
      apply Classical.byContradiction
      intro h
      have := Int.mul_le_mul_of_nonneg_left (show v1 ≤ 0 by omega) (show 0 ≤ d1 by omega)
      omega
    have hv2p : 0 < v2 := by
      apply Classical.byContradiction
      intro h
      have := Int.mul_le_mul_of_nonneg_left (show v2 ≤ 0 by omega) (show 0 ≤ d1 by omega)
      omega
    have hv1b : 1 * v1 ≤ d1 * v1 := Int.mul_le_mul_of_nonneg_right (by omega) (by omega)
    refine ⟨v1, v2, hv1, hv2, hd1p, hv1p, hv2p, by omega, fun r t0 hr hr0 hr1 => ?_⟩
    obtain ⟨t, u, hc⟩ := comp_make (s0 := s0) (n := n) hD1 hD2 hs (by omega) hv1 hv2 hs' hdd e1 e2 (by omega) hr
    obtain ⟨f1, f2⟩ := comp_third hc
    obtain ⟨X, Y, Z, hX⟩ := ibez3 g1
    have hk : (X * v1 + Y * s) * d1 + (-Y) * n + Z * c1 + 0 * c2 = 1 := by
      rw [← hX, hv1, hc.e3]; grind
    have hsim := comp_sim hc (by omega) (by omega) hk
    exact ⟨d1 * u + r * t, f1, f2, hsim, comp_bounds hv1 hv2 hd1p hv1p hv2p k1.1 k2.1 k2.2.1 ⟨k2.2.2.1, k2.2.2.2.1⟩ k2.2.2.2.2.2.1 ⟨hr0, hr1⟩ f1 f2 k2.2.2.2.2.2.2⟩
end Go.Proofs.Ytkfjjljdhfjpbaa
namespace Go.Proofs.Ytkfjjljdhfjpbaa
theorem comp_r {y1 y2 v1 N x2 c2 m1 m2 m3 r : Int} (h1 : y1 * y2 % v1 = m1) (h2 : m1 * N % v1 = m2) (h3 : x2 * c2 % v1 = m3) (h4 : (-m2 - m3) % v1 = r) : ∃ t0, r = -(y1 * y2 * N) - x2 * c2 + v1 * t0 := by
  have e1 := Int.mul_ediv_add_emod (y1 * y2) v1
  have e2 := Int.mul_ediv_add_emod (m1 * N) v1
  have e3 := Int.mul_ediv_add_emod (x2 * c2) v1
  have e4 := Int.mul_ediv_add_emod (-m2 - m3) v1
  rw [h1] at e1
  rw [h2] at e2
  rw [h3] at e3
  rw [h4] at e4
  generalize y1 * y2 / v1 = q1 at e1
  generalize m1 * N / v1 = q2 at e2
  generalize x2 * c2 / v1 = q3 at e3
  generalize (-m2 - m3) / v1 = q4 at e4
  refine ⟨q1 * N + q2 + q3 - q4, ?_⟩
  have f1 : y1 * y2 * N = v1 * q1 * N + m1 * N := by rw [← e1]; grind
  rw [f1, ← e2, ← e3]
  have f2 : r = -m2 - m3 - v1 * q4 := by omega
  rw [f2]
  grind
end Go.Proofs.Ytkfjjljdhfjpbaa
namespace Go.Proofs.Ytkfjjljdhfjpbaa
/-! the composed form has no divisor -/
/-- the number (B + sqrt D) / T carries a lattice into itself -/
def Mult (D B T : Int) (L : Z2 → Prop) : Prop := ∀ z, L z → ∃ z', L z' ∧ mulZ D (B, 1) z = mulZ D (T, 0) z'
theorem mulZ_cancel {D : Int} (hD : D < 0) {β x y : Z2} (hβ : β ≠ (0, 0)) (h : mulZ D β x = mulZ D β y) : x = y := by
  have e : mulZ D β (x.1 - y.1, x.2 - y.2) = (0, 0) := by
    have h1 := congrArg Prod.fst h
    have h2 := congrArg Prod.snd h
    unfold mulZ at h1 h2 ⊢
    simp only at h1 h2
    ext <;> simp only [] <;> grind
  have h0 : (x.1 - y.1, x.2 - y.2) = ((0, 0) : Z2) := by
    apply Classical.byContradiction
    intro hn
    exact mulZ_ne hD hβ hn e
  injection h0 with h1 h2
  exact Prod.ext (by omega) (by omega)
theorem Mult.sim {D B T : Int} (hD : D < 0) {L M : Z2 → Prop} (S : Sim D L M) (h : Mult D B T L) : Mult D B T M := by
  obtain ⟨α, β, _, hβ, k1, k2⟩ := S
  intro w hw
  obtain ⟨z, hz, e⟩ := k2 w hw
  obtain ⟨z', hz', f⟩ := h z hz
  obtain ⟨w', hw', e'⟩ := k1 z' hz'
  refine ⟨w', hw', mulZ_cancel hD hβ ?_⟩
  rw [← mulZ_assoc, mulZ_comm D β (B, 1), mulZ_assoc, ← e, ← mulZ_assoc, mulZ_comm D (B, 1) α, mulZ_assoc, f, ← mulZ_assoc, mulZ_comm D α (T, 0), mulZ_assoc, e', ← mulZ_assoc, mulZ_comm D (T, 0) β, mulZ_assoc]
theorem Mult.prod {D B T : Int} {L : Z2 → Prop} (N : Z2 → Prop) (h : Mult D B T L) : Mult D B T (Pr D L N) := by
  intro z hz
  induction hz with
  | @mul x y hx hy =>
    obtain ⟨x', hx', e⟩ := h x hx
    exact ⟨mulZ D x' y, .mul hx' hy, by rw [← mulZ_assoc, e, mulZ_assoc]⟩
  | add _ _ i1 i2 =>
    obtain ⟨w1, h1, f1⟩ := i1
    obtain ⟨w2, h2, f2⟩ := i2
    exact ⟨addZ w1 w2, .add h1 h2, by rw [mulZ_add, mulZ_add, f1, f2]⟩
theorem mult_form {A B C D t : Int} (hD : D = B * B - 4 * A * C) (h1 : t ∣ A) (h2 : t ∣ B) (h3 : t ∣ C) : Mult D B (2 * t) (Lf A B) := by
  obtain ⟨a, ha⟩ := h1
  obtain ⟨b, hb⟩ := h2
  obtain ⟨c, hc⟩ := h3
  rintro z ⟨x, y, rfl⟩
  refine ⟨_, ⟨-(c * y), a * x + b * y, rfl⟩, ?_⟩
  unfold mulZ
  ext <;> simp only []
  · rw [hD, ha, hb, hc]; grind
  · rw [ha, hb]; grind
theorem sigma_of {a b c D : Int} (hD : D = b * b - 4 * a * c) : ∃ σ c0 : Int, (∃ k, b = σ + 2 * k) ∧ D = σ * σ - 4 * c0 := by
  rcases (show b % 2 = 0 ∨ b % 2 = 1 by omega) with h | h
  · obtain ⟨k, hk⟩ : ∃ k, b = 2 * k := ⟨b / 2, by omega⟩
    exact ⟨0, a * c - k * k, ⟨k, by omega⟩, by rw [hD, hk]; grind⟩
  · obtain ⟨k, hk⟩ : ∃ k, b = 1 + 2 * k := ⟨b / 2, by omega⟩
    exact ⟨1, a * c - k * k - k, ⟨k, by omega⟩, by rw [hD, hk]; grind⟩
theorem prim_comp {a1 b1 c1 a2 b2 c2 A B C D : Int} (hD : D < 0) (hD1 : D = b1 * b1 - 4 * a1 * c1) (hD2 : D = b2 * b2 - 4 * a2 * c2) (hD3 : D = B * B - 4 * A * C) (ha1 : a1 ≠ 0) (ha2 : a2 ≠ 0) (g1 : Int.gcd a1 (Int.gcd b1 c1) = 1) (g2 : Int.gcd a2 (Int.gcd b2 c2) = 1) (S : Sim D (Pr D (Lf a1 b1) (Lf a2 b2)) (Lf A B)) : Int.gcd A (Int.gcd B C) = 1 := by
  obtain ⟨σ, c0, ⟨k1, hk1⟩, hσ⟩ := sigma_of hD1
  have hk2 : ∃ k, b2 = σ + 2 * k := by
    obtain ⟨s0, hs⟩ := par_half (D := D) (b1 := b1) (b2 := b2) (x := a1 * c1) (y := a2 * c2) (by rw [← Int.mul_assoc]; exact hD1) (by rw [← Int.mul_assoc]; exact hD2)
    exact ⟨s0 - σ - k1, by omega⟩
  obtain ⟨t, ht⟩ : ∃ t : Nat, Int.gcd A (Int.gcd B C) = t := ⟨_, rfl⟩
  have tA : (t : Int) ∣ A := by rw [← ht]; exact Int.gcd_dvd_left ..
  have tBC : (t : Int) ∣ (Int.gcd B C : Int) := by rw [← ht]; exact Int.gcd_dvd_right ..
  have tB : (t : Int) ∣ B := Int.dvd_trans tBC (Int.gcd_dvd_left ..)
  have tC : (t : Int) ∣ C := Int.dvd_trans tBC (Int.gcd_dvd_right ..)
  have m1 := (mult_form hD3 tA tB tC).sim hD S.symm
  have m2 := m1.prod (Pr D (Lf a1 (-b1)) (Lf a2 (-b2)))
  -- ((f g) (f' g')) is (f f') (g g'): the first one
  have s1 : Sim D (Pr D (Pr D (Lf a1 b1) (Lf a2 b2)) (Pr D (Lf a1 (-b1)) (Lf a2 (-b2)))) (Pr D (Pr D (Lf a1 b1) (Lf a1 (-b1))) (Pr D (Lf a2 b2) (Lf a2 (-b2)))) := by
    refine (Sim.assoc D _ _ _).trans hD (Sim.trans hD ?_ (Sim.assoc D _ _ _).symm)
    refine Sim.prod2 hD (Sim.refl D _) ?_
    refine (Sim.assoc D _ _ _).symm.trans hD (Sim.trans hD ?_ (Sim.assoc D _ _ _))
    exact (Sim.comm D _ _).prod _
  have s2 := Sim.prod2 hD (back_sim (σ := σ) hD1 ha1 ⟨k1, hk1⟩ (ibez3 g1)) (back_sim (σ := σ) hD2 ha2 hk2 (ibez3 g2))
  have s3 := first_sim (a := 1) (b := σ) (c := c0) (D := D) (σ := σ) (by rw [hσ]; omega) ⟨0, by omega⟩ c0 hσ
  have m3 := m2.sim hD ((s1.trans hD s2).trans hD s3)
  obtain ⟨_, ⟨x, y, rfl⟩, e⟩ := m3 (2, 0) ⟨1, 0, by simp⟩
  have e2 := congrArg Prod.snd e
  unfold mulZ at e2
  simp only at e2
  have e3 : (t : Int) * y = 1 := by
    have : 2 * ((t : Int) * y) = 2 := by grind
    omega
  have h1 : (t : Int) ∣ 1 := ⟨y, e3.symm⟩
  rw [ht]
  have := Int.le_of_dvd (by omega) h1
  have : t ≠ 0 := by rintro rfl; simp at e3
  omega
end Go.Proofs.Ytkfjjljdhfjpbaa

namespace Go.Proofs.Ytkfjjljdhfjpbaa
namespace GN

def val (a b c x y : Int) : Int := a * x * x + b * x * y + c * y * y
/-- two values of one form: their product is a value of the first form -/
theorem val_mul (a c s t x y z w : Int) : val a (2 * t + s) c x y * val a (2 * t + s) c z w = val 1 s (a * c - t * t - t * s) (a * x * z + c * y * w + (t + s) * x * w + t * y * z) (y * z - x * w) := by unfold val; grind
/-- a value of the first form times a value is a value -/
theorem val_act (a c s t X Y x y : Int) : val 1 s (a * c - t * t - t * s) X Y * val a (2 * t + s) c x y = val a (2 * t + s) c (x * (X - t * Y) - c * y * Y) (y * (X - t * Y) + a * x * Y + (2 * t + s) * y * Y) := by unfold val; grind
theorem val_sq (a b c k x y : Int) : val a b c (k * x) (k * y) = k * k * val a b c x y := by unfold val; grind

/-- n is left by d by a value -/
def Vm (d : Nat) (a b c n : Int) : Prop := ∃ x y : Int, val a b c x y % d = n % d
theorem Vm.congr {d : Nat} {a b c n m : Int} (h : Vm d a b c n) (e : n % d = m % d) : Vm d a b c m := by
  obtain ⟨x, y, k⟩ := h
  exact ⟨x, y, k.trans e⟩
theorem emul {d : Nat} {u v u' v' : Int} (h : u % d = u' % d) (k : v % d = v' % d) : u * v % d = u' * v' % d := by rw [Int.mul_emod, h, k, ← Int.mul_emod]

/-- the first form of a discriminant: s = 0 or 1, c0 = (s - D) / 4 -/
structure Fst (D s c0 : Int) : Prop where
  s01 : s = 0 ∨ s = 1
  c4 : 4 * c0 = s - D
theorem Fst.shape {D s c0 a b c : Int} (h : Fst D s c0) (hD : D = b * b - 4 * a * c) : ∃ t, b = 2 * t + s ∧ c0 = a * c - t * t - t * s := by
  have h4 := h.c4
  have hb : b % 2 = s % 2 := by
    have e : (b * b) % 4 = s % 4 := by
      have : b * b = s + 4 * (a * c - c0) := by rw [hD] at h4; grind
      omega
    rcases h.s01 with hs | hs
    · rcases (by omega : b % 2 = 0 ∨ b % 2 = 1) with k | k
      · omega
      · obtain ⟨q, rfl⟩ : ∃ q, b = 2 * q + 1 := ⟨b / 2, by omega⟩
        have : (2 * q + 1) * (2 * q + 1) = 4 * (q * q + q) + 1 := by grind
        omega
    · rcases (by omega : b % 2 = 0 ∨ b % 2 = 1) with k | k
      · obtain ⟨q, rfl⟩ : ∃ q, b = 2 * q := ⟨b / 2, by omega⟩
        have : 2 * q * (2 * q) = 4 * (q * q) := by grind
        omega
      · omega
  refine ⟨(b - s) / 2, by omega, ?_⟩
  obtain ⟨t, ht⟩ : ∃ t, (b - s) / 2 = t := ⟨_, rfl⟩
  rw [ht]
  have hbt : b = 2 * t + s := by omega
  have hss : s * s = s := by rcases h.s01 with k | k <;> rw [k] <;> rfl
  have : 4 * c0 = 4 * (a * c - t * t - t * s) := by rw [h4, hD, hbt]; grind
  omega
theorem Vm.mul {d : Nat} {D s c0 a b c n m : Int} (hF : Fst D s c0) (hD : D = b * b - 4 * a * c) (h : Vm d a b c n) (k : Vm d a b c m) : Vm d 1 s c0 (n * m) := by
  obtain ⟨t, rfl, rfl⟩ := hF.shape hD
  obtain ⟨x, y, hn⟩ := h
  obtain ⟨z, w, hm⟩ := k
  exact ⟨_, _, by rw [← val_mul]; exact emul hn hm⟩
theorem Vm.act {d : Nat} {D s c0 a b c n m : Int} (hF : Fst D s c0) (hD : D = b * b - 4 * a * c) (h : Vm d 1 s c0 n) (k : Vm d a b c m) : Vm d a b c (n * m) := by
  obtain ⟨t, rfl, rfl⟩ := hF.shape hD
  obtain ⟨x, y, hn⟩ := h
  obtain ⟨z, w, hm⟩ := k
  exact ⟨_, _, by rw [← val_act]; exact emul hn hm⟩
theorem Fst.own {D s c0 : Int} (h : Fst D s c0) : D = s * s - 4 * 1 * c0 := by
  have := h.c4
  have hss : s * s = s := by rcases h.s01 with k | k <;> rw [k] <;> rfl
  omega
theorem Vm.sq {d : Nat} {a b c n : Int} (h : Vm d a b c n) (k : Int) : Vm d a b c (k * k * n) := by
  obtain ⟨x, y, hn⟩ := h
  exact ⟨k * x, k * y, by rw [val_sq]; exact emul rfl hn⟩
theorem unit_inv {d : Nat} {n : Int} (h : Int.gcd n d = 1) : ∃ k, n * k % d = 1 % d := by
  obtain ⟨x, y, e⟩ := ibez n d
  rw [h] at e
  refine ⟨x, ?_⟩
  have : n * x = 1 + d * (-y) := by
    rw [Int.mul_comm n x, Int.mul_neg, Int.mul_comm (d : Int) y]
    omega
  rw [this, Int.add_mul_emod_self_left]
/-- ONE COMMON VALUE MAKES ALL COMMON -/
theorem coset {d : Nat} {D s c0 a b c n : Int} (hF : Fst D s c0) (hD : D = b * b - 4 * a * c) (hn : Int.gcd n d = 1) (h1 : Vm d a b c n) (h2 : Vm d 1 s c0 n) (m : Int) : Vm d a b c m ↔ Vm d 1 s c0 m := by
  obtain ⟨k, hk⟩ := unit_inv hn
  have hinv : Vm d 1 s c0 k := (h2.sq k).congr (by
    rw [show k * k * n = n * k * k by grind]
    have := emul hk (rfl : k % d = k % d)
    rwa [Int.one_mul] at this)
  have fin : ∀ u : Int, k * (n * u) % d = u % d := fun u => by
    rw [show k * (n * u) = n * k * u by grind]
    have := emul hk (rfl : u % d = u % d)
    rwa [Int.one_mul] at this
  constructor
  · intro h
    exact (Vm.act hF hF.own hinv (Vm.mul hF hD h1 h)).congr (fin m)
  · intro h
    have h3 : Vm d a b c ((k * m) * n) := Vm.act hF hD (Vm.act hF hF.own hinv h) h1
    exact h3.congr (by rw [show k * m * n = k * (n * m) by grind]; exact fin m)
end GN
end Go.Proofs.Ytkfjjljdhfjpbaa

namespace Go.Proofs.Ytkfjjljdhfjpbaa

/-- what holds at the head of a round of ReducedOf: a form of the discriminant D whose lattice is a multiple of that of (a, b) -/
structure OInv (D a b c A B C : Int) : Prop where
  a1 : 1 ≤ A
  c1 : 1 ≤ C
  b1 : -2000000000 ≤ B
  b2 : B ≤ 2000000000
  d : D = B * B - 4 * A * C
  sim : Sim D (Lf a b) (Lf A B)
  g : ∀ t : Int, (t ∣ A ∧ t ∣ B ∧ t ∣ C) ↔ (t ∣ a ∧ t ∣ b ∧ t ∣ c)

theorem OInv.start {D a b c : Int} (h1 : 1 ≤ a) (h2 : 1 ≤ c) (h3 : -2000000000 ≤ b) (h4 : b ≤ 2000000000) (hD : D = b * b - 4 * a * c) : OInv D a b c a b c := ⟨h1, h2, h3, h4, hD, Sim.refl _ _, fun _ => Iff.rfl⟩
theorem sq_up {x N : Int} (h1 : -N ≤ x) (h2 : x ≤ N) : x * x ≤ N * N := by
  rcases Int.lt_or_le x 0 with h | h
  · have := Int.mul_le_mul (show -x ≤ N by omega) (show -x ≤ N by omega) (by omega) (by omega)
    grind
  · exact Int.mul_le_mul h2 h2 h (by omega)

theorem OInv.big {D a b c A B C : Int} (h : OInv D a b c A B C) (hlow : -5000000000000 ≤ D) : A ≤ 1100000000000000000 ∧ C ≤ 1100000000000000000 := by
  obtain ⟨a1, c1, b1, b2, d, _, _⟩ := h
  have e1 := sq_up (x := B) (N := 2000000000) (by omega) b2
  have e2 : A * 1 ≤ A * C := Int.mul_le_mul_of_nonneg_left c1 (by omega)
  have e3 : 1 * C ≤ A * C := Int.mul_le_mul_of_nonneg_right a1 (by omega)
  rw [Int.mul_assoc 4 A C] at d
  omega

theorem OInv.swap {D a b c A B C : Int} (h : OInv D a b c A B C) (hD : D < 0) : OInv D a b c C (-B) A := by
  obtain ⟨a1, c1, b1, b2, d, s, g⟩ := h
  refine ⟨c1, a1, by omega, by omega, by rw [d]; grind, s.trans hD ?_, fun t => ?_⟩
  rotate_left
  · rw [← g, Int.dvd_neg]
    exact ⟨fun ⟨h1, h2, h3⟩ => ⟨h3, h2, h1⟩, fun ⟨h1, h2, h3⟩ => ⟨h3, h2, h1⟩⟩
  have := sim_turn (a := A) (b := B) (c := C) (A := C) (B := -B) (p := 0) (q := -1) (r := 1) (s := 0) (by omega) (by grind) (by grind) (by omega) (by omega)
  rwa [← d] at this

theorem dvd_lin2 {t x y z : Int} (k l : Int) (h1 : t ∣ x) (h2 : t ∣ y) (h : z = x * k + y * l) : t ∣ z := by
  rw [h]; exact Int.dvd_add (Int.dvd_mul_of_dvd_left h1) (Int.dvd_mul_of_dvd_left h2)
theorem OInv.step {D a b c A B C k : Int} (h : OInv D a b c A B C) (hD : D < 0) (h1 : -2000000000 ≤ B + 2 * k * A) (h2 : B + 2 * k * A ≤ 2000000000) : OInv D a b c A (B + 2 * k * A) (C + k * B + k * k * A) := by
  obtain ⟨a1, c1, b1, b2, d, s, g⟩ := h
  have dd : D = (B + 2 * k * A) * (B + 2 * k * A) - 4 * A * (C + k * B + k * k * A) := by rw [d]; grind
  refine ⟨a1, ?_, h1, h2, dd, s.trans hD ?_, fun t => ?_⟩
  · rcases Int.lt_or_le (C + k * B + k * k * A) 1 with h | h
    · have h1 : 4 * A * (C + k * B + k * k * A) ≤ 4 * A * 0 := Int.mul_le_mul_of_nonneg_left (by omega) (by omega)
      have := sq_nn (B + 2 * k * A)
      omega
    · exact h
  · have := sim_turn (a := A) (b := B) (c := C) (A := A) (B := B + 2 * k * A) (p := 1) (q := k) (r := 0) (s := 1) (by omega) (by grind) (by grind) (by omega) (by omega)
    rwa [← d] at this
  · rw [← g]
    constructor
    · rintro ⟨h1, h2, h3⟩
      have h4 : t ∣ B := dvd_lin2 (-2 * k) 1 h1 h2 (by grind)
      refine ⟨h1, h4, dvd_lin2 (-k) 1 (dvd_lin2 k 1 h1 h4 (by grind) : t ∣ B + k * A) h3 (by grind)⟩
    · rintro ⟨h1, h2, h3⟩
      refine ⟨h1, dvd_lin2 (2 * k) 1 h1 h2 (by grind), dvd_lin2 k 1 (dvd_lin2 k 1 h1 h2 (by grind) : t ∣ B + k * A) h3 (by grind)⟩

/-- the k of a round of ReducedOf -/
def ofk (A B : Int) : Int := if B.natAbs < 2 * A.natAbs then (if A < B then -1 else 1) else (-B).tdiv (2 * A)
theorem ofk_small {A B : Int} (hA : 1 ≤ A) (h : A < B ∨ B ≤ -A) :
    (B + 2 * ofk A B * A).natAbs ≤ B.natAbs ∧ ((B + 2 * ofk A B * A).natAbs = B.natAbs → B < 0 ∧ 0 ≤ B + 2 * ofk A B * A) ∧ -1000000000 - B.natAbs ≤ ofk A B * 1 ∧ (ofk A B).natAbs * 2 ≤ B.natAbs + 2 := by
  unfold ofk
  split
  · rename_i h1
    split
    · refine ⟨?_, ?_, ?_, ?_⟩ <;> omega
    · refine ⟨?_, ?_, ?_, ?_⟩ <;> omega
  · rename_i h1
    have e := Int.mul_tdiv_add_tmod (-B) (2 * A)
    have e2 : 2 * ((-B).tdiv (2 * A)) * A = 2 * A * (-B).tdiv (2 * A) := by grind
    have e3 : ((-B).tmod (2 * A)).natAbs < 2 * A.natAbs := by
      rw [Int.natAbs_tmod]
      have := Nat.mod_lt (-B).natAbs (show 0 < (2 * A).natAbs by omega)
      omega
    have e4 : ((-B).tdiv (2 * A)).natAbs * 2 ≤ B.natAbs := by
      rw [Int.natAbs_tdiv]
      have h2 := Nat.div_mul_le_self (-B).natAbs (2 * A).natAbs
      have h3 : (-B).natAbs.div (2 * A).natAbs = (-B).natAbs / (2 * A).natAbs := rfl
      rw [h3]
      have h4 := Nat.mul_le_mul_left ((-B).natAbs / (2 * A).natAbs) (show 2 ≤ (2 * A).natAbs by omega)
      omega
    rw [e2]
    generalize (-B).tdiv (2 * A) = k at e e4 ⊢
    generalize (-B).tmod (2 * A) = m at e e3
    generalize 2 * A * k = n at e ⊢
    refine ⟨?_, ?_, ?_, ?_⟩ <;> omega

/-- a measure that each round of ReducedOf lowers -/
def ofm (A B : Int) : Nat := 8000000000 * A.toNat + 2 * B.natAbs + if B < 0 then 1 else 0
theorem ofm_swap {A B C : Int} (h1 : 1 ≤ C) (h2 : C < A) (h3 : -2000000000 ≤ B) (h4 : B ≤ 2000000000) : ofm C (-B) < ofm A B := by
  unfold ofm
  split <;> split <;> omega
theorem ofm_turn {A B C : Int} (h1 : A = C) (h2 : B < 0) : ofm C (-B) < ofm A B := by
  unfold ofm
  rw [h1, if_neg (by omega), if_pos h2]
  omega
theorem ofm_step {A B : Int} (hA : 1 ≤ A) (h : A < B ∨ B ≤ -A) : ofm A (B + 2 * ofk A B * A) < ofm A B := by
  obtain ⟨h1, h2, _⟩ := ofk_small hA h
  unfold ofm
  generalize B + 2 * ofk A B * A = b at h1 h2
  split <;> split <;> omega

/-! a pair (x, y) without common factors at which the second form's value has none with the first one's A -/
def prms : List Nat := [2, 3, 5, 7, 11, 13, 17, 19, 23, 29, 31, 37, 41, 43, 47, 53, 59, 61, 67, 71, 73, 79]
def psOf (a : Nat) : List Nat := prms.filter fun p => a % p == 0
def chs : List Nat → List (List (Nat × Nat))
  | [] => [[]]
  | p :: ps => (chs ps).flatMap fun l => [(p, 1) :: l, (p, 2) :: l, (p, 3) :: l]
def okc (x y : Nat) (z : Nat × Nat) : Bool := if z.2 == 1 then y % z.1 == 0 && x % z.1 != 0 else if z.2 == 2 then x % z.1 == 0 && y % z.1 != 0 else x % z.1 != 0 && y % z.1 != 0
def chk3 : Bool := (List.range 82).all fun a => a == 0 || (chs (psOf a)).all fun l => (List.range 42).any fun x => (List.range (42 - x)).any fun y => Nat.gcd x y == 1 && l.all (okc x y)
set_option maxRecDepth 100000 in
theorem chk3_true : chk3 = true := by decide +kernel
def chk1 : Bool := prms.all fun p => (List.range 82).all fun d => p % d != 0 || d == 1 || d == p || d == 0
set_option maxRecDepth 100000 in
theorem chk1_true : chk1 = true := by decide +kernel
def chk2 : Bool := (List.range 82).all fun d => d < 2 || prms.any fun p => d % p == 0
set_option maxRecDepth 100000 in
theorem chk2_true : chk2 = true := by decide +kernel

theorem prm_lt {p : Nat} (h : p ∈ prms) : 2 ≤ p ∧ p < 82 := by
  have : prms.all (fun p => decide (2 ≤ p ∧ p < 82)) = true := by decide
  have := List.all_eq_true.1 this p h
  simpa using this
theorem prm_dvd {p m n : Nat} (h : p ∈ prms) (hd : p ∣ m * n) : p ∣ m ∨ p ∣ n := by
  have h1 := List.all_eq_true.1 chk1_true p h
  have hp := prm_lt h
  have hg : Nat.gcd p m ∣ p := Nat.gcd_dvd_left ..
  have hle := Nat.le_of_dvd (by omega) hg
  have h2 := List.all_eq_true.1 h1 (Nat.gcd p m) (List.mem_range.2 (by omega))
  have h3 : p % Nat.gcd p m = 0 := Nat.mod_eq_zero_of_dvd hg
  have h4 : Nat.gcd p m ≠ 0 := fun e => by
    have := Nat.eq_zero_of_gcd_eq_zero_left e
    omega
  simp [h3, h4] at h2
  rcases h2 with h2 | h2
  · exact .inr (Nat.Coprime.dvd_of_dvd_mul_left h2 hd)
  · exact .inl (by rw [← h2]; exact Nat.gcd_dvd_right ..)
theorem iprm_dvd {p : Nat} {m n : Int} (h : p ∈ prms) (hd : (p : Int) ∣ m * n) : (p : Int) ∣ m ∨ (p : Int) ∣ n := by
  have h1 := Int.natAbs_dvd_natAbs.2 hd
  rw [Int.natAbs_mul, Int.natAbs_natCast] at h1
  rcases prm_dvd h h1 with h2 | h2
  · exact .inl (Int.natAbs_dvd_natAbs.1 (by rw [Int.natAbs_natCast]; exact h2))
  · exact .inr (Int.natAbs_dvd_natAbs.1 (by rw [Int.natAbs_natCast]; exact h2))
theorem chs_mem (f : Nat → Nat) (hf : ∀ p, f p = 1 ∨ f p = 2 ∨ f p = 3) (ps : List Nat) : (ps.map fun p => (p, f p)) ∈ chs ps := by
  induction ps with
  | nil => simp [chs]
  | cons p ps ih =>
    rw [chs, List.mem_flatMap]
    refine ⟨_, ih, ?_⟩
    rcases hf p with h | h | h <;> simp [h]
open Classical in
/-- what p is to the form -/
noncomputable def chOf (a c : Int) (p : Nat) : Nat := if ¬ (p : Int) ∣ a then 1 else if ¬ (p : Int) ∣ c then 2 else 3
theorem chOf_cases (a c : Int) (p : Nat) : chOf a c p = 1 ∨ chOf a c p = 2 ∨ chOf a c p = 3 := by
  unfold chOf
  split
  · exact .inl rfl
  · split
    · exact .inr (.inl rfl)
    · exact .inr (.inr rfl)
theorem good_pair {a a2 b2 c2 : Int} (h1 : 1 ≤ a) (h2 : a ≤ 81) (hg : ∃ x y z : Int, x * a2 + y * b2 + z * c2 = 1) :
    ∃ x y : Int, 0 ≤ x ∧ 0 ≤ y ∧ x + y ≤ 41 ∧ Int.gcd x y = 1 ∧ Int.gcd (a2 * x * x + b2 * x * y + c2 * y * y) a = 1 := by
  obtain ⟨n, hn⟩ : ∃ n : Nat, a = n := ⟨a.toNat, by omega⟩
  have c1 := List.all_eq_true.1 chk3_true n (List.mem_range.2 (by omega))
  have hn0 : (n == 0) = false := by simp; omega
  rw [hn0, Bool.false_or] at c1
  have c2' := List.all_eq_true.1 c1 _ (chs_mem (chOf a2 c2) (chOf_cases a2 c2) (psOf n))
  obtain ⟨x, hx, c3⟩ := List.any_eq_true.1 c2'
  obtain ⟨y, hy, c4⟩ := List.any_eq_true.1 c3
  rw [List.mem_range] at hx hy
  rw [Bool.and_eq_true] at c4
  obtain ⟨c4, c5⟩ := c4
  refine ⟨x, y, by omega, by omega, by omega, by simpa using c4, ?_⟩
  apply Classical.byContradiction
  intro hne
  obtain ⟨d, hd⟩ : ∃ d, Int.gcd (a2 * x * x + b2 * x * y + c2 * y * y) a = d := ⟨_, rfl⟩
  rw [hd] at hne
  have d1 : (d : Int) ∣ a2 * x * x + b2 * x * y + c2 * y * y := by rw [← hd]; exact Int.gcd_dvd_left ..
  have d2 : (d : Int) ∣ a := by rw [← hd]; exact Int.gcd_dvd_right ..
  have d3 : d ∣ n := by rw [hn] at d2; exact Int.natCast_dvd_natCast.1 d2
  have d4 := Nat.le_of_dvd (by omega) d3
  have d5 : d ≠ 0 := fun e => by rw [e] at d3; have := Nat.eq_zero_of_zero_dvd d3; omega
  have c6 := List.all_eq_true.1 chk2_true d (List.mem_range.2 (by omega))
  have hd2 : decide (d < 2) = false := by simp; omega
  rw [hd2, Bool.false_or] at c6
  obtain ⟨p, hp, c7⟩ := List.any_eq_true.1 c6
  have p1 : p ∣ d := Nat.dvd_of_mod_eq_zero (by simpa using c7)
  have p2 : p ∣ n := Nat.dvd_trans p1 d3
  have p3 : (p : Int) ∣ a2 * x * x + b2 * x * y + c2 * y * y := Int.dvd_trans (Int.natCast_dvd_natCast.2 p1) d1
  have p4 : p ∈ psOf n := List.mem_filter.2 ⟨hp, by simpa using Nat.mod_eq_zero_of_dvd p2⟩
  have c8 := List.all_eq_true.1 c5 _ (List.mem_map.2 ⟨p, p4, rfl⟩)
  have nd : ∀ z : Nat, z % p ≠ 0 → ¬ (p : Int) ∣ (z : Int) := fun z hz hc => hz (Nat.mod_eq_zero_of_dvd (Int.natCast_dvd_natCast.1 hc))
  have yd : ∀ z : Nat, z % p = 0 → (p : Int) ∣ (z : Int) := fun z hz => Int.natCast_dvd_natCast.2 (Nat.dvd_of_mod_eq_zero hz)
  unfold okc at c8
  by_cases k1 : (p : Int) ∣ a2
  · by_cases k2 : (p : Int) ∣ c2
    · -- both ends are 0: the middle is not
      have hc : chOf a2 c2 p = 3 := by unfold chOf; rw [if_neg (by simpa using k1), if_neg (by simpa using k2)]
      rw [hc] at c8
      simp at c8
      obtain ⟨e1, e2⟩ := c8
      have k3 : (p : Int) ∣ b2 * x * y := by
        have m1 : (p : Int) ∣ a2 * x * x := by rw [Int.mul_assoc]; exact Int.dvd_mul_of_dvd_left k1
        have m2 : (p : Int) ∣ c2 * y * y := by rw [Int.mul_assoc]; exact Int.dvd_mul_of_dvd_left k2
        have m3 := Int.dvd_sub (Int.dvd_sub p3 m1) m2
        have m4 : a2 * ↑x * ↑x + b2 * ↑x * ↑y + c2 * ↑y * ↑y - a2 * ↑x * ↑x - c2 * ↑y * ↑y = b2 * x * y := by omega
        rwa [m4] at m3
      rcases iprm_dvd hp k3 with k4 | k4
      · rcases iprm_dvd hp k4 with k5 | k5
        · obtain ⟨u, v, z, huv⟩ := hg
          have m1 : (p : Int) ∣ u * a2 + v * b2 + z * c2 := Int.dvd_add (Int.dvd_add (Int.dvd_mul_of_dvd_right k1) (Int.dvd_mul_of_dvd_right k5)) (Int.dvd_mul_of_dvd_right k2)
          rw [huv] at m1
          have m2 := Int.le_of_dvd (by omega) m1
          have := prm_lt hp
          omega
        · exact nd x e1 k5
      · exact nd y e2 k4
    · have hc : chOf a2 c2 p = 2 := by unfold chOf; rw [if_neg (by simpa using k1), if_pos k2]
      rw [hc] at c8
      simp at c8
      obtain ⟨e1, e2⟩ := c8
      have k3 : (p : Int) ∣ c2 * y * y := by
        have m1 : (p : Int) ∣ a2 * x * x := Int.dvd_mul_of_dvd_right (yd x e1)
        have m2 : (p : Int) ∣ b2 * x * y := by rw [Int.mul_assoc, Int.mul_comm (x : Int) y, ← Int.mul_assoc]; exact Int.dvd_mul_of_dvd_right (yd x e1)
        have m3 := Int.dvd_sub (Int.dvd_sub p3 m1) m2
        have m4 : a2 * ↑x * ↑x + b2 * ↑x * ↑y + c2 * ↑y * ↑y - a2 * ↑x * ↑x - b2 * ↑x * ↑y = c2 * y * y := by omega
        rwa [m4] at m3
      rcases iprm_dvd hp k3 with k4 | k4
      · rcases iprm_dvd hp k4 with k5 | k5
        · exact k2 k5
        · exact nd y e2 k5
      · exact nd y e2 k4
  · have hc : chOf a2 c2 p = 1 := by unfold chOf; rw [if_pos k1]
    rw [hc] at c8
    simp at c8
    obtain ⟨e1, e2⟩ := c8
    have k3 : (p : Int) ∣ a2 * x * x := by
      have m1 : (p : Int) ∣ b2 * x * y := Int.dvd_mul_of_dvd_right (yd y e1)
      have m2 : (p : Int) ∣ c2 * y * y := Int.dvd_mul_of_dvd_right (yd y e1)
      have m3 := Int.dvd_sub (Int.dvd_sub p3 m1) m2
      have m4 : a2 * ↑x * ↑x + b2 * ↑x * ↑y + c2 * ↑y * ↑y - b2 * ↑x * ↑y - c2 * ↑y * ↑y = a2 * x * x := by omega
      rwa [m4] at m3
    rcases iprm_dvd hp k3 with k4 | k4
    · rcases iprm_dvd hp k4 with k5 | k5
      · exact k1 k5
      · exact nd x e2 k5
    · exact nd x e2 k4

/-- numbers r, s near by with x s - y r = 1 -/
theorem turn_pair {x y : Int} (hx : 0 ≤ x) (hy : 0 ≤ y) (hg : Int.gcd x y = 1) : ∃ r s : Int, x * s - y * r = 1 ∧ -(x + y) ≤ r ∧ r ≤ x + y + 1 ∧ -(x + y) ≤ s ∧ s ≤ x + y + 1 := by
  by_cases h0 : y = 0
  · subst h0
    have : x = 1 := by
      rw [Int.gcd_zero] at hg
      omega
    subst this
    exact ⟨0, 1, by omega, by omega, by omega, by omega, by omega⟩
  · obtain ⟨u, v, huv⟩ := ibez x y
    rw [hg] at huv
    have h1 := Int.emod_nonneg u (b := y) h0
    have h2 := Int.emod_lt_of_pos u (b := y) (by omega)
    have h3 := Int.mul_ediv_add_emod u y
    generalize u % y = s at h1 h2 h3
    generalize u / y = q at h3
    have e : x * s - y * (-v - x * q) = 1 := by
      have : x * s - y * (-v - x * q) = (y * q + s) * x + v * y := by grind
      rw [this, h3, huv]; rfl
    obtain ⟨r, hr⟩ : ∃ r, -v - x * q = r := ⟨_, rfl⟩
    rw [hr] at e
    have e1 : 0 ≤ x * s := Int.mul_nonneg hx h1
    have e2 : x * s ≤ x * y := Int.mul_le_mul_of_nonneg_left (by omega) hx
    have e3 : -1 ≤ r := by
      rcases Int.lt_or_le r (-1) with h | h
      · have := Int.mul_le_mul_of_nonneg_left (show r ≤ -2 by omega) hy
        omega
      · exact h
    have e4 : r ≤ x := by
      rcases Int.lt_or_le x r with h | h
      · have := Int.mul_le_mul_of_nonneg_left (show x + 1 ≤ r by omega) hy
        have e5 : y * (x + 1) = x * y + y := by grind
        omega
      · exact h
    exact ⟨r, s, e, by omega, by omega, by omega, by omega⟩

/-- one b for both forms -/
theorem one_b {a A B0 B e : Int} (hA : 1 ≤ A) (hg : Int.gcd A a = 1) (he : B0 - B = 2 * e) : ∃ J : Int, 0 ≤ J ∧ J < A ∧ (B0 + 2 * a * J - B) % (2 * A) = 0 := by
  obtain ⟨u, v, huv⟩ := ibez A a
  rw [hg] at huv
  have h1 := Int.emod_nonneg (-(e * v)) (b := A) (by omega)
  have h2 := Int.emod_lt_of_pos (-(e * v)) (b := A) (by omega)
  have h3 := Int.mul_ediv_add_emod (-(e * v)) A
  generalize (-(e * v)) % A = J at h1 h2 h3
  generalize (-(e * v)) / A = q at h3
  refine ⟨J, h1, h2, ?_⟩
  have hJ : J = -(e * v) - A * q := by omega
  have e1 : B0 + 2 * a * J - B = 2 * A * (e * u - a * q) := by
    have : B0 + 2 * a * J - B = 2 * (e + a * J) := by rw [show B0 + 2 * a * J - B = (B0 - B) + 2 * a * J by omega, he]; grind
    rw [this, hJ]
    have e5 : e = e * (u * A + v * a) := by rw [huv]; grind
    have e6 : e + a * (-(e * v) - A * q) = e * (u * A + v * a) + a * (-(e * v) - A * q) := by rw [← e5]
    rw [e6]; grind
  rw [e1]
  exact Int.mul_emod_right ..

/-- two concordant forms: the composed one -/
theorem conc_sim {a1 b1 c1 A B C b D : Int} (hD1 : D = b1 * b1 - 4 * a1 * c1) (hD2 : D = B * B - 4 * A * C) (ha : 1 ≤ a1) (hg : Int.gcd A a1 = 1) (h1 : ∃ t, b - b1 = 2 * a1 * t) (h2 : ∃ r, b - B = 2 * A * r) :
    (∃ c, b * b - D = 4 * a1 * A * c) ∧ Sim D (Pr D (Lf a1 b1) (Lf A B)) (Lf (a1 * A) b) := by
  obtain ⟨t, ht⟩ := h1
  obtain ⟨r, hr⟩ := h2
  obtain ⟨y1, z1, hyz⟩ := ibez A a1
  rw [hg] at hyz
  obtain ⟨n, hn⟩ : ∃ n, a1 * t - A * r = n := ⟨_, rfl⟩
  have e3 : B - b1 = 2 * n := by
    have q1 : 2 * a1 * t = 2 * (a1 * t) := by grind
    have q2 : 2 * A * r = 2 * (A * r) := by grind
    omega
  have hns : n * (B - n) = A * C - a1 * c1 := by
    have hb1 : b1 = B - 2 * n := by omega
    have h4 : 4 * (n * (B - n)) = 4 * (A * C - a1 * c1) := by
      have := hD1.symm.trans hD2
      rw [hb1] at this
      grind
    omega
  have h5 : A * (C + r * (B - n)) = a1 * (c1 + t * (B - n)) := by
    have : A * (C + r * (B - n)) = A * C + (A * r) * (B - n) := by grind
    rw [this, show A * r = a1 * t - n by omega]
    grind
  obtain ⟨u, hu⟩ : ∃ u, u = y1 * (c1 + t * (B - n)) + z1 * (C + r * (B - n)) := ⟨_, rfl⟩
  have e8 : a1 * u = C + r * (B - n) := by
    have : a1 * u = y1 * (a1 * (c1 + t * (B - n))) + z1 * a1 * (C + r * (B - n)) := by rw [hu]; grind
    rw [this, ← h5]
    have : y1 * (A * (C + r * (B - n))) + z1 * a1 * (C + r * (B - n)) = (y1 * A + z1 * a1) * (C + r * (B - n)) := by grind
    rw [this, hyz]; grind
  have hC : Comp a1 b1 c1 A B C D 1 a1 A r (B - n) n t u z1 0 y1 1 1 := by
    refine ⟨by omega, by omega, by omega, by omega, hD2, hD1, by omega, e8, by omega, ?_⟩
    rw [hyz]; rfl
  have hb : B + 2 * A * r = b := by omega
  have hs := comp_sim (k1 := 1) (k2 := 0) (k3 := 0) (k4 := 0) hC (by omega) (by omega) (by omega)
  have ht := (comp_third hC).2
  rw [hb] at hs ht
  refine ⟨⟨1 * u + r * t, ?_⟩, hs⟩
  rw [← ht]; grind
/-- a reduced form of a small discriminant is small -/
theorem small_form {a b c D : Int} (h : RedF a b c) (hD : D = b * b - 4 * a * c) (hlow : -20000 ≤ D) : 1 ≤ a ∧ a ≤ 81 ∧ -81 ≤ b ∧ b ≤ 81 ∧ 1 ≤ c ∧ c ≤ 6666 := by
  obtain ⟨h0, h1, h2, h3, _⟩ := h
  have e1 := sq_up (x := b) (N := a) (by omega) h2
  have e2 : a * a ≤ a * c := Int.mul_le_mul_of_nonneg_left h3 (by omega)
  rw [Int.mul_assoc 4 a c] at hD
  have e3 : 1 * c ≤ a * c := Int.mul_le_mul_of_nonneg_right (by omega) (by omega)
  have ha : a ≤ 81 := by
    rcases Int.lt_or_le 81 a with h | h
    · have := Int.mul_le_mul (show 82 ≤ a by omega) (show 82 ≤ a by omega) (by omega) (by omega)
      omega
    · exact h
  omega
/-- the second form turned -/
def tA (a b c x y : Int) : Int := a * x * x + b * x * y + c * y * y
def tB (a b c x r y s : Int) : Int := 2 * a * x * r + b * (x * s + r * y) + 2 * c * y * s
theorem turned_ok {a b c x y r s D : Int} (hD : D = b * b - 4 * a * c) (hdet : x * s - y * r = 1) (ha : 1 ≤ a) (hA : 1 ≤ tA a b c x y) :
    D = tB a b c x r y s * tB a b c x r y s - 4 * tA a b c x y * tA a b c r s ∧ Sim D (Lf a b) (Lf (tA a b c x y) (tB a b c x r y s)) := by
  constructor
  · have e : D = (b * b - 4 * a * c) * ((x * s - y * r) * (x * s - y * r)) := by rw [hdet, hD]; grind
    rw [e]; unfold tA tB; grind
  · have := sim_turn (a := a) (b := b) (c := c) (A := tA a b c x y) (B := tB a b c x r y s) (p := x) (q := r) (r := y) (s := s) (by grind) rfl (by unfold tB; grind) (by omega) (by omega)
    rwa [← hD] at this
theorem tA_bounds {a b c x y : Int} (h : RedF a b c) (hc : c ≤ 6666) (hx : 0 ≤ x) (hy : 0 ≤ y) (hxy : x + y ≤ 41) (hg : Int.gcd x y = 1) : 1 ≤ tA a b c x y ∧ tA a b c x y ≤ 11205546 := by
  have hne : x ≠ 0 ∨ y ≠ 0 := by
    by_cases e : x = 0
    · refine .inr fun e2 => ?_
      subst e e2
      simp at hg
    · exact .inl e
  have h1 := h.min1 hne
  obtain ⟨h0, h2, h3, h4, _⟩ := h
  refine ⟨by unfold tA; omega, ?_⟩
  have e0 : 0 ≤ x * y := Int.mul_nonneg hx hy
  have e1 : a * (x * x) ≤ c * (x * x) := Int.mul_le_mul_of_nonneg_right h4 (Int.mul_nonneg hx hx)
  have e2 : b * (x * y) ≤ c * (x * y) := Int.mul_le_mul_of_nonneg_right (by omega) e0
  have e3 : c * ((x + y) * (x + y)) ≤ 6666 * (41 * 41) := Int.mul_le_mul hc (Int.mul_le_mul hxy hxy (by omega) (by omega)) (Int.mul_nonneg (by omega) (by omega)) (by omega)
  have e4 : c * ((x + y) * (x + y)) = c * (x * x) + c * (y * y) + 2 * (c * (x * y)) := by grind
  have e5 : 0 ≤ c * (x * y) := Int.mul_nonneg (by omega) e0
  have e6 : tA a b c x y = a * (x * x) + b * (x * y) + c * (y * y) := by unfold tA; grind
  omega
/-- the composed form before it is reduced -/
theorem last_form {a1 b1 c1 A B C b D : Int} (hn : D < 0) (hD1 : D = b1 * b1 - 4 * a1 * c1) (hD2 : D = B * B - 4 * A * C) (ha : 1 ≤ a1) (hA : 1 ≤ A) (hg : Int.gcd A a1 = 1) (h1 : (b - b1) % (2 * a1) = 0) (h2 : (b - B) % (2 * A) = 0) (hb1 : -2000000000 ≤ b) (hb2 : b ≤ 2000000000) :
    ∃ c, (b * b - D).tdiv (4 * a1 * A) = c ∧ OInv D (a1 * A) b c (a1 * A) b c ∧ Sim D (Pr D (Lf a1 b1) (Lf A B)) (Lf (a1 * A) b) := by
  obtain ⟨⟨c, hc⟩, hs⟩ := conc_sim (b := b) hD1 hD2 ha hg ⟨_, (Int.mul_ediv_cancel' (Int.dvd_of_emod_eq_zero h1)).symm⟩ ⟨_, (Int.mul_ediv_cancel' (Int.dvd_of_emod_eq_zero h2)).symm⟩
  have p1 : 1 * 1 ≤ a1 * A := Int.mul_le_mul ha hA (by omega) (by omega)
  have p2 : 4 * a1 * A = 4 * (a1 * A) := by grind
  have p3 : 1 ≤ c := by
    rcases Int.lt_or_le c 1 with h | h
    · have h1 : 4 * (a1 * A) * c ≤ 4 * (a1 * A) * 0 := Int.mul_le_mul_of_nonneg_left (by omega) (by omega)
      have := sq_nn b
      rw [p2] at hc
      omega
    · exact h
  refine ⟨c, ?_, OInv.start (by omega) p3 hb1 hb2 (by rw [p2] at hc; omega), hs⟩
  rw [hc]
  exact Int.mul_tdiv_cancel_left _ (by omega)
end Go.Proofs.Ytkfjjljdhfjpbaa

namespace Go.Proofs.Ytkfjjljdhfjpbaa
namespace GN

/-- the fields of a certificate -/
def fld (code i : Nat) : Int := Int.subNatNat (Nat.mod (Nat.div code (Nat.pow 1024 i)) 1024) 512
def cz (d : Nat) (a b : Int) : Int := (b * b + d) / (4 * a)
def pos (a b : Int) : Nat := (64 * a + b + 32).toNat
/-- two values of the form (a, b, c) with nothing in common with each other and with d; a form with both; it turned is the reduced one (Ra, Rb) -/
def CertQ (d : Nat) (a b c x1 y1 r1 s1 x2 y2 r2 s2 A1 B1 A2 B2 bb p q r s Ra Rb Rc : Int) : Prop :=
  (4 * a * c = b * b + d ∧ 1 ≤ a ∧ a ≤ 30 ∧ -a < b ∧ b ≤ a ∧ a ≤ c ∧ (a ≠ c ∨ 0 ≤ b) ∧ Int.gcd a (Int.gcd b c) = 1) ∧ (x1 * s1 - y1 * r1 = 1 ∧ x2 * s2 - y2 * r2 = 1) ∧ (1 ≤ A1 ∧ 1 ≤ A2) ∧ (Int.gcd A2 A1 = 1 ∧ Int.gcd (A1 * A2) d = 1) ∧
  ((bb - B1) % (2 * A1) = 0 ∧ (bb - B2) % (2 * A2) = 0) ∧ p * s - q * r = 1 ∧ (-Ra < Rb ∧ Rb ≤ Ra ∧ Ra ≤ Rc ∧ (Ra ≠ Rc ∨ 0 ≤ Rb) ∧ 1 ≤ Ra ∧ Ra ≤ 30 ∧ 4 * Ra * Rc = Rb * Rb + d)
instance (d : Nat) (a b c x1 y1 r1 s1 x2 y2 r2 s2 A1 B1 A2 B2 bb p q r s Ra Rb Rc : Int) : Decidable (CertQ d a b c x1 y1 r1 s1 x2 y2 r2 s2 A1 B1 A2 B2 bb p q r s Ra Rb Rc) := by delta CertQ; exact inferInstance
def cA (d : Nat) (code : Nat) : Int := tA (fld code 0) (fld code 1) (cz d (fld code 0) (fld code 1)) (fld code 2) (fld code 3)
def cB (d : Nat) (code : Nat) : Int := tB (fld code 0) (fld code 1) (cz d (fld code 0) (fld code 1)) (fld code 2) (fld code 4) (fld code 3) (fld code 5)
def cA2 (d : Nat) (code : Nat) : Int := tA (fld code 0) (fld code 1) (cz d (fld code 0) (fld code 1)) (fld code 6) (fld code 7)
def cB2 (d : Nat) (code : Nat) : Int := tB (fld code 0) (fld code 1) (cz d (fld code 0) (fld code 1)) (fld code 6) (fld code 8) (fld code 7) (fld code 9)
def cb (d : Nat) (code : Nat) : Int := cB d code + 2 * cA d code * fld code 10
def cc' (d : Nat) (code : Nat) : Int := cz d (cA d code * cA2 d code) (cb d code)
def cRa (d : Nat) (code : Nat) : Int := tA (cA d code * cA2 d code) (cb d code) (cc' d code) (fld code 11) (fld code 13)
def cRb (d : Nat) (code : Nat) : Int := tB (cA d code * cA2 d code) (cb d code) (cc' d code) (fld code 11) (fld code 12) (fld code 13) (fld code 14)
def CertP (d code : Nat) : Prop := CertQ d (fld code 0) (fld code 1) (cz d (fld code 0) (fld code 1)) (fld code 2) (fld code 3) (fld code 4) (fld code 5) (fld code 6) (fld code 7) (fld code 8) (fld code 9)
  (cA d code) (cB d code) (cA2 d code) (cB2 d code) (cb d code) (fld code 11) (fld code 12) (fld code 13) (fld code 14) (cRa d code) (cRb d code) (cz d (cRa d code) (cRb d code))
instance (d code : Nat) : Decidable (CertP d code) := by delta CertP; exact inferInstance
/-- a value that the first form does not have: by an odd prime, or by 4, 8 or 16 -/
def odds : List Nat := [3, 5, 7, 11, 13, 17, 19, 23, 29, 31, 37, 41, 43, 47, 53, 59, 61, 67, 71]
def none2 (q s c0 n : Nat) : Bool := List.all (List.range q) fun X => List.all (List.range q) fun Y => not (Nat.beq (Nat.mod (Nat.add (Nat.mul X X) (Nat.add (Nat.mul s (Nat.mul X Y)) (Nat.mul c0 (Nat.mul Y Y)))) q) (Nat.mod n q))
def negB (d q n : Nat) : Bool :=
  and (Nat.beq (Nat.gcd n d) 1) (and (Nat.beq (Nat.mod d q) 0) (or (and (List.any odds fun p => Nat.beq p q) (Nat.beq (Nat.mod (Nat.pow n (Nat.div (Nat.sub q 1) 2)) q) (Nat.sub q 1)))
    (and (Nat.blt 0 q) (none2 q (Nat.mod d 2) (Nat.div (Nat.add d (Nat.mod d 2)) 4) n))))
def cn (d code : Nat) : Nat := (tA (fld code 0) (fld code 1) (cz d (fld code 0) (fld code 1)) (fld code 16) (fld code 17)).toNat
def bit (X n : Nat) : Bool := Nat.beq (Nat.mod (Nat.div X (Nat.pow 2 n)) 2) 1
def maskF : List Nat → Nat
  | [] => 0
  | code :: l => Nat.lor (Nat.pow 2 (pos (fld code 0) (fld code 1))) (maskF l)
def maskS (d : Nat) : List Nat → Nat
  | [] => 0
  | code :: l => Nat.lor (Nat.pow 2 (pos (cRa d code) (cRb d code))) (maskS d l)
/-- all codes are right, and each form is a square or has a value that the first form does not have -/
def codesB (d S : Nat) : List Nat → Bool
  | [] => true
  | code :: l => and (decide (CertP d code)) (and (or (bit S (pos (fld code 0) (fld code 1))) (negB d (fld code 15).toNat (cn d code))) (codesB d S l))
/-- each reduced form has a code -/
def pairB (d M a b : Nat) : Bool :=
  cond (Nat.beq (Nat.mod (Nat.add (Nat.mul b b) d) (Nat.mul 4 a)) 0)
    (or (Nat.blt (Nat.div (Nat.add (Nat.mul b b) d) (Nat.mul 4 a)) a) (or (not (Nat.beq (Nat.gcd a (Nat.gcd b (Nat.div (Nat.add (Nat.mul b b) d) (Nat.mul 4 a)))) 1))
      (and (bit M (Nat.add (Nat.mul 64 a) (Nat.add b 32))) (or (Nat.beq a b) (or (Nat.beq a (Nat.div (Nat.add (Nat.mul b b) d) (Nat.mul 4 a))) (bit M (Nat.sub (Nat.add (Nat.mul 64 a) 32) b))))))) true
def rowB (d M a n : Nat) : Bool := Nat.rec (motive := fun _ => Bool) true (fun b r => and (pairB d M a b) r) n
def pairsB (d M n : Nat) : Bool := Nat.rec (motive := fun _ => Bool) true (fun a r => and (rowB d M (Nat.succ a) (Nat.succ (Nat.succ a))) r) n
def gchk (d A : Nat) (codes : List Nat) : Bool := and (Nat.blt d (Nat.mul 3 (Nat.mul (Nat.succ A) (Nat.succ A)))) (and (codesB d (maskS d codes) codes) (pairsB d (maskF codes) A))

theorem bit_or {X Y n : Nat} (h : bit (X ||| Y) n = true) : bit X n = true ∨ bit Y n = true := by
  have e : ∀ Z : Nat, bit Z n = Z.testBit n := fun Z => by
    unfold bit
    rw [Nat.testBit_eq_decide_div_mod_eq]
    show Nat.beq (Z / 2 ^ n % 2) 1 = _
    cases hb : Nat.beq (Z / 2 ^ n % 2) 1
    · exact (decide_eq_false fun h => by rw [h] at hb; cases hb).symm
    · exact (decide_eq_true (Nat.eq_of_beq_eq_true hb)).symm
  rw [e, Nat.testBit_or, Bool.or_eq_true] at h
  rwa [e, e]
theorem bit_pow {m n : Nat} (h : bit (2 ^ m) n = true) : m = n := by
  have e : bit (2 ^ m) n = (2 ^ m).testBit n := by
    unfold bit
    rw [Nat.testBit_eq_decide_div_mod_eq]
    show Nat.beq (2 ^ m / 2 ^ n % 2) 1 = _
    cases hb : Nat.beq (2 ^ m / 2 ^ n % 2) 1
    · exact (decide_eq_false fun h => by rw [h] at hb; cases hb).symm
    · exact (decide_eq_true (Nat.eq_of_beq_eq_true hb)).symm
  rw [e, Nat.testBit_two_pow] at h
  simpa using h
theorem bit_zero {n : Nat} (h : bit 0 n = true) : False := by
  unfold bit at h
  have : Nat.beq (0 / 2 ^ n % 2) 1 = true := h
  rw [Nat.zero_div] at this
  cases this
theorem maskF_ex {n : Nat} : ∀ {l : List Nat}, bit (maskF l) n = true → ∃ code ∈ l, pos (fld code 0) (fld code 1) = n
  | [], h => (bit_zero h).elim
  | code :: l, h => by
    rcases bit_or h with k | k
    · exact ⟨code, by simp, bit_pow k⟩
    · obtain ⟨e, he, hp⟩ := maskF_ex k
      exact ⟨e, by simp [he], hp⟩
theorem maskS_ex {d n : Nat} : ∀ {l : List Nat}, bit (maskS d l) n = true → ∃ code ∈ l, pos (cRa d code) (cRb d code) = n
  | [], h => (bit_zero h).elim
  | code :: l, h => by
    rcases bit_or h with k | k
    · exact ⟨code, by simp, bit_pow k⟩
    · obtain ⟨e, he, hp⟩ := maskS_ex k
      exact ⟨e, by simp [he], hp⟩
theorem codesB_told {d S : Nat} : ∀ {l : List Nat}, codesB d S l = true → ∀ code ∈ l, CertP d code ∧ (bit S (pos (fld code 0) (fld code 1)) = true ∨ negB d (fld code 15).toNat (cn d code) = true)
  | [], _, _, h => by cases h
  | c :: l, h, code, hc => by
    unfold codesB at h
    rw [Bool.and_eq_true, Bool.and_eq_true, Bool.or_eq_true] at h
    rcases List.mem_cons.1 hc with rfl | hc
    · exact ⟨of_decide_eq_true h.1, h.2.1⟩
    · exact codesB_told h.2.2 code hc
theorem rowB_told {d M a : Nat} : ∀ {n : Nat}, rowB d M a n = true → ∀ b, b < n → pairB d M a b = true
  | 0, _, b, hb => absurd hb (by omega)
  | n + 1, h, b, hb => by
    have h' : and (pairB d M a n) (rowB d M a n) = true := h
    rw [Bool.and_eq_true] at h'
    by_cases e : b = n
    · rw [e]; exact h'.1
    · exact rowB_told h'.2 b (by omega)
theorem pairsB_told {d M : Nat} : ∀ {n : Nat}, pairsB d M n = true → ∀ a, 1 ≤ a → a ≤ n → ∀ b, b ≤ a → pairB d M a b = true
  | 0, _, a, h1, h2, _, _ => absurd h1 (by omega)
  | n + 1, h, a, h1, h2, b, hb => by
    have h' : and (rowB d M (n + 1) (n + 2)) (pairsB d M n) = true := h
    rw [Bool.and_eq_true] at h'
    by_cases e : a = n + 1
    · subst e
      exact rowB_told h'.1 b (by omega)
    · exact pairsB_told h'.2 a h1 (by omega) b hb
theorem pos_inj {a b a' b' : Int} (h : pos a b = pos a' b') (ha : 1 ≤ a) (ha' : 1 ≤ a') (hb : -30 ≤ b) (hb2 : b ≤ 30) (hb' : -30 ≤ b') (hb2' : b' ≤ 30) : a = a' ∧ b = b' := by
  unfold pos at h
  omega

/-- a reduced form with nothing in common -/
def Cls (d : Nat) (a b c : Int) : Prop := RedF a b c ∧ -(d : Int) = b * b - 4 * a * c ∧ Int.gcd a (Int.gcd b c) = 1
/-- what a certificate tells -/
structure Got (d : Nat) (a b c Ra Rb Rc : Int) : Prop where
  hD : -(d : Int) = b * b - 4 * a * c
  cls : Cls d a b c
  a1 : 1 ≤ a
  a30 : a ≤ 30
  lo : -a < b
  hi : b ≤ a
  red : RedF Ra Rb Rc
  r30 : Ra ≤ 30
  rD : -(d : Int) = Rb * Rb - 4 * Ra * Rc
  sim : Sim (-(d : Int)) (Pr (-(d : Int)) (Lf a b) (Lf a b)) (Lf Ra Rb)
  n : ∃ n1 n2 : Int, Int.gcd (n1 * n2) d = 1 ∧ Vm d a b c n1 ∧ Vm d a b c n2 ∧ Vm d Ra Rb Rc (n1 * n2)
theorem certQ_told {d : Nat} (hd : 0 < d) {a b c x1 y1 r1 s1 x2 y2 r2 s2 A1 B1 A2 B2 bb p q r s Ra Rb Rc cc : Int} (eA : A1 = tA a b c x1 y1) (eB : B1 = tB a b c x1 r1 y1 s1) (eA2 : A2 = tA a b c x2 y2) (eB2 : B2 = tB a b c x2 r2 y2 s2)
    (ecc : cc = (bb * bb + d) / (4 * (A1 * A2))) (eRa : Ra = tA (A1 * A2) bb cc p r) (eRb : Rb = tB (A1 * A2) bb cc p q r s) (h : CertQ d a b c x1 y1 r1 s1 x2 y2 r2 s2 A1 B1 A2 B2 bb p q r s Ra Rb Rc) : Got d a b c Ra Rb Rc := by
  obtain ⟨⟨h1, h2, h3, h4, h5, h6, h7, h8⟩, ⟨k1, k2⟩, ⟨l1, l2⟩, ⟨m1, m2⟩, ⟨n1, n2⟩, o1, q1, q2, q3, q4, q5, q6, q7⟩ := h
  have hD : -(d : Int) = b * b - 4 * a * c := by omega
  have hn : -(d : Int) < 0 := by omega
  have t1 := turned_ok hD k1 h2 (by rw [← eA]; exact l1)
  have t2 := turned_ok hD k2 h2 (by rw [← eA2]; exact l2)
  rw [← eA, ← eB] at t1
  rw [← eA2, ← eB2] at t2
  obtain ⟨⟨e, he⟩, hs⟩ := conc_sim (b := bb) t1.1 t2.1 l1 m1 ⟨_, (Int.mul_ediv_cancel' (Int.dvd_of_emod_eq_zero n1)).symm⟩ ⟨_, (Int.mul_ediv_cancel' (Int.dvd_of_emod_eq_zero n2)).symm⟩
  have p1 : 1 * 1 ≤ A1 * A2 := Int.mul_le_mul l1 l2 (by omega) (by omega)
  have hce : cc = e := by
    rw [ecc, show bb * bb + (d : Int) = 4 * (A1 * A2) * e by rw [← Int.mul_assoc 4, ← he]; omega]
    exact Int.mul_ediv_cancel_left _ (by omega)
  have hDh : -(d : Int) = bb * bb - 4 * (A1 * A2) * cc := by rw [hce, ← Int.mul_assoc 4, ← he]; omega
  have t3 := turned_ok (x := p) (y := r) (r := q) (s := s) hDh (by rw [Int.mul_comm r q]; exact o1) (by omega) (by rw [← eRa]; exact q5)
  rw [← eRa, ← eRb] at t3
  have hRc : Rc = tA (A1 * A2) bb cc q s := by
    have h9 := t3.1
    have h10 : 4 * Ra * Rc = 4 * Ra * tA (A1 * A2) bb cc q s := by omega
    exact Int.eq_of_mul_eq_mul_left (by omega) h10
  have T : Turn Ra Rb Rc (A1 * A2) bb cc p q r s := ⟨o1, eRa, eRb, hRc⟩
  refine ⟨hD, ⟨⟨by omega, h4, h5, h6, fun e => h7.resolve_left fun h => h e⟩, hD, h8⟩, h2, h3, h4, h5, ⟨by omega, q1, q2, q3, fun e => (q4.resolve_left fun h => h e)⟩, q6, by omega, ((Sim.prod2 hn t1.2 t2.2).trans hn hs).trans hn t3.2, A1, A2, m2, ⟨x1, y1, by rw [eA]; rfl⟩, ⟨x2, y2, by rw [eA2]; rfl⟩, ⟨s, -r, by rw [T.back.ea]; rfl⟩⟩
theorem cert_told {d code : Nat} (hd : 0 < d) (h : CertP d code) : Got d (fld code 0) (fld code 1) (cz d (fld code 0) (fld code 1)) (cRa d code) (cRb d code) (cz d (cRa d code) (cRb d code)) :=
  certQ_told hd (cc := cc' d code) rfl rfl rfl rfl rfl rfl rfl h

def oddsB : Bool := List.all odds fun q => List.all (List.range q) fun n => List.all (List.range q) fun z => or (not (Nat.beq (Nat.mod (Nat.mul 4 n) q) (Nat.mod (Nat.mul z z) q))) (or (Nat.beq n 0) (Nat.beq (Nat.mod (Nat.pow n (Nat.div (Nat.sub q 1) 2)) q) 1))
theorem oddsB_ok : oddsB = true := by kernel_rfl
theorem odd_ge : List.all odds (fun q => Nat.ble 3 q) = true := by kernel_rfl
/-- what stands at X, Y, left by q -/
theorem low_val (q : Nat) (hq : 0 < q) (s c0 : Nat) (X Y : Int) : ∃ x y : Nat, x < q ∧ y < q ∧ val 1 s c0 X Y % (q : Int) = (((x * x + (s * (x * y) + c0 * (y * y))) % q : Nat) : Int) := by
  have h1 := Int.emod_nonneg X (show (q : Int) ≠ 0 by omega)
  have h2 := Int.emod_lt_of_pos X (show (0 : Int) < q by omega)
  have h3 := Int.emod_nonneg Y (show (q : Int) ≠ 0 by omega)
  have h4 := Int.emod_lt_of_pos Y (show (0 : Int) < q by omega)
  refine ⟨(X % q).toNat, (Y % q).toNat, by omega, by omega, ?_⟩
  rw [Int.natCast_emod, Int.natCast_add, Int.natCast_add, Int.natCast_mul, Int.natCast_mul, Int.natCast_mul, Int.natCast_mul, Int.natCast_mul, Int.toNat_of_nonneg h1, Int.toNat_of_nonneg h3]
  obtain ⟨u, hu⟩ : ∃ u, X / q = u := ⟨_, rfl⟩
  obtain ⟨v, hv⟩ : ∃ v, Y / q = v := ⟨_, rfl⟩
  have e1 : X = X % q + q * u := by rw [← hu]; exact (Int.emod_add_mul_ediv X q).symm
  have e2 : Y = Y % q + q * v := by rw [← hv]; exact (Int.emod_add_mul_ediv Y q).symm
  obtain ⟨x, hx⟩ : ∃ x, X % (q : Int) = x := ⟨_, rfl⟩
  obtain ⟨y, hy⟩ : ∃ y, Y % (q : Int) = y := ⟨_, rfl⟩
  rw [hx] at e1 ⊢
  rw [hy] at e2 ⊢
  rw [show val 1 s c0 X Y = (x * x + (s * (x * y) + c0 * (y * y))) + q * (2 * x * u + q * u * u + s * (x * v + y * u + q * u * v) + c0 * (2 * y * v + q * v * v)) by unfold val; rw [e1, e2]; grind, Int.add_mul_emod_self_left]
theorem negB_told {d q n : Nat} (hd : 2 < d) (h4 : d % 4 = 0 ∨ d % 4 = 3) (h : negB d q n = true) : Int.gcd n d = 1 ∧ ¬ Vm d 1 ((d % 2 : Nat) : Int) (((d + d % 2) / 4 : Nat) : Int) n := by
  unfold negB at h
  rw [Bool.and_eq_true, Bool.and_eq_true] at h
  obtain ⟨hg, hq, h⟩ := h
  have hg1 : Nat.gcd n d = 1 := Nat.eq_of_beq_eq_true hg
  have hqd : q ∣ d := Nat.dvd_of_mod_eq_zero (Nat.eq_of_beq_eq_true hq)
  refine ⟨by rw [Int.gcd_natCast_natCast]; exact hg1, fun hV => ?_⟩
  obtain ⟨X, Y, hXY⟩ := hV
  have hq0 : 0 < q := Nat.pos_of_ne_zero fun e => by subst e; have := Nat.eq_zero_of_zero_dvd hqd; omega
  obtain ⟨x, y, hx, hy, hv⟩ := low_val q hq0 (d % 2) ((d + d % 2) / 4) X Y
  have hqI : (q : Int) ∣ (d : Int) := Int.natCast_dvd_natCast.2 hqd
  have hmq : val 1 ((d % 2 : Nat) : Int) (((d + d % 2) / 4 : Nat) : Int) X Y % (q : Int) = (n : Int) % q := by
    rw [← Int.emod_emod_of_dvd _ hqI, hXY, Int.emod_emod_of_dvd _ hqI]
  rw [hv, ← Int.natCast_emod] at hmq
  have hmN : (x * x + (d % 2 * (x * y) + (d + d % 2) / 4 * (y * y))) % q = n % q := by exact_mod_cast hmq
  rcases (Bool.or_eq_true _ _).mp h with h | h
  · rw [Bool.and_eq_true] at h
    obtain ⟨hp, hpow⟩ := h
    obtain ⟨q', hq', he⟩ := List.any_eq_true.1 hp
    have e : q' = q := Nat.eq_of_beq_eq_true he
    subst e
    have h3 : 3 ≤ q' := Nat.le_of_ble_eq_true (List.all_eq_true.1 odd_ge q' hq')
    have hpw : n ^ ((q' - 1) / 2) % q' = q' - 1 := Nat.eq_of_beq_eq_true hpow
    have hn0 : n % q' ≠ 0 := fun e => by
      have h5 := Nat.dvd_gcd (Nat.dvd_of_mod_eq_zero e) hqd
      rw [hg1] at h5
      have := Nat.le_of_dvd (by omega) h5
      omega
    obtain ⟨z, hz⟩ : ∃ z, (2 * x + d % 2 * y) % q' = z := ⟨_, rfl⟩
    have hzq : z < q' := by rw [← hz]; exact Nat.mod_lt _ hq0
    have h4n : (4 * (n % q')) % q' = z * z % q' := by
      rw [← hz, ← Nat.mul_mod, Nat.mul_mod_mod]
      have hc0 : 4 * ((d + d % 2) / 4) = d + d % 2 := by omega
      obtain ⟨w, hw⟩ := hqd
      have hss : d % 2 * (d % 2) = d % 2 := by rcases Nat.mod_two_eq_zero_or_one d with k | k <;> rw [k]
      have e1 : 4 * (x * x + (d % 2 * (x * y) + (d + d % 2) / 4 * (y * y))) = (2 * x + d % 2 * y) * (2 * x + d % 2 * y) + q' * (w * (y * y)) := by
        obtain ⟨σ, hσ⟩ : ∃ σ, d % 2 = σ := ⟨_, rfl⟩
        rw [hσ] at hc0 hss ⊢
        obtain ⟨C, hC⟩ : ∃ C, (d + σ) / 4 = C := ⟨_, rfl⟩
        rw [hC] at hc0 ⊢
        have e2 : 4 * (C * (y * y)) = d * (y * y) + σ * (y * y) := by rw [← Nat.mul_assoc, hc0, Nat.add_mul]
        have e3 : (2 * x + σ * y) * (2 * x + σ * y) = 4 * (x * x) + 4 * (σ * (x * y)) + σ * σ * (y * y) := by grind
        have e4 : q' * (w * (y * y)) = d * (y * y) := by rw [hw, Nat.mul_assoc]
        rw [e3, hss, e4]
        omega
      rw [← Nat.mul_mod_mod 4 n q', ← hmN, Nat.mul_mod_mod, e1, Nat.add_mul_mod_self_left]
    have k1 := List.all_eq_true.1 (List.all_eq_true.1 (List.all_eq_true.1 oddsB_ok q' hq') (n % q') (List.mem_range.2 (Nat.mod_lt _ hq0))) z (List.mem_range.2 hzq)
    rcases (Bool.or_eq_true _ _).mp k1 with k | k
    · have : (!Nat.beq (4 * (n % q') % q') (z * z % q')) = true := k
      rw [h4n, show Nat.beq (z * z % q') (z * z % q') = true by rw [Nat.beq_eq]] at this
      cases this
    · rcases (Bool.or_eq_true _ _).mp k with k | k
      · exact hn0 (Nat.eq_of_beq_eq_true k)
      · have k2 : (n % q') ^ ((q' - 1) / 2) % q' = 1 := Nat.eq_of_beq_eq_true k
        rw [← Nat.pow_mod, hpw] at k2
        omega
  · rw [Bool.and_eq_true] at h
    have k1 := List.all_eq_true.1 (List.all_eq_true.1 h.2 x (List.mem_range.2 hx)) y (List.mem_range.2 hy)
    have k2 : (!Nat.beq ((x * x + (d % 2 * (x * y) + (d + d % 2) / 4 * (y * y))) % q) (n % q)) = true := k1
    rw [hmN, show Nat.beq (n % q) (n % q) = true by rw [Nat.beq_eq]] at k2
    cases k2

theorem code_ex {d A : Nat} {codes : List Nat} (hd : 0 < d) (h : gchk d A codes = true) {a b c : Int} (hC : Cls d a b c) : ∃ code ∈ codes, fld code 0 = a ∧ fld code 1 = b ∧ cz d a b = c := by
  unfold gchk at h
  rw [Bool.and_eq_true, Bool.and_eq_true] at h
  obtain ⟨hA, hcod, hp⟩ := h
  have hA' : d + 1 ≤ 3 * ((A + 1) * (A + 1)) := Nat.le_of_ble_eq_true hA
  obtain ⟨⟨r1, r2, r3, r4, r5⟩, hD, hg⟩ := hC
  have h4 : 4 * a * c = b * b + d := by omega
  have hbb : b * b ≤ a * a := by
    rcases Int.le_total 0 b with k | k
    · exact Int.mul_le_mul r3 r3 k (by omega)
    · have := Int.mul_le_mul (a := -b) (b := -b) (c := a) (d := a) (by omega) (by omega) (by omega) (by omega)
      rwa [Int.neg_mul_neg] at this
  have hac : a * a ≤ a * c := Int.mul_le_mul_of_nonneg_left r4 (by omega)
  have h4' : 4 * (a * c) = b * b + d := by rw [← Int.mul_assoc]; exact h4
  have haA : a ≤ A := by
    refine Int.not_lt.1 fun hlt => ?_
    have h9 : ((A : Int) + 1) * (A + 1) ≤ a * a := Int.mul_le_mul (by omega) (by omega) (by omega) (by omega)
    have h10 : (d : Int) + 1 ≤ 3 * (((A : Int) + 1) * (A + 1)) := by exact_mod_cast hA'
    omega
  have k := pairsB_told hp a.toNat (by omega) (by omega) b.natAbs (by omega)
  unfold pairB at k
  have e1 : b.natAbs * b.natAbs + d = 4 * a.toNat * c.toNat := by
    have q1 : ((b.natAbs * b.natAbs : Nat) : Int) = b * b := by rw [Int.natCast_mul]; exact Int.natAbs_mul_self' b
    have q2 : ((4 * a.toNat * c.toNat : Nat) : Int) = 4 * a * c := by rw [Int.natCast_mul, Int.natCast_mul, Int.toNat_of_nonneg (by omega), Int.toNat_of_nonneg (by omega)]; rfl
    omega
  have e2 : Nat.div (Nat.add (Nat.mul b.natAbs b.natAbs) d) (Nat.mul 4 a.toNat) = c.toNat := by
    show (b.natAbs * b.natAbs + d) / (4 * a.toNat) = c.toNat
    rw [e1]
    exact Nat.mul_div_cancel_left _ (by omega)
  have e3 : Nat.mod (Nat.add (Nat.mul b.natAbs b.natAbs) d) (Nat.mul 4 a.toNat) = 0 := by
    show (b.natAbs * b.natAbs + d) % (4 * a.toNat) = 0
    rw [e1]
    exact Nat.mul_mod_right _ _
  rw [e2, e3] at k
  have k' : (Nat.blt c.toNat a.toNat || (!(Nat.gcd a.toNat (Nat.gcd b.natAbs c.toNat)).beq 1 || (bit (maskF codes) (64 * a.toNat + (b.natAbs + 32)) && (Nat.beq a.toNat b.natAbs || (Nat.beq a.toNat c.toNat || bit (maskF codes) (64 * a.toNat + 32 - b.natAbs)))))) = true := k
  rw [show Nat.blt c.toNat a.toNat = false from Bool.eq_false_iff.2 fun h => by have : c.toNat + 1 ≤ a.toNat := Nat.le_of_ble_eq_true h; omega, Bool.false_or] at k'
  have e4 : Nat.gcd a.toNat (Nat.gcd b.natAbs c.toNat) = 1 := by
    have : Int.gcd a (Int.gcd b c) = Nat.gcd a.natAbs (Nat.gcd b.natAbs c.natAbs) := rfl
    rw [this] at hg
    rwa [show a.toNat = a.natAbs by omega, show c.toNat = c.natAbs by omega]
  rw [e4, show (!Nat.beq 1 1) = false from rfl, Bool.false_or, Bool.and_eq_true] at k'
  have hbit : bit (maskF codes) (pos a b) = true := by
    rcases Int.le_total 0 b with hb | hb
    · have e5 : pos a b = 64 * a.toNat + (b.natAbs + 32) := by unfold pos; omega
      rw [e5]; exact k'.1
    · by_cases hb0 : b = 0
      · have e5 : pos a b = 64 * a.toNat + (b.natAbs + 32) := by unfold pos; omega
        rw [e5]; exact k'.1
      · rcases (Bool.or_eq_true _ _).mp k'.2 with h | h
        · have : a.toNat = b.natAbs := Nat.eq_of_beq_eq_true h
          omega
        · rcases (Bool.or_eq_true _ _).mp h with h | h
          · have h11 : a.toNat = c.toNat := Nat.eq_of_beq_eq_true h
            have := r5 (by omega)
            omega
          · have e5 : pos a b = 64 * a.toNat + 32 - b.natAbs := by unfold pos; omega
            rw [e5]; exact h
  obtain ⟨code, hmem, hpos⟩ := maskF_ex hbit
  have G := cert_told hd (codesB_told hcod code hmem).1
  refine ⟨code, hmem, ?_⟩
  have hlo := G.lo
  have hhi := G.hi
  have hg1 := G.a1
  have hg30 := G.a30
  have hpos' : 64 * fld code 0 + fld code 1 + 32 = 64 * a + b + 32 := by
    unfold pos at hpos
    omega
  have ha30 : a ≤ 31 := by omega
  have : fld code 0 = a ∧ fld code 1 = b := by omega
  refine ⟨this.1, this.2, ?_⟩
  unfold cz
  rw [← h4]
  exact Int.mul_ediv_cancel_left _ (by omega)
/-- GAUSS: a form is a square just if it takes what the first form takes -/
theorem duplication {d A : Nat} {codes : List Nat} (hd : 2 < d) (h4 : d % 4 = 0 ∨ d % 4 = 3) (h : gchk d A codes = true) {a b c : Int} (hC : Cls d a b c) :
    (∃ a' b' c', Cls d a' b' c' ∧ Sim (-(d : Int)) (Pr (-(d : Int)) (Lf a' b') (Lf a' b')) (Lf a b)) ↔ ∀ m : Int, Int.gcd m d = 1 → (Vm d a b c m ↔ Vm d 1 ((d % 2 : Nat) : Int) (((d + d % 2) / 4 : Nat) : Int) m) := by
  have hF : Fst (-(d : Int)) ((d % 2 : Nat) : Int) (((d + d % 2) / 4 : Nat) : Int) := ⟨by omega, by omega⟩
  have hn : -(d : Int) < 0 := by omega
  have hcod : codesB d (maskS d codes) codes = true := by
    unfold gchk at h
    rw [Bool.and_eq_true, Bool.and_eq_true] at h
    exact h.2.1
  constructor
  · rintro ⟨a', b', c', hC', hS⟩ m _
    obtain ⟨code, hmem, rfl, rfl, ec⟩ := code_ex (by omega) h hC'
    have G := cert_told (by omega) (codesB_told hcod code hmem).1
    obtain ⟨e1, e2, e3⟩ := sim_unique hn G.rD hC.2.1 G.red hC.1 (G.sim.symm.trans hn hS)
    obtain ⟨n1, n2, hg, v1, v2, v3⟩ := G.n
    rw [e3, e1, e2] at v3
    exact coset hF hC.2.1 hg v3 (Vm.mul hF G.hD v1 v2) m
  · intro hall
    obtain ⟨code, hmem, ea, eb, ec⟩ := code_ex (by omega) h hC
    rcases (codesB_told hcod code hmem).2 with hb | hneg
    · obtain ⟨code', hmem', hpos⟩ := maskS_ex hb
      have G := cert_told (by omega) (codesB_told hcod code hmem).1
      have G' := cert_told (by omega) (codesB_told hcod code' hmem').1
      have r1 := G'.red.lo
      have r2 := G'.red.hi
      have r3 := G'.red.pos
      have r4 := G'.r30
      have g1 := G.lo
      have g2 := G.hi
      have g3 := G.a1
      have g4 := G.a30
      have hp2 : 64 * cRa d code' + cRb d code' + 32 = 64 * fld code 0 + fld code 1 + 32 := by
        unfold pos at hpos
        omega
      have : cRa d code' = fld code 0 ∧ cRb d code' = fld code 1 := by omega
      exact ⟨_, _, _, G'.cls, by rw [← ea, ← eb, ← this.1, ← this.2]; exact G'.sim⟩
    · obtain ⟨hg, hV⟩ := negB_told hd h4 hneg
      refine absurd ((hall _ hg).1 ?_) hV
      subst ea eb ec
      have h0 : 0 ≤ tA (fld code 0) (fld code 1) (cz d (fld code 0) (fld code 1)) (fld code 16) (fld code 17) := by
        refine Int.not_lt.1 fun hlt => ?_
        have e0 : cn d code = 0 := by unfold cn; omega
        rw [e0] at hg
        have : Int.gcd ((0 : Nat) : Int) d = d := by rw [Int.gcd_natCast_natCast, Nat.gcd_zero_left]
        omega
      unfold cn
      rw [Int.toNat_of_nonneg h0]
      exact ⟨fld code 16, fld code 17, rfl⟩
end GN
end Go.Proofs.Ytkfjjljdhfjpbaa

namespace Go.Proofs.Ytkfjjljdhfjpbaa

/-- the form with a and b of discriminant d is one of the reduced ones (d below 0) -/
def okF (d a b : Int) : Bool := decide ((4 * a ∣ b * b - d) ∧ -a < b ∧ b ≤ a ∧ a ≤ (b * b - d) / (4 * a) ∧ ¬ ((b * b - d) / (4 * a) = a ∧ b < 0) ∧ Int.gcd a (Int.gcd b ((b * b - d) / (4 * a))) = 1)
def frm (d a b : Int) : Int × Int × Int := (a, b, (b * b - d) / (4 * a))
/-- of one a: b from -a on, j of them -/
def rowF (d a : Int) : Nat → List (Int × Int × Int)
  | 0 => []
  | j + 1 => rowF d a j ++ if okF d a (-a + j) = true then [frm d a (-a + j)] else []
/-- all of a from 1 on, n of them -/
def allF (d : Int) : Nat → List (Int × Int × Int)
  | 0 => []
  | n + 1 => allF d n ++ rowF d ((n : Int) + 1) (2 * (n + 1) + 1)

theorem okF_first (d a : Int) : okF d a (-a) = false := by
  unfold okF; rw [decide_eq_false_iff_not]; omega
theorem rowF_one (d a : Int) : rowF d a 1 = [] := by
  rw [rowF, rowF, show -a + ((0 : Nat) : Int) = -a from by omega, okF_first]; rfl
theorem rowF_len (d a : Int) (j : Nat) : (rowF d a j).length ≤ j := by
  induction j with
  | zero => simp [rowF]
  | succ j ih => rw [rowF, List.length_append]; split <;> simp <;> omega
theorem allF_len (d : Int) (n : Nat) : (allF d n).length ≤ n * (2 * n + 1) := by
  induction n with
  | zero => simp [allF]
  | succ n ih =>
    rw [allF, List.length_append]
    have := rowF_len d ((n : Int) + 1) (2 * (n + 1) + 1)
    have h2 : (n + 1) * (2 * (n + 1) + 1) = n * (2 * n + 1) + (4 * n + 3) := by grind
    omega
end Go.Proofs.Ytkfjjljdhfjpbaa

