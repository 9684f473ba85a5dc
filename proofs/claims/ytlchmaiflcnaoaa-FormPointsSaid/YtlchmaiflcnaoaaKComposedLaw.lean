/- The plain law of the answers' ReducedOf and Composed. -/
import Derived.Test.YtlchmaiflcnaoaaK0
namespace Go.Proofs.Ytlchmaiflcnaoaa

/-- what holds at the head of a round of ReducedOf: a form of the discriminant D whose lattice is a multiple of that of (a, b) -/
structure OInv (D a b c A B C : Int) : Prop where
  a1 : 1 ≤ A
  c1 : 1 ≤ C
  b1 : -2000000000 ≤ B
  b2 : B ≤ 2000000000
  d : D = B * B - 4 * A * C
  sim : Sim D (Lf a b) (Lf A B)
  g : ∀ t : Int, (t ∣ A ∧ t ∣ B ∧ t ∣ C) ↔ (t ∣ a ∧ t ∣ b ∧ t ∣ c)

theorem OInv.start {D a b c : Int} (h1 : 1 ≤ a) (h2 : 1 ≤ c) (h3 : -2000000000 ≤ b) (h4 : b ≤ 2000000000) (hD : D = b * b - 4 * a * c) : OInv D a b c a b c := ⟨h1, h2, h3, h4, hD, Sim.refl _ _, fun _ => Iff.rfl⟩
theorem sq_up {x N : Int} (h1 : -N ≤ x) (h2 : x ≤ N) : x * x ≤ N * N := by
  rcases Int.lt_or_le x 0 with h | h
  · have := Int.mul_le_mul (show -x ≤ N by omega) (show -x ≤ N by omega) (by omega) (by omega)
    grind
  · exact Int.mul_le_mul h2 h2 h (by omega)

theorem OInv.big {D a b c A B C : Int} (h : OInv D a b c A B C) (hlow : -5000000000000 ≤ D) : A ≤ 1100000000000000000 ∧ C ≤ 1100000000000000000 := by
  obtain ⟨a1, c1, b1, b2, d, _, _⟩ := h
  have e1 := sq_up (x := B) (N := 2000000000) (by omega) b2
  have e2 : A * 1 ≤ A * C := Int.mul_le_mul_of_nonneg_left c1 (by omega)
  have e3 : 1 * C ≤ A * C := Int.mul_le_mul_of_nonneg_right a1 (by omega)
  rw [Int.mul_assoc 4 A C] at d
  omega

theorem OInv.swap {D a b c A B C : Int} (h : OInv D a b c A B C) (hD : D < 0) : OInv D a b c C (-B) A := by
  obtain ⟨a1, c1, b1, b2, d, s, g⟩ := h
  refine ⟨c1, a1, by omega, by omega, by rw [d]; grind, s.trans hD ?_, fun t => ?_⟩
  rotate_left
  · rw [← g, Int.dvd_neg]
    exact ⟨fun ⟨h1, h2, h3⟩ => ⟨h3, h2, h1⟩, fun ⟨h1, h2, h3⟩ => ⟨h3, h2, h1⟩⟩
  have := sim_turn (a := A) (b := B) (c := C) (A := C) (B := -B) (p := 0) (q := -1) (r := 1) (s := 0) (by omega) (by grind) (by grind) (by omega) (by omega)
  rwa [← d] at this

theorem dvd_lin2 {t x y z : Int} (k l : Int) (h1 : t ∣ x) (h2 : t ∣ y) (h : z = x * k + y * l) : t ∣ z := by
  rw [h]; exact Int.dvd_add (Int.dvd_mul_of_dvd_left h1) (Int.dvd_mul_of_dvd_left h2)
theorem OInv.step {D a b c A B C k : Int} (h : OInv D a b c A B C) (hD : D < 0) (h1 : -2000000000 ≤ B + 2 * k * A) (h2 : B + 2 * k * A ≤ 2000000000) : OInv D a b c A (B + 2 * k * A) (C + k * B + k * k * A) := by
  obtain ⟨a1, c1, b1, b2, d, s, g⟩ := h
  have dd : D = (B + 2 * k * A) * (B + 2 * k * A) - 4 * A * (C + k * B + k * k * A) := by rw [d]; grind
  refine ⟨a1, ?_, h1, h2, dd, s.trans hD ?_, fun t => ?_⟩
  · rcases Int.lt_or_le (C + k * B + k * k * A) 1 with h | h
    · have h1 : 4 * A * (C + k * B + k * k * A) ≤ 4 * A * 0 := Int.mul_le_mul_of_nonneg_left (by omega) (by omega)
      have := sq_nn (B + 2 * k * A)
      omega
    · exact h
  · have := sim_turn (a := A) (b := B) (c := C) (A := A) (B := B + 2 * k * A) (p := 1) (q := k) (r := 0) (s := 1) (by omega) (by grind) (by grind) (by omega) (by omega)
    rwa [← d] at this
  · rw [← g]
    constructor
    · rintro ⟨h1, h2, h3⟩
      have h4 : t ∣ B := dvd_lin2 (-2 * k) 1 h1 h2 (by grind)
      refine ⟨h1, h4, dvd_lin2 (-k) 1 (dvd_lin2 k 1 h1 h4 (by grind) : t ∣ B + k * A) h3 (by grind)⟩
    · rintro ⟨h1, h2, h3⟩
      refine ⟨h1, dvd_lin2 (2 * k) 1 h1 h2 (by grind), dvd_lin2 k 1 (dvd_lin2 k 1 h1 h2 (by grind) : t ∣ B + k * A) h3 (by grind)⟩

/-- the k of a round of ReducedOf -/
def ofk (A B : Int) : Int := if B.natAbs < 2 * A.natAbs then (if A < B then -1 else 1) else (-B).tdiv (2 * A)
theorem ofk_small {A B : Int} (hA : 1 ≤ A) (h : A < B ∨ B ≤ -A) :
    (B + 2 * ofk A B * A).natAbs ≤ B.natAbs ∧ ((B + 2 * ofk A B * A).natAbs = B.natAbs → B < 0 ∧ 0 ≤ B + 2 * ofk A B * A) ∧ -1000000000 - B.natAbs ≤ ofk A B * 1 ∧ (ofk A B).natAbs * 2 ≤ B.natAbs + 2 := by
  unfold ofk
  split
  · rename_i h1
    split
    · refine ⟨?_, ?_, ?_, ?_⟩ <;> omega
    · refine ⟨?_, ?_, ?_, ?_⟩ <;> omega
  · rename_i h1
    have e := Int.mul_tdiv_add_tmod (-B) (2 * A)
    have e2 : 2 * ((-B).tdiv (2 * A)) * A = 2 * A * (-B).tdiv (2 * A) := by grind
    have e3 : ((-B).tmod (2 * A)).natAbs < 2 * A.natAbs := by
      rw [Int.natAbs_tmod]
      have := Nat.mod_lt (-B).natAbs (show 0 < (2 * A).natAbs by omega)
      omega
    have e4 : ((-B).tdiv (2 * A)).natAbs * 2 ≤ B.natAbs := by
      rw [Int.natAbs_tdiv]
      have h2 := Nat.div_mul_le_self (-B).natAbs (2 * A).natAbs
      have h3 : (-B).natAbs.div (2 * A).natAbs = (-B).natAbs / (2 * A).natAbs := rfl
      rw [h3]
      have h4 := Nat.mul_le_mul_left ((-B).natAbs / (2 * A).natAbs) (show 2 ≤ (2 * A).natAbs by omega)
      omega
    rw [e2]
    generalize (-B).tdiv (2 * A) = k at e e4 ⊢
    generalize (-B).tmod (2 * A) = m at e e3
    generalize 2 * A * k = n at e ⊢
    refine ⟨?_, ?_, ?_, ?_⟩ <;> omega

/-- a measure that each round of ReducedOf lowers -/
def ofm (A B : Int) : Nat := 8000000000 * A.toNat + 2 * B.natAbs + if B < 0 then 1 else 0
theorem ofm_swap {A B C : Int} (h1 : 1 ≤ C) (h2 : C < A) (h3 : -2000000000 ≤ B) (h4 : B ≤ 2000000000) : ofm C (-B) < ofm A B := by
  unfold ofm
  split <;> split <;> omega
theorem ofm_turn {A B C : Int} (h1 : A = C) (h2 : B < 0) : ofm C (-B) < ofm A B := by
  unfold ofm
  rw [h1, if_neg (by omega), if_pos h2]
  omega
theorem ofm_step {A B : Int} (hA : 1 ≤ A) (h : A < B ∨ B ≤ -A) : ofm A (B + 2 * ofk A B * A) < ofm A B := by
  obtain ⟨h1, h2, _⟩ := ofk_small hA h
  unfold ofm
  generalize B + 2 * ofk A B * A = b at h1 h2
  split <;> split <;> omega

/-! a pair (x, y) without common factors at which the second form's value has none with the first one's A -/
def prms : List Nat := [2, 3, 5, 7, 11, 13, 17, 19, 23, 29, 31, 37, 41, 43, 47, 53, 59, 61, 67, 71, 73, 79]
def psOf (a : Nat) : List Nat := prms.filter fun p => a % p == 0
def chs : List Nat → List (List (Nat × Nat))
  | [] => [[]]
  | p :: ps => (chs ps).flatMap fun l => [(p, 1) :: l, (p, 2) :: l, (p, 3) :: l]
def okc (x y : Nat) (z : Nat × Nat) : Bool := if z.2 == 1 then y % z.1 == 0 && x % z.1 != 0 else if z.2 == 2 then x % z.1 == 0 && y % z.1 != 0 else x % z.1 != 0 && y % z.1 != 0
def chk3 : Bool := (List.range 82).all fun a => a == 0 || (chs (psOf a)).all fun l => (List.range 42).any fun x => (List.range (42 - x)).any fun y => Nat.gcd x y == 1 && l.all (okc x y)
set_option maxRecDepth 100000 in
theorem chk3_true : chk3 = true := by decide +kernel
def chk1 : Bool := prms.all fun p => (List.range 82).all fun d => p % d != 0 || d == 1 || d == p || d == 0
set_option maxRecDepth 100000 in
theorem chk1_true : chk1 = true := by decide +kernel
def chk2 : Bool := (List.range 82).all fun d => d < 2 || prms.any fun p => d % p == 0
set_option maxRecDepth 100000 in
theorem chk2_true : chk2 = true := by decide +kernel

theorem prm_lt {p : Nat} (h : p ∈ prms) : 2 ≤ p ∧ p < 82 := by
  have : prms.all (fun p => decide (2 ≤ p ∧ p < 82)) = true := by decide
  have := List.all_eq_true.1 this p h
  simpa using this
theorem prm_dvd {p m n : Nat} (h : p ∈ prms) (hd : p ∣ m * n) : p ∣ m ∨ p ∣ n := by
  have h1 := List.all_eq_true.1 chk1_true p h
  have hp := prm_lt h
  have hg : Nat.gcd p m ∣ p := Nat.gcd_dvd_left ..
  have hle := Nat.le_of_dvd (by omega) hg
  have h2 := List.all_eq_true.1 h1 (Nat.gcd p m) (List.mem_range.2 (by omega))
  have h3 : p % Nat.gcd p m = 0 := Nat.mod_eq_zero_of_dvd hg
  have h4 : Nat.gcd p m ≠ 0 := fun e => by
    have := Nat.eq_zero_of_gcd_eq_zero_left e
    omega
  simp [h3, h4] at h2
  rcases h2 with h2 | h2
  · exact .inr (Nat.Coprime.dvd_of_dvd_mul_left h2 hd)
  · exact .inl (by rw [← h2]; exact Nat.gcd_dvd_right ..)
theorem iprm_dvd {p : Nat} {m n : Int} (h : p ∈ prms) (hd : (p : Int) ∣ m * n) : (p : Int) ∣ m ∨ (p : Int) ∣ n := by
  have h1 := Int.natAbs_dvd_natAbs.2 hd
  rw [Int.natAbs_mul, Int.natAbs_natCast] at h1
  rcases prm_dvd h h1 with h2 | h2
  · exact .inl (Int.natAbs_dvd_natAbs.1 (by rw [Int.natAbs_natCast]; exact h2))
  · exact .inr (Int.natAbs_dvd_natAbs.1 (by rw [Int.natAbs_natCast]; exact h2))
theorem chs_mem (f : Nat → Nat) (hf : ∀ p, f p = 1 ∨ f p = 2 ∨ f p = 3) (ps : List Nat) : (ps.map fun p => (p, f p)) ∈ chs ps := by
  induction ps with
  | nil => simp [chs]
  | cons p ps ih =>
    rw [chs, List.mem_flatMap]
    refine ⟨_, ih, ?_⟩
    rcases hf p with h | h | h <;> simp [h]
open Classical in
/-- what p is to the form -/
noncomputable def chOf (a c : Int) (p : Nat) : Nat := if ¬ (p : Int) ∣ a then 1 else if ¬ (p : Int) ∣ c then 2 else 3
theorem chOf_cases (a c : Int) (p : Nat) : chOf a c p = 1 ∨ chOf a c p = 2 ∨ chOf a c p = 3 := by
  unfold chOf
  split
  · exact .inl rfl
  · split
    · exact .inr (.inl rfl)
    · exact .inr (.inr rfl)
theorem good_pair {a a2 b2 c2 : Int} (h1 : 1 ≤ a) (h2 : a ≤ 81) (hg : ∃ x y z : Int, x * a2 + y * b2 + z * c2 = 1) :
    ∃ x y : Int, 0 ≤ x ∧ 0 ≤ y ∧ x + y ≤ 41 ∧ Int.gcd x y = 1 ∧ Int.gcd (a2 * x * x + b2 * x * y + c2 * y * y) a = 1 := by
  obtain ⟨n, hn⟩ : ∃ n : Nat, a = n := ⟨a.toNat, by omega⟩
  have c1 := List.all_eq_true.1 chk3_true n (List.mem_range.2 (by omega))
  have hn0 : (n == 0) = false := by simp; omega
  rw [hn0, Bool.false_or] at c1
  have c2' := List.all_eq_true.1 c1 _ (chs_mem (chOf a2 c2) (chOf_cases a2 c2) (psOf n))
  obtain ⟨x, hx, c3⟩ := List.any_eq_true.1 c2'
  obtain ⟨y, hy, c4⟩ := List.any_eq_true.1 c3
  rw [List.mem_range] at hx hy
  rw [Bool.and_eq_true] at c4
  obtain ⟨c4, c5⟩ := c4
  refine ⟨x, y, by omega, by omega, by omega, by simpa using c4, ?_⟩
  apply Classical.byContradiction
  intro hne
  obtain ⟨d, hd⟩ : ∃ d, Int.gcd (a2 * x * x + b2 * x * y + c2 * y * y) a = d := ⟨_, rfl⟩
  rw [hd] at hne
  have d1 : (d : Int) ∣ a2 * x * x + b2 * x * y + c2 * y * y := by rw [← hd]; exact Int.gcd_dvd_left ..
  have d2 : (d : Int) ∣ a := by rw [← hd]; exact Int.gcd_dvd_right ..
  have d3 : d ∣ n := by rw [hn] at d2; exact Int.natCast_dvd_natCast.1 d2
  have d4 := Nat.le_of_dvd (by omega) d3
  have d5 : d ≠ 0 := fun e => by rw [e] at d3; have := Nat.eq_zero_of_zero_dvd d3; omega
  have c6 := List.all_eq_true.1 chk2_true d (List.mem_range.2 (by omega))
  have hd2 : decide (d < 2) = false := by simp; omega
  rw [hd2, Bool.false_or] at c6
  obtain ⟨p, hp, c7⟩ := List.any_eq_true.1 c6
  have p1 : p ∣ d := Nat.dvd_of_mod_eq_zero (by simpa using c7)
  have p2 : p ∣ n := Nat.dvd_trans p1 d3
  have p3 : (p : Int) ∣ a2 * x * x + b2 * x * y + c2 * y * y := Int.dvd_trans (Int.natCast_dvd_natCast.2 p1) d1
  have p4 : p ∈ psOf n := List.mem_filter.2 ⟨hp, by simpa using Nat.mod_eq_zero_of_dvd p2⟩
  have c8 := List.all_eq_true.1 c5 _ (List.mem_map.2 ⟨p, p4, rfl⟩)
  have nd : ∀ z : Nat, z % p ≠ 0 → ¬ (p : Int) ∣ (z : Int) := fun z hz hc => hz (Nat.mod_eq_zero_of_dvd (Int.natCast_dvd_natCast.1 hc))
  have yd : ∀ z : Nat, z % p = 0 → (p : Int) ∣ (z : Int) := fun z hz => Int.natCast_dvd_natCast.2 (Nat.dvd_of_mod_eq_zero hz)
  unfold okc at c8
  by_cases k1 : (p : Int) ∣ a2
  · by_cases k2 : (p : Int) ∣ c2
    · -- both ends are 0: the middle is not
      have hc : chOf a2 c2 p = 3 := by unfold chOf; rw [if_neg (by simpa using k1), if_neg (by simpa using k2)]
      rw [hc] at c8
      simp at c8
      obtain ⟨e1, e2⟩ := c8
      have k3 : (p : Int) ∣ b2 * x * y := by
        have m1 : (p : Int) ∣ a2 * x * x := by rw [Int.mul_assoc]; exact Int.dvd_mul_of_dvd_left k1
        have m2 : (p : Int) ∣ c2 * y * y := by rw [Int.mul_assoc]; exact Int.dvd_mul_of_dvd_left k2
        have m3 := Int.dvd_sub (Int.dvd_sub p3 m1) m2
        have m4 : a2 * ↑x * ↑x + b2 * ↑x * ↑y + c2 * ↑y * ↑y - a2 * ↑x * ↑x - c2 * ↑y * ↑y = b2 * x * y := by omega
        rwa [m4] at m3
      rcases iprm_dvd hp k3 with k4 | k4
      · rcases iprm_dvd hp k4 with k5 | k5
        · obtain ⟨u, v, z, huv⟩ := hg
          have m1 : (p : Int) ∣ u * a2 + v * b2 + z * c2 := Int.dvd_add (Int.dvd_add (Int.dvd_mul_of_dvd_right k1) (Int.dvd_mul_of_dvd_right k5)) (Int.dvd_mul_of_dvd_right k2)
          rw [huv] at m1
          have m2 := Int.le_of_dvd (by omega) m1
          have := prm_lt hp
          omega
        · exact nd x e1 k5
      · exact nd y e2 k4
    · have hc : chOf a2 c2 p = 2 := by unfold chOf; rw [if_neg (by simpa using k1), if_pos k2]
      rw [hc] at c8
      simp at c8
      obtain ⟨e1, e2⟩ := c8
      have k3 : (p : Int) ∣ c2 * y * y := by
        have m1 : (p : Int) ∣ a2 * x * x := Int.dvd_mul_of_dvd_right (yd x e1)
        have m2 : (p : Int) ∣ b2 * x * y := by rw [Int.mul_assoc, Int.mul_comm (x : Int) y, ← Int.mul_assoc]; exact Int.dvd_mul_of_dvd_right (yd x e1)
        have m3 := Int.dvd_sub (Int.dvd_sub p3 m1) m2
        have m4 : a2 * ↑x * ↑x + b2 * ↑x * ↑y + c2 * ↑y * ↑y - a2 * ↑x * ↑x - b2 * ↑x * ↑y = c2 * y * y := by omega
        rwa [m4] at m3
      rcases iprm_dvd hp k3 with k4 | k4
      · rcases iprm_dvd hp k4 with k5 | k5
        · exact k2 k5
        · exact nd y e2 k5
      · exact nd y e2 k4
  · have hc : chOf a2 c2 p = 1 := by unfold chOf; rw [if_pos k1]
    rw [hc] at c8
    simp at c8
    obtain ⟨e1, e2⟩ := c8
    have k3 : (p : Int) ∣ a2 * x * x := by
      have m1 : (p : Int) ∣ b2 * x * y := Int.dvd_mul_of_dvd_right (yd y e1)
      have m2 : (p : Int) ∣ c2 * y * y := Int.dvd_mul_of_dvd_right (yd y e1)
      have m3 := Int.dvd_sub (Int.dvd_sub p3 m1) m2
      have m4 : a2 * ↑x * ↑x + b2 * ↑x * ↑y + c2 * ↑y * ↑y - b2 * ↑x * ↑y - c2 * ↑y * ↑y = a2 * x * x := by omega
      rwa [m4] at m3
    rcases iprm_dvd hp k3 with k4 | k4
    · rcases iprm_dvd hp k4 with k5 | k5
      · exact k1 k5
      · exact nd x e2 k5
    · exact nd x e2 k4

/-- numbers r, s near by with x s - y r = 1 -/
theorem turn_pair {x y : Int} (hx : 0 ≤ x) (hy : 0 ≤ y) (hg : Int.gcd x y = 1) : ∃ r s : Int, x * s - y * r = 1 ∧ -(x + y) ≤ r ∧ r ≤ x + y + 1 ∧ -(x + y) ≤ s ∧ s ≤ x + y + 1 := by
  by_cases h0 : y = 0
  · subst h0
    have : x = 1 := by
      rw [Int.gcd_zero] at hg
      omega
    subst this
    exact ⟨0, 1, by omega, by omega, by omega, by omega, by omega⟩
  · obtain ⟨u, v, huv⟩ := ibez x y
    rw [hg] at huv
    have h1 := Int.emod_nonneg u (b := y) h0
    have h2 := Int.emod_lt_of_pos u (b := y) (by omega)
    have h3 := Int.mul_ediv_add_emod u y
    generalize u % y = s at h1 h2 h3
    generalize u / y = q at h3
    have e : x * s - y * (-v - x * q) = 1 := by
      have : x * s - y * (-v - x * q) = (y * q + s) * x + v * y := by grind
      rw [this, h3, huv]; rfl
    obtain ⟨r, hr⟩ : ∃ r, -v - x * q = r := ⟨_, rfl⟩
    rw [hr] at e
    have e1 : 0 ≤ x * s := Int.mul_nonneg hx h1
    have e2 : x * s ≤ x * y := Int.mul_le_mul_of_nonneg_left (by omega) hx
    have e3 : -1 ≤ r := by
      rcases Int.lt_or_le r (-1) with h | h
      · have := Int.mul_le_mul_of_nonneg_left (show r ≤ -2 by omega) hy
        omega
      · exact h
    have e4 : r ≤ x := by
      rcases Int.lt_or_le x r with h | h
      · have := Int.mul_le_mul_of_nonneg_left (show x + 1 ≤ r by omega) hy
        have e5 : y * (x + 1) = x * y + y := by grind
        omega
      · exact h
    exact ⟨r, s, e, by omega, by omega, by omega, by omega⟩

/-- one b for both forms -/
theorem one_b {a A B0 B e : Int} (hA : 1 ≤ A) (hg : Int.gcd A a = 1) (he : B0 - B = 2 * e) : ∃ J : Int, 0 ≤ J ∧ J < A ∧ (B0 + 2 * a * J - B) % (2 * A) = 0 := by
  obtain ⟨u, v, huv⟩ := ibez A a
  rw [hg] at huv
  have h1 := Int.emod_nonneg (-(e * v)) (b := A) (by omega)
  have h2 := Int.emod_lt_of_pos (-(e * v)) (b := A) (by omega)
  have h3 := Int.mul_ediv_add_emod (-(e * v)) A
  generalize (-(e * v)) % A = J at h1 h2 h3
  generalize (-(e * v)) / A = q at h3
  refine ⟨J, h1, h2, ?_⟩
  have hJ : J = -(e * v) - A * q := by omega
  have e1 : B0 + 2 * a * J - B = 2 * A * (e * u - a * q) := by
    have : B0 + 2 * a * J - B = 2 * (e + a * J) := by rw [show B0 + 2 * a * J - B = (B0 - B) + 2 * a * J by omega, he]; grind
    rw [this, hJ]
    have e5 : e = e * (u * A + v * a) := by rw [huv]; grind
    have e6 : e + a * (-(e * v) - A * q) = e * (u * A + v * a) + a * (-(e * v) - A * q) := by rw [← e5]
    rw [e6]; grind
  rw [e1]
  exact Int.mul_emod_right ..

/-- two concordant forms: the composed one -/
theorem conc_sim {a1 b1 c1 A B C b D : Int} (hD1 : D = b1 * b1 - 4 * a1 * c1) (hD2 : D = B * B - 4 * A * C) (ha : 1 ≤ a1) (hg : Int.gcd A a1 = 1) (h1 : ∃ t, b - b1 = 2 * a1 * t) (h2 : ∃ r, b - B = 2 * A * r) :
    (∃ c, b * b - D = 4 * a1 * A * c) ∧ Sim D (Pr D (Lf a1 b1) (Lf A B)) (Lf (a1 * A) b) := by
  obtain ⟨t, ht⟩ := h1
  obtain ⟨r, hr⟩ := h2
  obtain ⟨y1, z1, hyz⟩ := ibez A a1
  rw [hg] at hyz
  obtain ⟨n, hn⟩ : ∃ n, a1 * t - A * r = n := ⟨_, rfl⟩
  have e3 : B - b1 = 2 * n := by
    have q1 : 2 * a1 * t = 2 * (a1 * t) := by grind
    have q2 : 2 * A * r = 2 * (A * r) := by grind
    omega
  have hns : n * (B - n) = A * C - a1 * c1 := by
    have hb1 : b1 = B - 2 * n := by omega
    have h4 : 4 * (n * (B - n)) = 4 * (A * C - a1 * c1) := by
      have := hD1.symm.trans hD2
      rw [hb1] at this
      grind
    omega
  have h5 : A * (C + r * (B - n)) = a1 * (c1 + t * (B - n)) := by
    have : A * (C + r * (B - n)) = A * C + (A * r) * (B - n) := by grind
    rw [this, show A * r = a1 * t - n by omega]
    grind
  obtain ⟨u, hu⟩ : ∃ u, u = y1 * (c1 + t * (B - n)) + z1 * (C + r * (B - n)) := ⟨_, rfl⟩
  have e8 : a1 * u = C + r * (B - n) := by
    have : a1 * u = y1 * (a1 * (c1 + t * (B - n))) + z1 * a1 * (C + r * (B - n)) := by rw [hu]; grind
    rw [this, ← h5]
    have : y1 * (A * (C + r * (B - n))) + z1 * a1 * (C + r * (B - n)) = (y1 * A + z1 * a1) * (C + r * (B - n)) := by grind
    rw [this, hyz]; grind
  have hC : Comp a1 b1 c1 A B C D 1 a1 A r (B - n) n t u z1 0 y1 1 1 := by
    refine ⟨by omega, by omega, by omega, by omega, hD2, hD1, by omega, e8, by omega, ?_⟩
    rw [hyz]; rfl
  have hb : B + 2 * A * r = b := by omega
  have hs := comp_sim (k1 := 1) (k2 := 0) (k3 := 0) (k4 := 0) hC (by omega) (by omega) (by omega)
  have ht := (comp_third hC).2
  rw [hb] at hs ht
  refine ⟨⟨1 * u + r * t, ?_⟩, hs⟩
  rw [← ht]; grind
/-- a reduced form of a small discriminant is small -/
theorem small_form {a b c D : Int} (h : RedF a b c) (hD : D = b * b - 4 * a * c) (hlow : -20000 ≤ D) : 1 ≤ a ∧ a ≤ 81 ∧ -81 ≤ b ∧ b ≤ 81 ∧ 1 ≤ c ∧ c ≤ 6666 := by
  obtain ⟨h0, h1, h2, h3, _⟩ := h
  have e1 := sq_up (x := b) (N := a) (by omega) h2
  have e2 : a * a ≤ a * c := Int.mul_le_mul_of_nonneg_left h3 (by omega)
  rw [Int.mul_assoc 4 a c] at hD
  have e3 : 1 * c ≤ a * c := Int.mul_le_mul_of_nonneg_right (by omega) (by omega)
  have ha : a ≤ 81 := by
    rcases Int.lt_or_le 81 a with h | h
    · have := Int.mul_le_mul (show 82 ≤ a by omega) (show 82 ≤ a by omega) (by omega) (by omega)
      omega
    · exact h
  omega
/-- the second form turned -/
def tA (a b c x y : Int) : Int := a * x * x + b * x * y + c * y * y
def tB (a b c x r y s : Int) : Int := 2 * a * x * r + b * (x * s + r * y) + 2 * c * y * s
theorem turned_ok {a b c x y r s D : Int} (hD : D = b * b - 4 * a * c) (hdet : x * s - y * r = 1) (ha : 1 ≤ a) (hA : 1 ≤ tA a b c x y) :
    D = tB a b c x r y s * tB a b c x r y s - 4 * tA a b c x y * tA a b c r s ∧ Sim D (Lf a b) (Lf (tA a b c x y) (tB a b c x r y s)) := by
  constructor
  · have e : D = (b * b - 4 * a * c) * ((x * s - y * r) * (x * s - y * r)) := by rw [hdet, hD]; grind
    rw [e]; unfold tA tB; grind
  · have := sim_turn (a := a) (b := b) (c := c) (A := tA a b c x y) (B := tB a b c x r y s) (p := x) (q := r) (r := y) (s := s) (by grind) rfl (by unfold tB; grind) (by omega) (by omega)
    rwa [← hD] at this
theorem tA_bounds {a b c x y : Int} (h : RedF a b c) (hc : c ≤ 6666) (hx : 0 ≤ x) (hy : 0 ≤ y) (hxy : x + y ≤ 41) (hg : Int.gcd x y = 1) : 1 ≤ tA a b c x y ∧ tA a b c x y ≤ 11205546 := by
  have hne : x ≠ 0 ∨ y ≠ 0 := by
    by_cases e : x = 0
    · refine .inr fun e2 => ?_
      subst e e2
      simp at hg
    · exact .inl e
  have h1 := h.min1 hne
  obtain ⟨h0, h2, h3, h4, _⟩ := h
  refine ⟨by unfold tA; omega, ?_⟩
  have e0 : 0 ≤ x * y := Int.mul_nonneg hx hy
  have e1 : a * (x * x) ≤ c * (x * x) := Int.mul_le_mul_of_nonneg_right h4 (Int.mul_nonneg hx hx)
  have e2 : b * (x * y) ≤ c * (x * y) := Int.mul_le_mul_of_nonneg_right (by omega) e0
  have e3 : c * ((x + y) * (x + y)) ≤ 6666 * (41 * 41) := Int.mul_le_mul hc (Int.mul_le_mul hxy hxy (by omega) (by omega)) (Int.mul_nonneg (by omega) (by omega)) (by omega)
  have e4 : c * ((x + y) * (x + y)) = c * (x * x) + c * (y * y) + 2 * (c * (x * y)) := by grind
  have e5 : 0 ≤ c * (x * y) := Int.mul_nonneg (by omega) e0
  have e6 : tA a b c x y = a * (x * x) + b * (x * y) + c * (y * y) := by unfold tA; grind
  omega
/-- the composed form before it is reduced -/
theorem last_form {a1 b1 c1 A B C b D : Int} (hn : D < 0) (hD1 : D = b1 * b1 - 4 * a1 * c1) (hD2 : D = B * B - 4 * A * C) (ha : 1 ≤ a1) (hA : 1 ≤ A) (hg : Int.gcd A a1 = 1) (h1 : (b - b1) % (2 * a1) = 0) (h2 : (b - B) % (2 * A) = 0) (hb1 : -2000000000 ≤ b) (hb2 : b ≤ 2000000000) :
    ∃ c, (b * b - D).tdiv (4 * a1 * A) = c ∧ OInv D (a1 * A) b c (a1 * A) b c ∧ Sim D (Pr D (Lf a1 b1) (Lf A B)) (Lf (a1 * A) b) := by
  obtain ⟨⟨c, hc⟩, hs⟩ := conc_sim (b := b) hD1 hD2 ha hg ⟨_, (Int.mul_ediv_cancel' (Int.dvd_of_emod_eq_zero h1)).symm⟩ ⟨_, (Int.mul_ediv_cancel' (Int.dvd_of_emod_eq_zero h2)).symm⟩
  have p1 : 1 * 1 ≤ a1 * A := Int.mul_le_mul ha hA (by omega) (by omega)
  have p2 : 4 * a1 * A = 4 * (a1 * A) := by grind
  have p3 : 1 ≤ c := by
    rcases Int.lt_or_le c 1 with h | h
    · have h1 : 4 * (a1 * A) * c ≤ 4 * (a1 * A) * 0 := Int.mul_le_mul_of_nonneg_left (by omega) (by omega)
      have := sq_nn b
      rw [p2] at hc
      omega
    · exact h
  refine ⟨c, ?_, OInv.start (by omega) p3 hb1 hb2 (by rw [p2] at hc; omega), hs⟩
  rw [hc]
  exact Int.mul_tdiv_cancel_left _ (by omega)
end Go.Proofs.Ytlchmaiflcnaoaa
