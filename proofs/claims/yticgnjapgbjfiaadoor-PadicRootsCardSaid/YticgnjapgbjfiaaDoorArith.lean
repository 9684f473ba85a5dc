/- Plain laws of whole numbers: no program is in sight here. Each under the hypotheses that it names. -/
namespace Go.Proofs.YticgnjapgbjfiaaDoor.Ar

theorem natAbs_sub_of {x y : Int} (h : x * y ≤ 0) : (x - y).natAbs = x.natAbs + y.natAbs := by
  rcases Int.lt_trichotomy x 0 with hx | hx | hx
  · have hy : 0 ≤ y := by
      apply Int.not_lt.1
      intro hy
      have := Int.mul_pos_of_neg_of_neg hx hy
      omega
    omega
  · omega
  · have hy : y ≤ 0 := by
      apply Int.not_lt.1
      intro hy
      have := Int.mul_pos hx hy
      omega
    omega

theorem gcd_tmod (a b : Int) : Int.gcd b (a.tmod b) = Int.gcd a b := by
  unfold Int.gcd
  rw [Int.natAbs_tmod, Nat.gcd_comm b.natAbs, ← Nat.gcd_rec, Nat.gcd_comm]

/-- what holds at the head of each round of the extended division with rests -/
structure Ext (A B a b u v : Int) : Prop where
  gcd : Int.gcd a b = Int.gcd A B
  ra : B ∣ a - u * A
  rb : B ∣ b - v * A
  sum : u.natAbs * b.natAbs + v.natAbs * a.natAbs = B.natAbs
  sign : u * v * (a * b) ≤ 0
  ule : u.natAbs ≤ max 1 B.natAbs
  vle : v.natAbs ≤ max 1 B.natAbs
  ale : a.natAbs ≤ max A.natAbs B.natAbs
  ble : b.natAbs ≤ max A.natAbs B.natAbs

theorem Ext.start (A B : Int) : Ext A B A B 1 0 :=
  ⟨rfl, ⟨0, by omega⟩, ⟨1, by omega⟩, by simp, by simp, by simp; omega, by simp, by omega, by omega⟩

theorem q_sign (a b : Int) : 0 ≤ a.tdiv b * (a * b) := by
  have h := Int.tdiv_mul_add_tmod a b
  rcases Int.lt_trichotomy (a * b) 0 with hn | hn | hn
  · have : a.tdiv b ≤ 0 := by
      rcases Int.lt_trichotomy b 0 with hb | hb | hb
      · have ha : 0 < a := by
          apply Int.not_le.1; intro ha
          have := Int.mul_nonneg_of_nonpos_of_nonpos ha (Int.le_of_lt hb); omega
        have e : a.tdiv b = - (a.tdiv (-b)) := by rw [Int.tdiv_neg, Int.neg_neg]
        have := Int.tdiv_nonneg (a := a) (b := -b) (by omega) (by omega)
        omega
      · subst hb; simp
      · have ha : a < 0 := by
          apply Int.not_le.1; intro ha
          have := Int.mul_nonneg ha (Int.le_of_lt hb); omega
        have e : a.tdiv b = - ((-a).tdiv b) := by rw [Int.neg_tdiv, Int.neg_neg]
        have := Int.tdiv_nonneg (a := -a) (b := b) (by omega) (by omega)
        omega
    exact Int.mul_nonneg_of_nonpos_of_nonpos this (Int.le_of_lt hn)
  · rw [hn]; simp
  · have : 0 ≤ a.tdiv b := by
      rcases Int.lt_trichotomy b 0 with hb | hb | hb
      · have ha : a < 0 := by
          apply Int.not_le.1; intro ha
          have := Int.mul_nonneg ha (a := a) (b := -b) (by omega)
          have e : a * -b = -(a * b) := Int.mul_neg a b
          omega
        have e : a.tdiv b = (-a).tdiv (-b) := by rw [Int.neg_tdiv_neg]
        have := Int.tdiv_nonneg (a := -a) (b := -b) (by omega) (by omega)
        omega
      · subst hb; simp
      · have ha : 0 < a := by
          apply Int.not_le.1; intro ha
          have := Int.mul_nonneg (a := -a) (b := b) (by omega) (by omega)
          have e : -a * b = -(a * b) := Int.neg_mul a b
          omega
        exact Int.tdiv_nonneg (by omega) (by omega)
    exact Int.mul_nonneg this (Int.le_of_lt hn)

theorem pos_sq {x : Int} (h : x ≠ 0) : 0 < x * x := by
  rcases Int.lt_or_gt_of_ne h with h | h
  · exact Int.mul_pos_of_neg_of_neg h h
  · exact Int.mul_pos h h

theorem sign_q {a b u v : Int} (hb : b ≠ 0) (h : u * v * (a * b) ≤ 0) : u * (a.tdiv b * v) ≤ 0 := by
  by_cases ha : a = 0
  · subst ha; simp
  have hq := q_sign a b
  by_cases hq0 : a.tdiv b = 0
  · rw [hq0]; simp
  · have hab : a * b ≠ 0 := Int.mul_ne_zero ha hb
    have hp := pos_sq hab
    have e : u * (a.tdiv b * v) * (a * b * (a * b)) = (u * v * (a * b)) * (a.tdiv b * (a * b)) := by grind
    apply Int.not_lt.1
    intro hc
    have h1 := Int.mul_pos hc hp
    rw [e] at h1
    have h2 := Int.mul_nonneg (a := -(u * v * (a * b))) (b := a.tdiv b * (a * b)) (by omega) hq
    rw [Int.neg_mul] at h2
    omega

theorem Ext.step {A B a b u v : Int} (h : Ext A B a b u v) (hb : b ≠ 0) :
    Ext A B b (a - a.tdiv b * b) v (u - a.tdiv b * v) ∧ (a - a.tdiv b * b).natAbs < b.natAbs ∧ (a.tdiv b * v).natAbs ≤ max 1 B.natAbs ∧ (a.tdiv b * b).natAbs ≤ a.natAbs := by
  have hr : a - a.tdiv b * b = a.tmod b := by have := Int.tdiv_mul_add_tmod a b; omega
  have hrn : (a.tmod b).natAbs = a.natAbs % b.natAbs := Int.natAbs_tmod a b
  have hlt : a.natAbs % b.natAbs < b.natAbs := Nat.mod_lt _ (by omega)
  have hsg := sign_q hb h.sign
  have hab : (u - a.tdiv b * v).natAbs = u.natAbs + (a.tdiv b).natAbs * v.natAbs := by rw [natAbs_sub_of hsg, Int.natAbs_mul]
  have hqn : (a.tdiv b).natAbs = a.natAbs / b.natAbs := Int.natAbs_tdiv a b
  have hdm := Nat.div_add_mod a.natAbs b.natAbs
  have hsum : v.natAbs * (a.tmod b).natAbs + (u - a.tdiv b * v).natAbs * b.natAbs = B.natAbs := by
    rw [hab, hrn, hqn, ← h.sum]
    have e1 : v.natAbs * a.natAbs = v.natAbs * (b.natAbs * (a.natAbs / b.natAbs) + a.natAbs % b.natAbs) := by rw [hdm]
    rw [e1]
    grind
  have hle : (u - a.tdiv b * v).natAbs ≤ max 1 B.natAbs := by
    have h1 : (u - a.tdiv b * v).natAbs * 1 ≤ (u - a.tdiv b * v).natAbs * b.natAbs := Nat.mul_le_mul_left _ (by omega)
    omega
  refine ⟨⟨by rw [hr, gcd_tmod]; exact h.gcd, h.rb, ?_, by rw [hr]; exact hsum, ?_, h.vle, hle, h.ble, ?_⟩, ?_, ?_, ?_⟩
  · have e : a - a.tdiv b * b - (u - a.tdiv b * v) * A = (a - u * A) - a.tdiv b * (b - v * A) := by grind
    rw [e]
    exact Int.dvd_sub h.ra (Int.dvd_mul_of_dvd_right h.rb)
  · -- sign
    rw [hr]
    by_cases hz : a.tmod b = 0
    · rw [hz]; simp
    have ha0 : a ≠ 0 := by intro e; subst e; simp at hz
    -- the rest has the sign of a
    have hra : 0 < a.tmod b * a := by
      rcases Int.lt_or_gt_of_ne ha0 with hneg | hpos
      · have h1 : a.tmod b ≤ 0 := by
          have e : a.tmod b = -((-a).tmod b) := by rw [Int.neg_tmod, Int.neg_neg]
          have := Int.tmod_nonneg (a := -a) b (by omega)
          omega
        exact Int.mul_pos_of_neg_of_neg (by omega) hneg
      · have h1 := Int.tmod_nonneg (a := a) b (by omega)
        exact Int.mul_pos (by omega) hpos
    have hp := pos_sq ha0
    apply Int.not_lt.1
    intro hc
    have h1 := Int.mul_pos hc hp
    have e : v * (u - a.tdiv b * v) * (b * a.tmod b) * (a * a) = (u * v * (a * b)) * (a.tmod b * a) - (a.tdiv b * (a * b)) * (v * v) * (a.tmod b * a) := by grind
    rw [e] at h1
    have h2 := Int.mul_nonneg (a := -(u * v * (a * b))) (b := a.tmod b * a) (by have := h.sign; omega) (Int.le_of_lt hra)
    rw [Int.neg_mul] at h2
    have hvv : 0 ≤ v * v := by
      by_cases hv : v = 0
      · subst hv; simp
      · exact Int.le_of_lt (pos_sq hv)
    have h3 := Int.mul_nonneg (Int.mul_nonneg (q_sign a b) hvv) (Int.le_of_lt hra)
    omega
  · rw [hr, hrn]
    have := h.ble
    omega
  · rw [hr, hrn]; exact hlt
  · rw [Int.natAbs_mul]; rw [hab] at hle; omega
  · rw [Int.natAbs_mul, hqn]; exact Nat.div_mul_le_self _ _

/-- at the end -/
theorem Ext.fin {A B a u v : Int} (h : Ext A B a 0 u v) : (a.natAbs : Int) = Int.gcd A B ∧ B ∣ a - u * A := by
  have := h.gcd
  rw [Int.gcd_zero_right] at this
  exact ⟨by omega, h.ra⟩

end Go.Proofs.YticgnjapgbjfiaaDoor.Ar
