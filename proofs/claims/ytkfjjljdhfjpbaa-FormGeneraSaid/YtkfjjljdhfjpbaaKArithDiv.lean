/- Plain laws of dividing two words by one, digit by digit (base 2^32). Each under the hypotheses that it names. -/
namespace Go.Proofs.Ytkfjjljdhfjpbaa.Ar

theorem natAbs_sub_of {x y : Int} (h : x * y ≤ 0) : (x - y).natAbs = x.natAbs + y.natAbs := by
  rcases Int.lt_trichotomy x 0 with hx | hx | hx
  · have hy : 0 ≤ y := by
      apply Int.not_lt.1
      intro hy
      have := Int.mul_pos_of_neg_of_neg hx hy
      omega
    omega
  · omega
  · have hy : y ≤ 0 := by
      apply Int.not_lt.1
      intro hy
      have := Int.mul_pos hx hy
      omega
    omega

theorem gcd_tmod (a b : Int) : Int.gcd b (a.tmod b) = Int.gcd a b := by
  unfold Int.gcd
  rw [Int.natAbs_tmod, Nat.gcd_comm b.natAbs, ← Nat.gcd_rec, Nat.gcd_comm]

/-- what holds at the head of each round of the extended division with rests -/
structure Ext (A B a b u v : Int) : Prop where
  gcd : Int.gcd a b = Int.gcd A B
  ra : B ∣ a - u * A
  rb : B ∣ b - v * A
  sum : u.natAbs * b.natAbs + v.natAbs * a.natAbs = B.natAbs
  sign : u * v * (a * b) ≤ 0
  ule : u.natAbs ≤ max 1 B.natAbs
  vle : v.natAbs ≤ max 1 B.natAbs
  ale : a.natAbs ≤ max A.natAbs B.natAbs
  ble : b.natAbs ≤ max A.natAbs B.natAbs

theorem Ext.start (A B : Int) : Ext A B A B 1 0 :=
  ⟨rfl, ⟨0, by omega⟩, ⟨1, by omega⟩, by simp, by simp, by simp; omega, by simp, by omega, by omega⟩

theorem q_sign (a b : Int) : 0 ≤ a.tdiv b * (a * b) := by
  have h := Int.tdiv_mul_add_tmod a b
  rcases Int.lt_trichotomy (a * b) 0 with hn | hn | hn
  · have : a.tdiv b ≤ 0 := by
      rcases Int.lt_trichotomy b 0 with hb | hb | hb
      · have ha : 0 < a := by
          apply Int.not_le.1; intro ha
          have := Int.mul_nonneg_of_nonpos_of_nonpos ha (Int.le_of_lt hb); omega
        have e : a.tdiv b = - (a.tdiv (-b)) := by rw [Int.tdiv_neg, Int.neg_neg]
        have := Int.tdiv_nonneg (a := a) (b := -b) (by omega) (by omega)
        omega
      · subst hb; simp
      · have ha : a < 0 := by
          apply Int.not_le.1; intro ha
          have := Int.mul_nonneg ha (Int.le_of_lt hb); omega
        have e : a.tdiv b = - ((-a).tdiv b) := by rw [Int.neg_tdiv, Int.neg_neg]
        have := Int.tdiv_nonneg (a := -a) (b := b) (by omega) (by omega)
        omega
    exact Int.mul_nonneg_of_nonpos_of_nonpos this (Int.le_of_lt hn)
  · rw [hn]; simp
  · have : 0 ≤ a.tdiv b := by
      rcases Int.lt_trichotomy b 0 with hb | hb | hb
      · have ha : a < 0 := by
          apply Int.not_le.1; intro ha
          have := Int.mul_nonneg ha (a := a) (b := -b) (by omega)
          have e : a * -b = -(a * b) := Int.mul_neg a b
          omega
        have e : a.tdiv b = (-a).tdiv (-b) := by rw [Int.neg_tdiv_neg]
        have := Int.tdiv_nonneg (a := -a) (b := -b) (by omega) (by omega)
        omega
      · subst hb; simp
      · have ha : 0 < a := by
          apply Int.not_le.1; intro ha
          have := Int.mul_nonneg (a := -a) (b := b) (by omega) (by omega)
          have e : -a * b = -(a * b) := Int.neg_mul a b
          omega
        exact Int.tdiv_nonneg (by omega) (by omega)
    exact Int.mul_nonneg this (Int.le_of_lt hn)

theorem pos_sq {x : Int} (h : x ≠ 0) : 0 < x * x := by
  rcases Int.lt_or_gt_of_ne h with h | h
  · exact Int.mul_pos_of_neg_of_neg h h
  · exact Int.mul_pos h h

theorem sign_q {a b u v : Int} (hb : b ≠ 0) (h : u * v * (a * b) ≤ 0) : u * (a.tdiv b * v) ≤ 0 := by
  by_cases ha : a = 0
  · subst ha; simp
  have hq := q_sign a b
  by_cases hq0 : a.tdiv b = 0
  · rw [hq0]; simp
  · have hab : a * b ≠ 0 := Int.mul_ne_zero ha hb
    have hp := pos_sq hab
    have e : u * (a.tdiv b * v) * (a * b * (a * b)) = (u * v * (a * b)) * (a.tdiv b * (a * b)) := by grind
    apply Int.not_lt.1
    intro hc
    have h1 := Int.mul_pos hc hp
    rw [e] at h1
    have h2 := Int.mul_nonneg (a := -(u * v * (a * b))) (b := a.tdiv b * (a * b)) (by omega) hq
    rw [Int.neg_mul] at h2
    omega

theorem Ext.step {A B a b u v : Int} (h : Ext A B a b u v) (hb : b ≠ 0) :
    Ext A B b (a - a.tdiv b * b) v (u - a.tdiv b * v) ∧ (a - a.tdiv b * b).natAbs < b.natAbs ∧ (a.tdiv b * v).natAbs ≤ max 1 B.natAbs ∧ (a.tdiv b * b).natAbs ≤ a.natAbs := by
  have hr : a - a.tdiv b * b = a.tmod b := by have := Int.tdiv_mul_add_tmod a b; omega
  have hrn : (a.tmod b).natAbs = a.natAbs % b.natAbs := Int.natAbs_tmod a b
  have hlt : a.natAbs % b.natAbs < b.natAbs := Nat.mod_lt _ (by omega)
  have hsg := sign_q hb h.sign
  have hab : (u - a.tdiv b * v).natAbs = u.natAbs + (a.tdiv b).natAbs * v.natAbs := by rw [natAbs_sub_of hsg, Int.natAbs_mul]
  have hqn : (a.tdiv b).natAbs = a.natAbs / b.natAbs := Int.natAbs_tdiv a b
  have hdm := Nat.div_add_mod a.natAbs b.natAbs
  have hsum : v.natAbs * (a.tmod b).natAbs + (u - a.tdiv b * v).natAbs * b.natAbs = B.natAbs := by
    rw [hab, hrn, hqn, ← h.sum]
    have e1 : v.natAbs * a.natAbs = v.natAbs * (b.natAbs * (a.natAbs / b.natAbs) + a.natAbs % b.natAbs) := by rw [hdm]
    rw [e1]
    grind
  have hle : (u - a.tdiv b * v).natAbs ≤ max 1 B.natAbs := by
    have h1 : (u - a.tdiv b * v).natAbs * 1 ≤ (u - a.tdiv b * v).natAbs * b.natAbs := Nat.mul_le_mul_left _ (by omega)
    omega
  refine ⟨⟨by rw [hr, gcd_tmod]; exact h.gcd, h.rb, ?_, by rw [hr]; exact hsum, ?_, h.vle, hle, h.ble, ?_⟩, ?_, ?_, ?_⟩
  · have e : a - a.tdiv b * b - (u - a.tdiv b * v) * A = (a - u * A) - a.tdiv b * (b - v * A) := by grind
    rw [e]
    exact Int.dvd_sub h.ra (Int.dvd_mul_of_dvd_right h.rb)
  · -- sign
    rw [hr]
    by_cases hz : a.tmod b = 0
    · rw [hz]; simp
    have ha0 : a ≠ 0 := by intro e; subst e; simp at hz
    -- the rest has the sign of a
    have hra : 0 < a.tmod b * a := by
      rcases Int.lt_or_gt_of_ne ha0 with hneg | hpos
      · have h1 : a.tmod b ≤ 0 := by
          have e : a.tmod b = -((-a).tmod b) := by rw [Int.neg_tmod, Int.neg_neg]
          have := Int.tmod_nonneg (a := -a) b (by omega)
          omega
        exact Int.mul_pos_of_neg_of_neg (by omega) hneg
      · have h1 := Int.tmod_nonneg (a := a) b (by omega)
        exact Int.mul_pos (by omega) hpos
    have hp := pos_sq ha0
    apply Int.not_lt.1
    intro hc
    have h1 := Int.mul_pos hc hp
    have e : v * (u - a.tdiv b * v) * (b * a.tmod b) * (a * a) = (u * v * (a * b)) * (a.tmod b * a) - (a.tdiv b * (a * b)) * (v * v) * (a.tmod b * a) := by grind
    rw [e] at h1
    have h2 := Int.mul_nonneg (a := -(u * v * (a * b))) (b := a.tmod b * a) (by have := h.sign; omega) (Int.le_of_lt hra)
    rw [Int.neg_mul] at h2
    have hvv : 0 ≤ v * v := by
      by_cases hv : v = 0
      · subst hv; simp
      · exact Int.le_of_lt (pos_sq hv)
    have h3 := Int.mul_nonneg (Int.mul_nonneg (q_sign a b) hvv) (Int.le_of_lt hra)
    omega
  · rw [hr, hrn]
    have := h.ble
    omega
  · rw [hr, hrn]; exact hlt
  · rw [Int.natAbs_mul]; rw [hab] at hle; omega
  · rw [Int.natAbs_mul, hqn]; exact Nat.div_mul_le_self _ _

/-- at the end -/
theorem Ext.fin {A B a u v : Int} (h : Ext A B a 0 u v) : (a.natAbs : Int) = Int.gcd A B ∧ B ∣ a - u * A := by
  have := h.gcd
  rw [Int.gcd_zero_right] at this
  exact ⟨by omega, h.ra⟩

end Go.Proofs.Ytkfjjljdhfjpbaa.Ar

namespace Go.Proofs.Ytkfjjljdhfjpbaa.Ar

/-- What is known behind the normalizing of bits.Div64: the divisor Y = y * 2^s in two digits, the dividend in three. -/
structure Dn (hi lo y s Y y1 y0 u n1 n0 : Nat) : Prop where
  Ys : Y = y * 2 ^ s
  Yd : Y = y1 * 4294967296 + y0
  y0lt : y0 < 4294967296
  y1lt : y1 < 4294967296
  y1ge : 2147483648 ≤ y1
  ult : u < Y
  n1lt : n1 < 4294967296
  n0lt : n0 < 4294967296
  num : (hi * 18446744073709551616 + lo) * 2 ^ s = (u * 4294967296 + n1) * 4294967296 + n0

/-- A guess at a digit: q * y1 + r = u, at least the true digit. -/
structure Guess (Y y1 y0 u n q r : Nat) : Prop where
  sum : q * y1 + r = u
  ge : (u * 4294967296 + n) / Y ≤ q
  le : q ≤ 4294967297

theorem Guess.start {Y y1 y0 u n : Nat} (hY : Y = y1 * 4294967296 + y0) (h0 : y0 < 4294967296) (h1 : 2147483648 ≤ y1) (hu : u < Y) (hn : n < 4294967296) :
    Guess Y y1 y0 u n (u / y1) (u % y1) := by
  have hd := Nat.div_add_mod u y1
  refine ⟨by rw [Nat.mul_comm]; exact hd, ?_, ?_⟩
  · -- the true digit times y1 is at most u
    have hq := Nat.div_mul_le_self (u * 4294967296 + n) Y
    rw [Nat.le_div_iff_mul_le (by omega)]
    generalize (u * 4294967296 + n) / Y = t at hq
    subst hY
    rw [Nat.mul_add, ← Nat.mul_assoc] at hq
    generalize t * y1 = z at hq ⊢
    omega
  · apply Nat.le_of_lt_succ
    rw [Nat.div_lt_iff_lt_mul (by omega)]
    omega

/-- What the test asks: is the guess too great? -/
theorem Guess.test {Y y1 y0 u n q r : Nat} (h : Guess Y y1 y0 u n q r) (hY : Y = y1 * 4294967296 + y0) (hp : 0 < Y) :
    (4294967296 * r + n < q * y0 ↔ (u * 4294967296 + n) / Y < q) := by
  have e : q * Y = (u - r) * 4294967296 + q * y0 := by
    have := h.sum
    have : u - r = q * y1 := by omega
    rw [this, hY, Nat.mul_add, Nat.mul_assoc]
  have hs := h.sum
  rw [Nat.div_lt_iff_lt_mul hp, e]
  generalize q * y0 = z
  have : r ≤ u := by omega
  omega

theorem Guess.small {Y y1 y0 u n q r : Nat} (_h : Guess Y y1 y0 u n q r) (hu : u < Y) (hn : n < 4294967296) (hq : 4294967296 ≤ q) :
    (u * 4294967296 + n) / Y < q := by
  rw [Nat.div_lt_iff_lt_mul (by omega)]
  have : 4294967296 * Y ≤ q * Y := Nat.mul_le_mul_right _ hq
  omega

theorem Guess.down {Y y1 y0 u n q r : Nat} (h : Guess Y y1 y0 u n q r) (hlt : (u * 4294967296 + n) / Y < q) : Guess Y y1 y0 u n (q - 1) (r + y1) := by
  obtain ⟨p, rfl⟩ : ∃ p, q = p + 1 := ⟨q - 1, by have := Nat.lt_of_le_of_lt (Nat.zero_le _) hlt; omega⟩
  have := h.sum
  have hl := h.le
  refine ⟨?_, ?_, by omega⟩
  · rw [Nat.add_sub_cancel]
    rw [Nat.add_mul] at this
    omega
  · rw [Nat.add_sub_cancel]
    exact Nat.le_of_lt_succ hlt

/-- a rest of a whole digit or more: the guess is right -/
theorem Guess.stop {Y y1 y0 u n q r : Nat} (h : Guess Y y1 y0 u n q r) (hY : Y = y1 * 4294967296 + y0) (hp : 0 < Y) (h0 : y0 < 4294967296) (hq : q ≤ 4294967296) (hr : 4294967296 ≤ r) :
    q = (u * 4294967296 + n) / Y := by
  have ht := h.test hY hp
  have : q * y0 ≤ 4294967296 * 4294967295 := Nat.mul_le_mul hq (by omega)
  have hg := h.ge
  have : ¬ (u * 4294967296 + n) / Y < q := by rw [← ht]; omega
  omega

/-- one round of looking for a digit, T the true one, in words that a walk wants -/
structure GuessAt (Y y1 y0 u n T q r : Nat) : Prop where
  g : Guess Y y1 y0 u n q r
  t : T = (u * 4294967296 + n) / Y
  hY : Y = y1 * 4294967296 + y0
  y0lt : y0 < 4294967296
  y1ge : 2147483648 ≤ y1
  ult : u < Y
  nlt : n < 4294967296
theorem GuessAt.out {Y y1 y0 u n T q r : Nat} (h : GuessAt Y y1 y0 u n T q r) (ht : ¬ 4294967296 * r + n < q * y0) : q = T := by
  have a := h.g.test h.hY (by have := h.y1ge; have := h.hY; omega)
  have b := h.g.ge
  rw [← h.t] at a b
  omega
theorem GuessAt.lt_of {Y y1 y0 u n T q r : Nat} (h : GuessAt Y y1 y0 u n T q r) (ht : 4294967296 ≤ q ∨ 4294967296 * r + n < q * y0) : T < q := by
  rcases ht with ht | ht
  · have := h.g.small h.ult h.nlt ht
    rw [← h.t] at this; exact this
  · have a := h.g.test h.hY (by have := h.y1ge; have := h.hY; omega)
    rw [← h.t] at a
    exact a.1 ht
theorem GuessAt.down {Y y1 y0 u n T q r : Nat} (h : GuessAt Y y1 y0 u n T q r) (ht : 4294967296 ≤ q ∨ 4294967296 * r + n < q * y0) : GuessAt Y y1 y0 u n T (q - 1) (r + y1) :=
  ⟨h.g.down (by rw [← h.t]; exact h.lt_of ht), h.t, h.hY, h.y0lt, h.y1ge, h.ult, h.nlt⟩
theorem GuessAt.stop {Y y1 y0 u n T q r : Nat} (h : GuessAt Y y1 y0 u n T q r) (ht : 4294967296 ≤ q ∨ 4294967296 * r + n < q * y0) (hr : 4294967296 ≤ r + y1) : q - 1 = T := by
  have a := h.down ht
  have := h.g.le
  rw [h.t]
  exact a.g.stop h.hY (by have := h.y1ge; have := h.hY; omega) h.y0lt (by omega) hr

/-- the sum of the two digits is the quotient -/
theorem shift_split (N Y n0 : Nat) : N * 4294967296 + n0 = (N % Y * 4294967296 + n0) + Y * (N / Y * 4294967296) := by
  have hd := Nat.div_add_mod N Y
  generalize N % Y = b at *
  generalize N / Y = a at *
  subst hd
  rw [Nat.add_mul, Nat.mul_assoc]
  generalize Y * (a * 4294967296) = c
  omega
theorem shift_quo (N Y n0 : Nat) (hY : 0 < Y) : (N * 4294967296 + n0) / Y = N / Y * 4294967296 + (N % Y * 4294967296 + n0) / Y := by
  rw [shift_split N Y n0, Nat.add_mul_div_left _ _ hY, Nat.add_comm]
theorem shift_rem (N Y n0 : Nat) : (N * 4294967296 + n0) % Y = (N % Y * 4294967296 + n0) % Y := by
  rw [shift_split N Y n0, Nat.add_mul_mod_self_left]
theorem Dn.quo {hi lo y s Y y1 y0 u n1 n0 : Nat} (h : Dn hi lo y s Y y1 y0 u n1 n0) :
    (u * 4294967296 + n1) / Y * 4294967296 + ((u * 4294967296 + n1) % Y * 4294967296 + n0) / Y = (hi * 18446744073709551616 + lo) / y := by
  have hpos : 0 < 2 ^ s := Nat.pow_pos (by omega)
  have hYp : 0 < Y := by have := h.y1ge; have := h.Yd; omega
  refine (shift_quo _ Y n0 hYp).symm.trans ?_
  have e := congrArg (fun z => z / Y) h.num
  refine (e.symm.trans ?_)
  show (hi * 18446744073709551616 + lo) * 2 ^ s / Y = _
  rw [h.Ys, Nat.mul_div_mul_right _ _ hpos]

theorem Dn.rem {hi lo y s Y y1 y0 u n1 n0 : Nat} (h : Dn hi lo y s Y y1 y0 u n1 n0) :
    ((u * 4294967296 + n1) % Y * 4294967296 + n0) % Y / 2 ^ s = (hi * 18446744073709551616 + lo) % y := by
  have hpos : 0 < 2 ^ s := Nat.pow_pos (by omega)
  have e := congrArg (fun z => z % Y / 2 ^ s) h.num
  have e0 := congrArg (fun z => z / 2 ^ s) (shift_rem (u * 4294967296 + n1) Y n0)
  refine e0.symm.trans (e.symm.trans ?_)
  show (hi * 18446744073709551616 + lo) * 2 ^ s % Y / 2 ^ s = _
  rw [h.Ys, Nat.mul_mod_mul_right, Nat.mul_div_cancel _ hpos]

/-- the normalizing itself -/
theorem Dn.make {hi lo y s : Nat} (hs : s ≤ 63) (hy : hi < y) (hlo : lo < 18446744073709551616) (h1 : 9223372036854775808 ≤ y * 2 ^ s) (h2 : y * 2 ^ s < 18446744073709551616) :
    Dn hi lo y s (y * 2 ^ s) (y * 2 ^ s / 4294967296) (y * 2 ^ s % 4294967296) (hi * 2 ^ s + lo / 2 ^ (64 - s)) ((lo * 2 ^ s) % 18446744073709551616 / 4294967296) ((lo * 2 ^ s) % 18446744073709551616 % 4294967296) := by
  have hpos : 0 < 2 ^ s := Nat.pow_pos (by omega)
  have hpp : 2 ^ s * 2 ^ (64 - s) = 18446744073709551616 := by rw [← Nat.pow_add, show s + (64 - s) = 64 from by omega]
  have hq : lo / 2 ^ (64 - s) < 2 ^ s := by
    rw [Nat.div_lt_iff_lt_mul (Nat.pow_pos (by omega)), hpp]; exact hlo
  have hm : (hi + 1) * 2 ^ s ≤ y * 2 ^ s := Nat.mul_le_mul_right _ hy
  have hm1 : (lo * 2 ^ s) % 18446744073709551616 = lo * 2 ^ s - 18446744073709551616 * (lo / 2 ^ (64 - s)) := by
    have e : lo * 2 ^ s / 18446744073709551616 = lo / 2 ^ (64 - s) := by
      rw [← hpp, Nat.mul_comm (2 ^ s), Nat.mul_div_mul_right _ _ hpos]
    have := Nat.div_add_mod (lo * 2 ^ s) 18446744073709551616
    rw [e] at this
    omega
  have hle : 18446744073709551616 * (lo / 2 ^ (64 - s)) ≤ lo * 2 ^ s := by
    rw [← hpp, Nat.mul_assoc, Nat.mul_comm lo]
    exact Nat.mul_le_mul_left _ (Nat.mul_div_le _ _)
  refine ⟨rfl, by omega, by omega, by omega, by omega, ?_, by omega, by omega, ?_⟩
  · rw [Nat.add_mul] at hm; omega
  · rw [Nat.add_mul, Nat.mul_right_comm]
    generalize lo / 2 ^ (64 - s) = a at *
    generalize hi * 2 ^ s = b at *
    generalize lo * 2 ^ s = c at *
    omega

end Go.Proofs.Ytkfjjljdhfjpbaa.Ar
