/- Plain laws of Jacobi's symbol as the program reckons it. -/
namespace Go.Proofs.YtgocnjklpafabaaDoor

/-- what residue.symbol reckons, a below n -/
def jac (a n : Nat) : Int :=
  if h : a = 0 then (if n = 1 then 1 else 0)
  else if a % 2 = 0 then (if n % 8 = 3 ∨ n % 8 = 5 then -1 else 1) * jac (a / 2) n
  else (if a % 4 = 3 ∧ n % 4 = 3 then -1 else 1) * jac (n % a) a
termination_by a
decreasing_by
  · omega
  · exact Nat.mod_lt _ (Nat.pos_of_ne_zero h)

theorem jac_zero (n : Nat) : jac 0 n = if n = 1 then 1 else 0 := by rw [jac]; simp
theorem jac_even {a n : Nat} (h0 : a ≠ 0) (h : a % 2 = 0) : jac a n = (if n % 8 = 3 ∨ n % 8 = 5 then -1 else 1) * jac (a / 2) n := by rw [jac]; simp [h0, h]
theorem jac_odd {a n : Nat} (h : a % 2 = 1) : jac a n = (if a % 4 = 3 ∧ n % 4 = 3 then -1 else 1) * jac (n % a) a := by
  rw [jac, dif_neg (by omega), if_neg (by omega)]
theorem jac_one_one : jac 1 1 = 1 := by rw [jac_odd (by omega), jac_zero]; simp
theorem jac_one (n : Nat) : jac 1 n = 1 := by rw [jac_odd (by omega), Nat.mod_one, jac_zero]; simp

theorem sq_sign {s x : Int} (h : s = 1 ∨ s = -1) : s * x * (s * x) = x * x := by
  rcases h with rfl | rfl
  · simp
  · rw [Int.neg_one_mul, Int.neg_mul_neg]
theorem gcd_half {a n : Nat} (h : a % 2 = 0) (hn : n % 2 = 1) : Nat.gcd (a / 2) n = Nat.gcd a n := by
  obtain ⟨k, rfl⟩ : ∃ k, a = 2 * k := ⟨a / 2, by omega⟩
  rw [Nat.mul_div_cancel_left k (by omega)]
  refine Nat.dvd_antisymm (Nat.dvd_gcd (Nat.dvd_trans (Nat.gcd_dvd_left k n) ⟨2, by omega⟩) (Nat.gcd_dvd_right k n)) ?_
  refine Nat.dvd_gcd ?_ (Nat.gcd_dvd_right _ _)
  have h1 : Nat.Coprime (Nat.gcd (2 * k) n) 2 := by
    have h2 : Nat.gcd (2 * k) n ∣ n := Nat.gcd_dvd_right _ _
    have h3 : Nat.gcd (Nat.gcd (2 * k) n) 2 ∣ 2 := Nat.gcd_dvd_right _ _
    have h4 : Nat.gcd (Nat.gcd (2 * k) n) 2 ∣ n := Nat.dvd_trans (Nat.gcd_dvd_left _ _) h2
    rcases Nat.lt_or_ge (Nat.gcd (Nat.gcd (2 * k) n) 2) 2 with h5 | h5
    · have h6 : 0 < Nat.gcd (Nat.gcd (2 * k) n) 2 := Nat.gcd_pos_of_pos_right _ (by omega)
      show Nat.gcd _ _ = 1
      omega
    · have h6 := Nat.le_of_dvd (by omega) h3
      have h7 : Nat.gcd (Nat.gcd (2 * k) n) 2 = 2 := by omega
      rw [h7] at h4
      have := Nat.mod_eq_zero_of_dvd h4
      omega
  exact h1.dvd_of_dvd_mul_left (Nat.gcd_dvd_left _ _)

/-- the symbol's square tells whether the two have no common divisor -/
theorem jac_sq : ∀ (a n : Nat), n % 2 = 1 → (Nat.gcd a n = 1 → jac a n * jac a n = 1) ∧ (Nat.gcd a n ≠ 1 → jac a n = 0) := by
  intro a
  induction a using Nat.strongRecOn with
  | _ a ih =>
    intro n hn
    by_cases h0 : a = 0
    · subst h0
      rw [Nat.gcd_zero_left, jac_zero]
      by_cases h1 : n = 1
      · simp [h1]
      · simp [h1]
    · by_cases h2 : a % 2 = 0
      · rw [jac_even h0 h2]
        obtain ⟨i1, i2⟩ := ih (a / 2) (by omega) n hn
        rw [gcd_half h2 hn] at i1 i2
        refine ⟨fun hg => ?_, fun hg => by rw [i2 hg, Int.mul_zero]⟩
        rw [sq_sign (by split <;> simp)]
        exact i1 hg
      · rw [jac_odd (by omega)]
        obtain ⟨i1, i2⟩ := ih (n % a) (Nat.mod_lt _ (by omega)) a (by omega)
        have hg : Nat.gcd (n % a) a = Nat.gcd a n := (Nat.gcd_rec a n).symm
        rw [hg] at i1 i2
        refine ⟨fun hg => ?_, fun hg => by rw [i2 hg, Int.mul_zero]⟩
        rw [sq_sign (by split <;> simp)]
        exact i1 hg

/-- of 2 -/
theorem jac_two {n : Nat} (hn : n % 2 = 1) : jac (2 % n) n = if n % 8 = 1 ∨ n % 8 = 7 then 1 else -1 := by
  by_cases h1 : n = 1
  · subst h1; rw [show 2 % 1 = 0 from rfl, jac_zero]; simp
  · rw [Nat.mod_eq_of_lt (show 2 < n by omega), jac_even (by omega) (by omega), show 2 / 2 = 1 from rfl, jac_one, Int.mul_one]
    by_cases h3 : n % 8 = 3 ∨ n % 8 = 5
    · rw [if_pos h3, if_neg (by omega)]
    · rw [if_neg h3, if_pos (by omega)]

theorem jac_pow2 (n d : Nat) (hd : d ≠ 0) : ∀ v, jac (2 ^ v * d) n = (if n % 8 = 3 ∨ n % 8 = 5 then -1 else 1) ^ v * jac d n := by
  intro v
  induction v with
  | zero => simp
  | succ v ih =>
    have hp : 0 < 2 ^ v := Nat.two_pow_pos v
    have e : 2 ^ (v + 1) * d = 2 * (2 ^ v * d) := by rw [Nat.pow_succ, Nat.mul_comm (2 ^ v) 2, Nat.mul_assoc]
    have hpos : 0 < 2 ^ v * d := Nat.mul_pos hp (by omega)
    rw [e, jac_even (by omega) (by omega), Nat.mul_div_cancel_left _ (by omega), ih, Int.pow_succ, ← Int.mul_assoc]
    congr 1
    rw [Int.mul_comm]

theorem split2 : ∀ m : Nat, m ≠ 0 → ∃ v d, m = 2 ^ v * d ∧ d % 2 = 1 := by
  intro m
  induction m using Nat.strongRecOn with
  | _ m ih =>
    intro h
    by_cases h2 : m % 2 = 1
    · exact ⟨0, m, by simp, h2⟩
    · obtain ⟨v, d, e, hd⟩ := ih (m / 2) (by omega) (by omega)
      refine ⟨v + 1, d, ?_, hd⟩
      rw [Nat.pow_succ, Nat.mul_comm (2 ^ v) 2, Nat.mul_assoc, ← e]
      omega

/-- of -1 -/
theorem jac_less {n : Nat} (hn : n % 2 = 1) : jac (n - 1) n = if n % 4 = 1 then 1 else -1 := by
  by_cases h1 : n = 1
  · subst h1; rw [jac_zero]; simp
  · obtain ⟨v, d, e, hd⟩ := split2 (n - 1) (by omega)
    have hn2 : n = 2 ^ v * d + 1 := by omega
    have hmod : jac (n % d) d = 1 := by
      by_cases h : d = 1
      · subst h; rw [Nat.mod_one, jac_zero]; simp
      · have : n % d = 1 := by
          rw [hn2, Nat.add_mod, Nat.mul_mod_left, Nat.zero_add, Nat.mod_mod, Nat.mod_eq_of_lt (by omega)]
        rw [this, jac_one]
    rw [e, jac_pow2 n d (by omega) v, jac_odd hd, hmod, Int.mul_one]
    match v with
    | 0 => omega
    | 1 =>
      rw [Int.pow_one]
      have e1 : n = 2 * d + 1 := by rw [hn2]
      rcases (by omega : d % 4 = 1 ∨ d % 4 = 3) with h | h
      · rw [if_pos (by omega), if_neg (by omega), if_neg (by omega)]; rfl
      · rw [if_neg (by omega), if_pos (by omega), if_neg (by omega)]; rfl
    | 2 =>
      have e1 : n = 4 * d + 1 := by rw [hn2]
      rw [if_pos (by omega), if_neg (by omega), if_pos (by omega)]; rfl
    | k + 3 =>
      have e1 : n = 8 * (2 ^ k * d) + 1 := by rw [hn2, Nat.pow_add, Nat.mul_comm (2 ^ k), Nat.mul_assoc]
      rw [if_neg (by omega), if_neg (by omega), if_pos (by omega), Int.one_pow]; rfl

/-- GAUSS's reciprocity, by the way that the symbol is reckoned -/
theorem jac_turn {m n : Nat} (hm : m % 2 = 1) (hn : n % 2 = 1) : jac (m % n) n = (if m % 4 = 3 ∧ n % 4 = 3 then -1 else 1) * jac (n % m) m ∨ (m = n ∧ m ≠ 1) := by
  rcases Nat.lt_trichotomy m n with h | h | h
  · left
    rw [Nat.mod_eq_of_lt h, jac_odd hm]
  · by_cases h1 : m = 1
    · left; subst h1; subst h; simp [jac_zero]
    · exact .inr ⟨h, h1⟩
  · left
    rw [Nat.mod_eq_of_lt h, jac_odd hn, ← Int.mul_assoc]
    by_cases h4 : m % 4 = 3 ∧ n % 4 = 3
    · rw [if_pos h4, if_pos ⟨h4.2, h4.1⟩]; simp
    · rw [if_neg h4, if_neg (fun k => h4 ⟨k.2, k.1⟩)]; simp
end Go.Proofs.YtgocnjklpafabaaDoor
