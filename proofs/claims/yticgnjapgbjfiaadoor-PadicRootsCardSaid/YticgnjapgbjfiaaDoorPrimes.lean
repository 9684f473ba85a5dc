/- Plain laws: primes by trial; Miller's test. -/
import Derived.Test.YticgnjapgbjfiaaDoorFermat
namespace Go.Proofs.YticgnjapgbjfiaaDoor

theorem dvd_sub_mod {a b n : Nat} (h : b % n = a % n) : n ∣ b - a := Nat.dvd_of_mod_eq_zero (Nat.sub_mod_eq_zero_of_mod_eq h)
theorem mod_of_dvd_sub {a b n : Nat} (h : a ≤ b) (hd : n ∣ b - a) : b % n = a % n := by
  obtain ⟨t, ht⟩ := hd
  rw [show b = a + n * t from by omega, Nat.add_mul_mod_self_left]
/-- nothing from 2 on and below k divides n -/
def noDiv (n : Nat) (k : Nat) : Prop := ∀ d, 2 ≤ d → d < k → ¬ d ∣ n
theorem noDiv_two (n : Nat) : noDiv n 2 := fun d h1 h2 => by omega
theorem noDiv_next {n k : Nat} (h : noDiv n k) (hk : n % k ≠ 0) : noDiv n (k + 1) := by
  intro d h1 h2 h3
  rcases Nat.lt_or_ge d k with h4 | h4
  · exact h d h1 h4 h3
  · have : d = k := by omega
    subst this
    exact hk (Nat.mod_eq_zero_of_dvd h3)
theorem Pr.of_noDiv {n k : Nat} (h2 : 2 ≤ n) (h : noDiv n k) (hk : n < k * k) : Pr n := by
  refine ⟨h2, fun d ⟨e, he⟩ => ?_⟩
  rcases Nat.eq_zero_or_pos d with h0 | h0
  · subst h0; simp at he; omega
  rcases Nat.eq_zero_or_pos e with h1 | h1
  · subst h1; simp at he; omega
  rcases Nat.lt_or_ge d k with hd | hd
  · rcases Nat.lt_or_ge d 2 with h3 | h3
    · exact .inl (by omega)
    · exact (h d h3 hd ⟨e, he⟩).elim
  · rcases Nat.lt_or_ge e k with h4 | h4
    · rcases Nat.lt_or_ge e 2 with h3 | h3
      · have : e = 1 := by omega
        subst this
        exact .inr (by omega)
      · exact (h e h3 h4 ⟨d, by rw [he, Nat.mul_comm]⟩).elim
    · have := Nat.mul_le_mul hd h4
      omega
theorem not_Pr_of_dvd {n d : Nat} (h2 : 2 ≤ d) (hn : d < n) (h : d ∣ n) : ¬ Pr n := fun hp => by
  rcases hp.2 d h with h1 | h1 <;> omega
theorem Pr.noDiv {n k : Nat} (h : Pr n) (hk : k ≤ n) : noDiv n k := fun d h1 h2 h3 => by
  rcases h.2 d h3 with h4 | h4 <;> omega
/-- the least divisor -/
theorem least_div {n : Nat} (h2 : 2 ≤ n) : ∃ p, Pr p ∧ p ∣ n := by
  induction n using Nat.strongRecOn with
  | _ n ih =>
    by_cases hp : Pr n
    · exact ⟨n, hp, Nat.dvd_refl n⟩
    · have : ¬ ∀ d, d ∣ n → d = 1 ∨ d = n := fun h => hp ⟨h2, h⟩
      obtain ⟨d, hd⟩ := Classical.not_forall.1 this
      obtain ⟨h1, h3⟩ := Classical.not_imp.1 hd
      have h4 : d ≠ 0 := fun h => by subst h; have := Nat.eq_zero_of_zero_dvd h1; omega
      have h5 := Nat.le_of_dvd (by omega) h1
      obtain ⟨p, q1, q2⟩ := ih d (by omega) (by omega)
      exact ⟨p, q1, Nat.dvd_trans q2 h1⟩
theorem Pr.root_one {p x : Nat} (hp : Pr p) (h : x * x % p = 1) : x % p = 1 ∨ x % p = p - 1 := by
  have h2 := hp.1
  have hx : 1 ≤ x := by
    rcases Nat.eq_zero_or_pos x with h0 | h0
    · subst h0; simp at h
    · exact h0
  have h3 : p ∣ (x - 1) * (x + 1) := by
    have e : (x - 1) * (x + 1) = x * x - 1 := by
      obtain ⟨y, rfl⟩ : ∃ y, x = y + 1 := ⟨x - 1, by omega⟩
      simp only [Nat.add_sub_cancel]
      have : (y + 1) * (y + 1) = y * (y + 1 + 1) + 1 := by grind
      omega
    rw [e]
    exact dvd_sub_mod (by rw [h]; exact (Nat.mod_eq_of_lt (by omega)).symm)
  rcases hp.dvd_mul h3 with ⟨t, h4⟩ | ⟨t, h4⟩
  · left
    have : x = 1 + p * t := by omega
    rw [this, Nat.add_mul_mod_self_left]
    exact Nat.mod_eq_of_lt (by omega)
  · right
    have ht : 1 ≤ t := by
      rcases Nat.eq_zero_or_pos t with h0 | h0
      · subst h0; simp at h4
      · exact h0
    obtain ⟨u, rfl⟩ : ∃ u, t = u + 1 := ⟨t - 1, by omega⟩
    have : x = (p - 1) + p * u := by have : p * (u + 1) = p * u + p := Nat.mul_succ _ _; omega
    rw [this, Nat.add_mul_mod_self_left]
    exact Nat.mod_eq_of_lt (by omega)

/-- n - 1 = 2^s d, d odd: does a base's test say that n may be a prime? -/
def mrOk (n a d s : Nat) : Prop := a ^ d % n = 1 ∨ ∃ i, i < s ∧ a ^ (d * 2 ^ i) % n = n - 1
/-- a prime passes the test of each base that it does not divide -/
theorem Pr.mr {n a d s : Nat} (hp : Pr n) (ha : ¬ n ∣ a) (he : n - 1 = d * 2 ^ s) : mrOk n a d s := by
  have h2 := hp.1
  have hf : a ^ (d * 2 ^ s) % n = 1 := by
    have h := hp.fermat a
    rw [show n = (n - 1) + 1 from by omega, Nat.pow_succ, ← show n = (n - 1) + 1 from by omega, he] at h
    have h1 : n ∣ (a ^ (d * 2 ^ s) - 1) * a := by
      rw [Nat.sub_mul, Nat.one_mul]
      exact dvd_sub_mod h
    have ha0 : 0 < a := by
      rcases Nat.eq_zero_or_pos a with h0 | h0
      · exact (ha (by rw [h0]; exact ⟨0, rfl⟩)).elim
      · exact h0
    have hpos : 1 ≤ a ^ (d * 2 ^ s) := Nat.pow_pos ha0
    rcases hp.dvd_mul h1 with h3 | h3
    · rw [mod_of_dvd_sub hpos h3]; exact Nat.mod_eq_of_lt (by omega)
    · exact (ha h3).elim
  have key : ∀ i, a ^ (d * 2 ^ i) % n = 1 → a ^ d % n = 1 ∨ ∃ j, j < i ∧ a ^ (d * 2 ^ j) % n = n - 1 := by
    intro i
    induction i with
    | zero => intro h; left; simpa using h
    | succ i ih =>
      intro h
      have e : a ^ (d * 2 ^ (i + 1)) = a ^ (d * 2 ^ i) * a ^ (d * 2 ^ i) := by
        rw [← Nat.pow_add, Nat.pow_succ]; congr 1; grind
      rw [e] at h
      rcases hp.root_one h with h1 | h1
      · rcases ih h1 with h3 | ⟨j, hj, h3⟩
        · exact .inl h3
        · exact .inr ⟨j, by omega, h3⟩
      · exact .inr ⟨i, by omega, h1⟩
  exact key s hf
end Go.Proofs.YticgnjapgbjfiaaDoor
