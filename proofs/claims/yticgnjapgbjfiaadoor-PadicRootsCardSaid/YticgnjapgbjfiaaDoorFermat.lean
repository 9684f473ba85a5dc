/- Plain laws of primes: Fermat's little theorem and the powers of a prime. -/
namespace Go.Proofs.YticgnjapgbjfiaaDoor

/-- a prime -/
def Pr (n : Nat) : Prop := 2 ≤ n ∧ ∀ d, d ∣ n → d = 1 ∨ d = n

/-- binomials -/
def bino : Nat → Nat → Nat
  | _, 0 => 1
  | 0, _ + 1 => 0
  | n + 1, k + 1 => bino n k + bino n (k + 1)
theorem bino_zero (n : Nat) : bino n 0 = 1 := by cases n <;> rfl
theorem bino_succ (n k : Nat) : bino (n + 1) (k + 1) = bino n k + bino n (k + 1) := rfl
theorem bino_over (n k : Nat) (h : n < k) : bino n k = 0 := by
  induction n generalizing k with
  | zero => cases k with
    | zero => omega
    | succ k => rfl
  | succ n ih => cases k with
    | zero => omega
    | succ k => rw [bino_succ, ih k (by omega), ih (k + 1) (by omega)]
theorem bino_self (n : Nat) : bino n n = 1 := by
  induction n with
  | zero => rfl
  | succ n ih => rw [bino_succ, ih, bino_over n (n + 1) (by omega)]
theorem bino_mul (n k : Nat) : (k + 1) * bino (n + 1) (k + 1) = (n + 1) * bino n k := by
  induction n generalizing k with
  | zero =>
    cases k with
    | zero => rfl
    | succ k => rw [bino_succ, bino_over 0 (k + 1) (by omega), bino_over 0 (k + 1 + 1) (by omega)]; simp
  | succ n ih =>
    cases k with
    | zero =>
      have := ih 0
      rw [bino_zero] at this
      rw [bino_succ (n + 1) 0, bino_zero]
      omega
    | succ k =>
      have h1 := ih k
      have h2 := ih (k + 1)
      rw [bino_succ (n + 1) (k + 1)]
      rw [Nat.mul_add, h2]
      have h3 : (k + 1 + 1) * bino (n + 1) (k + 1) = (k + 1) * bino (n + 1) (k + 1) + bino (n + 1) (k + 1) := by rw [Nat.add_mul (k + 1) 1, Nat.one_mul]
      rw [h3, h1, bino_succ n k]
      grind
/-- the first m terms of (a + 1)^n -/
def bsum (n a : Nat) : Nat → Nat
  | 0 => 0
  | m + 1 => bsum n a m + bino n m * a ^ m
theorem bsum_succ (n a m : Nat) : bsum (n + 1) a (m + 1) = bsum n a (m + 1) + a * bsum n a m := by
  induction m with
  | zero => simp [bsum, bino_zero]
  | succ m ih =>
    rw [bsum, ih]
    show _ = bsum n a (m + 1) + bino n (m + 1) * a ^ (m + 1) + a * (bsum n a m + bino n m * a ^ m)
    rw [bino_succ, Nat.pow_succ]
    grind
theorem bsum_all (n a : Nat) : bsum n a (n + 1) = (a + 1) ^ n := by
  induction n with
  | zero => simp [bsum, bino_zero]
  | succ n ih =>
    rw [bsum_succ, ih]
    rw [bsum, ih, bino_over n (n + 1) (by omega), Nat.pow_succ]
    grind

theorem Pr.coprime {p k : Nat} (hp : Pr p) (h : ¬ p ∣ k) : Nat.gcd p k = 1 := by
  rcases hp.2 _ (Nat.gcd_dvd_left p k) with h1 | h1
  · exact h1
  · exact (h (h1 ▸ Nat.gcd_dvd_right p k)).elim
theorem Pr.dvd_mul {p a b : Nat} (hp : Pr p) (h : p ∣ a * b) : p ∣ a ∨ p ∣ b := by
  by_cases ha : p ∣ a
  · exact .inl ha
  · exact .inr (Nat.Coprime.dvd_of_dvd_mul_left (hp.coprime ha) h)
theorem Pr.bino {p k : Nat} (hp : Pr p) (h0 : 0 < k) (hk : k < p) : p ∣ bino p k := by
  obtain ⟨n, rfl⟩ : ∃ n, p = n + 1 := ⟨p - 1, by omega⟩
  obtain ⟨j, rfl⟩ : ∃ j, k = j + 1 := ⟨k - 1, by omega⟩
  have h1 : n + 1 ∣ (j + 1) * Proofs.YticgnjapgbjfiaaDoor.bino (n + 1) (j + 1) := ⟨_, bino_mul n j⟩
  rcases hp.dvd_mul h1 with h | h
  · exact absurd (Nat.le_of_dvd (by omega) h) (by omega)
  · exact h
theorem Pr.bsum {p : Nat} (hp : Pr p) (a m : Nat) (hm : m < p) : bsum p a (m + 1) % p = 1 := by
  have h2 := hp.1
  induction m with
  | zero =>
    rw [Proofs.YticgnjapgbjfiaaDoor.bsum, Proofs.YticgnjapgbjfiaaDoor.bsum, bino_zero]
    simp
    exact Nat.mod_eq_of_lt (by omega)
  | succ m ih =>
    obtain ⟨t, ht⟩ := hp.bino (k := m + 1) (by omega) hm
    rw [Proofs.YticgnjapgbjfiaaDoor.bsum, ht, Nat.mul_assoc, Nat.add_mul_mod_self_left]
    exact ih (by omega)
theorem Pr.fermat {p : Nat} (hp : Pr p) (a : Nat) : a ^ p % p = a % p := by
  have h2 := hp.1
  induction a with
  | zero => rw [Nat.zero_pow (by omega)]
  | succ a ih =>
    have h1 := bsum_all p a
    obtain ⟨m, hm⟩ : ∃ m, p = m + 1 := ⟨p - 1, by omega⟩
    rw [Proofs.YticgnjapgbjfiaaDoor.bsum, bino_self, Nat.one_mul] at h1
    have h3 := hp.bsum a (p - 1) (by omega)
    rw [show p - 1 + 1 = p from by omega] at h3
    rw [← h1, Nat.add_mod, h3, ih, ← Nat.add_mod_mod, Nat.mod_mod, Nat.add_comm 1, Nat.add_mod]
    simp

/-- x^n - y^n without the factor x - y -/
def geo (x y : Int) : Nat → Int
  | 0 => 0
  | n + 1 => x * geo x y n + y ^ n
theorem geo_mul (x y : Int) (n : Nat) : (x - y) * geo x y n = x ^ n - y ^ n := by
  induction n with
  | zero => simp [geo]
  | succ n ih =>
    rw [geo, Int.mul_add, ← Int.mul_assoc, Int.mul_comm (x - y) x, Int.mul_assoc, ih, Int.pow_succ, Int.pow_succ]
    grind
theorem geo_mod {x y p : Int} (h : p ∣ x - y) (n : Nat) : p ∣ geo x y n - n * y ^ (n - 1) := by
  induction n with
  | zero => simp [geo]
  | succ n ih =>
    obtain ⟨t, ht⟩ := h
    obtain ⟨u, hu⟩ := ih
    have e1 : x = y + p * t := by omega
    have e2 : geo x y n = n * y ^ (n - 1) + p * u := by omega
    rw [geo, e2]
    cases n with
    | zero =>
      refine ⟨x * u, ?_⟩
      simp
      grind
    | succ n =>
      refine ⟨x * u + t * ((n + 1 : Nat) * y ^ n), ?_⟩
      simp only [Nat.add_sub_cancel, Int.pow_succ, Int.natCast_add, Int.natCast_one]
      rw [e1]
      grind
/-- what is alike by m is alike by p m behind the p-th power -/
theorem pow_lift {x y m : Int} {p : Nat} (h : m ∣ x - y) (hp : (p : Int) ∣ m) : (p * m : Int) ∣ x ^ p - y ^ p := by
  have h1 := geo_mod (Int.dvd_trans hp h) p
  obtain ⟨u, hu⟩ := h1
  obtain ⟨t, ht⟩ := h
  have e : geo x y p = p * (u + y ^ (p - 1)) := by grind
  refine ⟨t * (u + y ^ (p - 1)), ?_⟩
  rw [← geo_mul, ht, e]
  grind
/-- a^(p^j) alike with its p-th power by p^(j + 1) -/
theorem Pr.teich {p : Nat} (hp : Pr p) (a : Nat) (j : Nat) : ((p : Int) ^ (j + 1)) ∣ (a : Int) ^ (p ^ (j + 1)) - (a : Int) ^ (p ^ j) := by
  induction j with
  | zero =>
    have h := hp.fermat a
    have h2 : ((a ^ p : Nat) : Int) % p = (a : Int) % p := by rw [← Int.natCast_emod, ← Int.natCast_emod, h]
    simp only [Nat.zero_add, Nat.pow_one, Nat.pow_zero, Int.pow_one]
    rw [Int.natCast_pow] at h2
    have := Int.sub_emod ((a : Int) ^ p) a p
    rw [h2] at this
    simp at this
    exact Int.dvd_of_emod_eq_zero this
  | succ j ih =>
    have h1 := pow_lift (p := p) ih ⟨(p : Int) ^ j, by rw [Int.pow_succ, Int.mul_comm]⟩
    rw [← Int.pow_mul, ← Int.pow_mul, ← Nat.pow_succ, ← Nat.pow_succ] at h1
    rw [Int.pow_succ (p : Int) (j + 1), Int.mul_comm]
    exact h1
/-- a^(p^j) leaves a by p -/
theorem Pr.teich_one {p : Nat} (hp : Pr p) (a : Nat) (j : Nat) : a ^ (p ^ j) % p = a % p := by
  induction j with
  | zero => simp
  | succ j ih =>
    rw [Nat.pow_succ, Nat.pow_mul, hp.fermat, ih]
end Go.Proofs.YticgnjapgbjfiaaDoor
