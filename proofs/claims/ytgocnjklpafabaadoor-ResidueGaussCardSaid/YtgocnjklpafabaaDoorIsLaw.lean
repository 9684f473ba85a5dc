/- The plain law of prime.is: what it answers, and where that is right. -/
import Derived.Lib.TrailingZeros
namespace Go.Proofs.YtgocnjklpafabaaDoor

/-- a prime -/
def Pr (n : Nat) : Prop := 2 ≤ n ∧ ∀ d, d ∣ n → d = 1 ∨ d = n

/-- binomials -/
def bino : Nat → Nat → Nat
  | _, 0 => 1
  | 0, _ + 1 => 0
  | n + 1, k + 1 => bino n k + bino n (k + 1)
theorem bino_zero (n : Nat) : bino n 0 = 1 := by cases n <;> rfl
theorem bino_succ (n k : Nat) : bino (n + 1) (k + 1) = bino n k + bino n (k + 1) := rfl
theorem bino_over (n k : Nat) (h : n < k) : bino n k = 0 := by
  induction n generalizing k with
  | zero => cases k with
    | zero => omega
    | succ k => rfl
  | succ n ih => cases k with
    | zero => omega
    | succ k => rw [bino_succ, ih k (by omega), ih (k + 1) (by omega)]
theorem bino_self (n : Nat) : bino n n = 1 := by
  induction n with
  | zero => rfl
  | succ n ih => rw [bino_succ, ih, bino_over n (n + 1) (by omega)]
theorem bino_mul (n k : Nat) : (k + 1) * bino (n + 1) (k + 1) = (n + 1) * bino n k := by
  induction n generalizing k with
  | zero =>
    cases k with
    | zero => rfl
    | succ k => rw [bino_succ, bino_over 0 (k + 1) (by omega), bino_over 0 (k + 1 + 1) (by omega)]; simp
  | succ n ih =>
    cases k with
    | zero =>
      have := ih 0
      rw [bino_zero] at this
      rw [bino_succ (n + 1) 0, bino_zero]
      omega
    | succ k =>
      have h1 := ih k
      have h2 := ih (k + 1)
      rw [bino_succ (n + 1) (k + 1)]
      rw [Nat.mul_add, h2]
      have h3 : (k + 1 + 1) * bino (n + 1) (k + 1) = (k + 1) * bino (n + 1) (k + 1) + bino (n + 1) (k + 1) := by rw [Nat.add_mul (k + 1) 1, Nat.one_mul]
      rw [h3, h1, bino_succ n k]
      grind
/-- the first m terms of (a + 1)^n -/
def bsum (n a : Nat) : Nat → Nat
  | 0 => 0
  | m + 1 => bsum n a m + bino n m * a ^ m
theorem bsum_succ (n a m : Nat) : bsum (n + 1) a (m + 1) = bsum n a (m + 1) + a * bsum n a m := by
  induction m with
  | zero => simp [bsum, bino_zero]
  | succ m ih =>
    rw [bsum, ih]
    show _ = bsum n a (m + 1) + bino n (m + 1) * a ^ (m + 1) + a * (bsum n a m + bino n m * a ^ m)
    rw [bino_succ, Nat.pow_succ]
    grind
theorem bsum_all (n a : Nat) : bsum n a (n + 1) = (a + 1) ^ n := by
  induction n with
  | zero => simp [bsum, bino_zero]
  | succ n ih =>
    rw [bsum_succ, ih]
    rw [bsum, ih, bino_over n (n + 1) (by omega), Nat.pow_succ]
    grind

theorem Pr.coprime {p k : Nat} (hp : Pr p) (h : ¬ p ∣ k) : Nat.gcd p k = 1 := by
  rcases hp.2 _ (Nat.gcd_dvd_left p k) with h1 | h1
  · exact h1
  · exact (h (h1 ▸ Nat.gcd_dvd_right p k)).elim
theorem Pr.dvd_mul {p a b : Nat} (hp : Pr p) (h : p ∣ a * b) : p ∣ a ∨ p ∣ b := by
  by_cases ha : p ∣ a
  · exact .inl ha
  · exact .inr (Nat.Coprime.dvd_of_dvd_mul_left (hp.coprime ha) h)
theorem Pr.bino {p k : Nat} (hp : Pr p) (h0 : 0 < k) (hk : k < p) : p ∣ bino p k := by
  obtain ⟨n, rfl⟩ : ∃ n, p = n + 1 := ⟨p - 1, by omega⟩
  obtain ⟨j, rfl⟩ : ∃ j, k = j + 1 := ⟨k - 1, by omega⟩
  have h1 : n + 1 ∣ (j + 1) * Proofs.YtgocnjklpafabaaDoor.bino (n + 1) (j + 1) := ⟨_, bino_mul n j⟩
  rcases hp.dvd_mul h1 with h | h
  · exact absurd (Nat.le_of_dvd (by omega) h) (by omega)
  · exact h
theorem Pr.bsum {p : Nat} (hp : Pr p) (a m : Nat) (hm : m < p) : bsum p a (m + 1) % p = 1 := by
  have h2 := hp.1
  induction m with
  | zero =>
    rw [Proofs.YtgocnjklpafabaaDoor.bsum, Proofs.YtgocnjklpafabaaDoor.bsum, bino_zero]
    simp
    exact Nat.mod_eq_of_lt (by omega)
  | succ m ih =>
    obtain ⟨t, ht⟩ := hp.bino (k := m + 1) (by omega) hm
    rw [Proofs.YtgocnjklpafabaaDoor.bsum, ht, Nat.mul_assoc, Nat.add_mul_mod_self_left]
    exact ih (by omega)
theorem Pr.fermat {p : Nat} (hp : Pr p) (a : Nat) : a ^ p % p = a % p := by
  have h2 := hp.1
  induction a with
  | zero => rw [Nat.zero_pow (by omega)]
  | succ a ih =>
    have h1 := bsum_all p a
    obtain ⟨m, hm⟩ : ∃ m, p = m + 1 := ⟨p - 1, by omega⟩
    rw [Proofs.YtgocnjklpafabaaDoor.bsum, bino_self, Nat.one_mul] at h1
    have h3 := hp.bsum a (p - 1) (by omega)
    rw [show p - 1 + 1 = p from by omega] at h3
    rw [← h1, Nat.add_mod, h3, ih, ← Nat.add_mod_mod, Nat.mod_mod, Nat.add_comm 1, Nat.add_mod]
    simp

/-- x^n - y^n without the factor x - y -/
def geo (x y : Int) : Nat → Int
  | 0 => 0
  | n + 1 => x * geo x y n + y ^ n
theorem geo_mul (x y : Int) (n : Nat) : (x - y) * geo x y n = x ^ n - y ^ n := by
  induction n with
  | zero => simp [geo]
  | succ n ih =>
    rw [geo, Int.mul_add, ← Int.mul_assoc, Int.mul_comm (x - y) x, Int.mul_assoc, ih, Int.pow_succ, Int.pow_succ]
    grind
theorem geo_mod {x y p : Int} (h : p ∣ x - y) (n : Nat) : p ∣ geo x y n - n * y ^ (n - 1) := by
  induction n with
  | zero => simp [geo]
  | succ n ih =>
    obtain ⟨t, ht⟩ := h
    obtain ⟨u, hu⟩ := ih
    have e1 : x = y + p * t := by omega
    have e2 : geo x y n = n * y ^ (n - 1) + p * u := by omega
    rw [geo, e2]
    cases n with
    | zero =>
      refine ⟨x * u, ?_⟩
      simp
      grind
    | succ n =>
      refine ⟨x * u + t * ((n + 1 : Nat) * y ^ n), ?_⟩
      simp only [Nat.add_sub_cancel, Int.pow_succ, Int.natCast_add, Int.natCast_one]
      rw [e1]
      grind
/-- what is alike by m is alike by p m behind the p-th power -/
theorem pow_lift {x y m : Int} {p : Nat} (h : m ∣ x - y) (hp : (p : Int) ∣ m) : (p * m : Int) ∣ x ^ p - y ^ p := by
  have h1 := geo_mod (Int.dvd_trans hp h) p
  obtain ⟨u, hu⟩ := h1
  obtain ⟨t, ht⟩ := h
  have e : geo x y p = p * (u + y ^ (p - 1)) := by grind
  refine ⟨t * (u + y ^ (p - 1)), ?_⟩
  rw [← geo_mul, ht, e]
  grind
/-- a^(p^j) alike with its p-th power by p^(j + 1) -/
theorem Pr.teich {p : Nat} (hp : Pr p) (a : Nat) (j : Nat) : ((p : Int) ^ (j + 1)) ∣ (a : Int) ^ (p ^ (j + 1)) - (a : Int) ^ (p ^ j) := by
  induction j with
  | zero =>
    have h := hp.fermat a
    have h2 : ((a ^ p : Nat) : Int) % p = (a : Int) % p := by rw [← Int.natCast_emod, ← Int.natCast_emod, h]
    simp only [Nat.zero_add, Nat.pow_one, Nat.pow_zero, Int.pow_one]
    rw [Int.natCast_pow] at h2
    have := Int.sub_emod ((a : Int) ^ p) a p
    rw [h2] at this
    simp at this
    exact Int.dvd_of_emod_eq_zero this
  | succ j ih =>
    have h1 := pow_lift (p := p) ih ⟨(p : Int) ^ j, by rw [Int.pow_succ, Int.mul_comm]⟩
    rw [← Int.pow_mul, ← Int.pow_mul, ← Nat.pow_succ, ← Nat.pow_succ] at h1
    rw [Int.pow_succ (p : Int) (j + 1), Int.mul_comm]
    exact h1
/-- a^(p^j) leaves a by p -/
theorem Pr.teich_one {p : Nat} (hp : Pr p) (a : Nat) (j : Nat) : a ^ (p ^ j) % p = a % p := by
  induction j with
  | zero => simp
  | succ j ih =>
    rw [Nat.pow_succ, Nat.pow_mul, hp.fermat, ih]
end Go.Proofs.YtgocnjklpafabaaDoor

namespace Go.Proofs.YtgocnjklpafabaaDoor

theorem dvd_sub_mod {a b n : Nat} (h : b % n = a % n) : n ∣ b - a := Nat.dvd_of_mod_eq_zero (Nat.sub_mod_eq_zero_of_mod_eq h)
theorem mod_of_dvd_sub {a b n : Nat} (h : a ≤ b) (hd : n ∣ b - a) : b % n = a % n := by
  obtain ⟨t, ht⟩ := hd
  rw [show b = a + n * t from by omega, Nat.add_mul_mod_self_left]
/-- nothing from 2 on and below k divides n -/
def noDiv (n : Nat) (k : Nat) : Prop := ∀ d, 2 ≤ d → d < k → ¬ d ∣ n
theorem noDiv_two (n : Nat) : noDiv n 2 := fun d h1 h2 => by omega
theorem noDiv_next {n k : Nat} (h : noDiv n k) (hk : n % k ≠ 0) : noDiv n (k + 1) := by
  intro d h1 h2 h3
  rcases Nat.lt_or_ge d k with h4 | h4
  · exact h d h1 h4 h3
  · have : d = k := by omega
    subst this
    exact hk (Nat.mod_eq_zero_of_dvd h3)
theorem Pr.of_noDiv {n k : Nat} (h2 : 2 ≤ n) (h : noDiv n k) (hk : n < k * k) : Pr n := by
  refine ⟨h2, fun d ⟨e, he⟩ => ?_⟩
  rcases Nat.eq_zero_or_pos d with h0 | h0
  · subst h0; simp at he; omega
  rcases Nat.eq_zero_or_pos e with h1 | h1
  · subst h1; simp at he; omega
  rcases Nat.lt_or_ge d k with hd | hd
  · rcases Nat.lt_or_ge d 2 with h3 | h3
    · exact .inl (by omega)
    · exact (h d h3 hd ⟨e, he⟩).elim
  · rcases Nat.lt_or_ge e k with h4 | h4
    · rcases Nat.lt_or_ge e 2 with h3 | h3
      · have : e = 1 := by omega
        subst this
        exact .inr (by omega)
      · exact (h e h3 h4 ⟨d, by rw [he, Nat.mul_comm]⟩).elim
    · have := Nat.mul_le_mul hd h4
      omega
theorem not_Pr_of_dvd {n d : Nat} (h2 : 2 ≤ d) (hn : d < n) (h : d ∣ n) : ¬ Pr n := fun hp => by
  rcases hp.2 d h with h1 | h1 <;> omega
theorem Pr.noDiv {n k : Nat} (h : Pr n) (hk : k ≤ n) : noDiv n k := fun d h1 h2 h3 => by
  rcases h.2 d h3 with h4 | h4 <;> omega
/-- the least divisor -/
theorem least_div {n : Nat} (h2 : 2 ≤ n) : ∃ p, Pr p ∧ p ∣ n := by
  induction n using Nat.strongRecOn with
  | _ n ih =>
    by_cases hp : Pr n
    · exact ⟨n, hp, Nat.dvd_refl n⟩
    · have : ¬ ∀ d, d ∣ n → d = 1 ∨ d = n := fun h => hp ⟨h2, h⟩
      obtain ⟨d, hd⟩ := Classical.not_forall.1 this
      obtain ⟨h1, h3⟩ := Classical.not_imp.1 hd
      have h4 : d ≠ 0 := fun h => by subst h; have := Nat.eq_zero_of_zero_dvd h1; omega
      have h5 := Nat.le_of_dvd (by omega) h1
      obtain ⟨p, q1, q2⟩ := ih d (by omega) (by omega)
      exact ⟨p, q1, Nat.dvd_trans q2 h1⟩
theorem Pr.root_one {p x : Nat} (hp : Pr p) (h : x * x % p = 1) : x % p = 1 ∨ x % p = p - 1 := by
  have h2 := hp.1
  have hx : 1 ≤ x := by
    rcases Nat.eq_zero_or_pos x with h0 | h0
    · subst h0; simp at h
    · exact h0
  have h3 : p ∣ (x - 1) * (x + 1) := by
    have e : (x - 1) * (x + 1) = x * x - 1 := by
      obtain ⟨y, rfl⟩ : ∃ y, x = y + 1 := ⟨x - 1, by omega⟩
      simp only [Nat.add_sub_cancel]
      have : (y + 1) * (y + 1) = y * (y + 1 + 1) + 1 := by grind
      omega
    rw [e]
    exact dvd_sub_mod (by rw [h]; exact (Nat.mod_eq_of_lt (by omega)).symm)
  rcases hp.dvd_mul h3 with ⟨t, h4⟩ | ⟨t, h4⟩
  · left
    have : x = 1 + p * t := by omega
    rw [this, Nat.add_mul_mod_self_left]
    exact Nat.mod_eq_of_lt (by omega)
  · right
    have ht : 1 ≤ t := by
      rcases Nat.eq_zero_or_pos t with h0 | h0
      · subst h0; simp at h4
      · exact h0
    obtain ⟨u, rfl⟩ : ∃ u, t = u + 1 := ⟨t - 1, by omega⟩
    have : x = (p - 1) + p * u := by have : p * (u + 1) = p * u + p := Nat.mul_succ _ _; omega
    rw [this, Nat.add_mul_mod_self_left]
    exact Nat.mod_eq_of_lt (by omega)

/-- n - 1 = 2^s d, d odd: does a base's test say that n may be a prime? -/
def mrOk (n a d s : Nat) : Prop := a ^ d % n = 1 ∨ ∃ i, i < s ∧ a ^ (d * 2 ^ i) % n = n - 1
/-- a prime passes the test of each base that it does not divide -/
theorem Pr.mr {n a d s : Nat} (hp : Pr n) (ha : ¬ n ∣ a) (he : n - 1 = d * 2 ^ s) : mrOk n a d s := by
  have h2 := hp.1
  have hf : a ^ (d * 2 ^ s) % n = 1 := by
    have h := hp.fermat a
    rw [show n = (n - 1) + 1 from by omega, Nat.pow_succ, ← show n = (n - 1) + 1 from by omega, he] at h
    have h1 : n ∣ (a ^ (d * 2 ^ s) - 1) * a := by
      rw [Nat.sub_mul, Nat.one_mul]
      exact dvd_sub_mod h
    have ha0 : 0 < a := by
      rcases Nat.eq_zero_or_pos a with h0 | h0
      · exact (ha (by rw [h0]; exact ⟨0, rfl⟩)).elim
      · exact h0
    have hpos : 1 ≤ a ^ (d * 2 ^ s) := Nat.pow_pos ha0
    rcases hp.dvd_mul h1 with h3 | h3
    · rw [mod_of_dvd_sub hpos h3]; exact Nat.mod_eq_of_lt (by omega)
    · exact (ha h3).elim
  have key : ∀ i, a ^ (d * 2 ^ i) % n = 1 → a ^ d % n = 1 ∨ ∃ j, j < i ∧ a ^ (d * 2 ^ j) % n = n - 1 := by
    intro i
    induction i with
    | zero => intro h; left; simpa using h
    | succ i ih =>
      intro h
      have e : a ^ (d * 2 ^ (i + 1)) = a ^ (d * 2 ^ i) * a ^ (d * 2 ^ i) := by
        rw [← Nat.pow_add, Nat.pow_succ]; congr 1; grind
      rw [e] at h
      rcases hp.root_one h with h1 | h1
      · rcases ih h1 with h3 | ⟨j, hj, h3⟩
        · exact .inl h3
        · exact .inr ⟨j, by omega, h3⟩
      · exact .inr ⟨i, by omega, h1⟩
  exact key s hf
end Go.Proofs.YtgocnjklpafabaaDoor

namespace Go.Proofs.YtgocnjklpafabaaDoor

def sqB (n : Nat) : Nat → Nat → Bool
  | 0, _ => false
  | k + 1, x => if x * x % n = n - 1 then true else sqB n k (x * x % n)
/-- one base's test -/
def mrB (n d s a : Nat) : Bool := if a ^ d % n = 1 ∨ a ^ d % n = n - 1 then true else sqB n (s - 1) (a ^ d % n)
def tz (n : Nat) : Nat := Lib.ctz 64 (n - 1)
def bases : List Nat := [2, 3, 5, 7, 11, 13, 17, 19, 23, 29, 31, 37]
def mrAll (n : Nat) : Bool := bases.all (mrB n ((n - 1) / 2 ^ tz n) (tz n))
/-- a number below a thousand divides n and is no greater than n's root -/
def hit (n : Nat) : Prop := ∃ d, 2 ≤ d ∧ d < 1000 ∧ d * d ≤ n ∧ d ∣ n
noncomputable def hitB (n : Nat) : Bool := @decide (hit n) (Classical.propDecidable _)
noncomputable def isB (n : Nat) : Bool := if hitB n = true then false else if n < 998001 then true else mrAll n
noncomputable def prB (n : Nat) : Bool := @decide (Pr n) (Classical.propDecidable _)

theorem hitB_true {n : Nat} (h : hit n) : hitB n = true := by unfold hitB; simpa using h
theorem hitB_false {n : Nat} (h : ¬ hit n) : hitB n = false := by unfold hitB; simpa using h
theorem hit_of {n : Nat} (h : hitB n = true) : hit n := by unfold hitB at h; simpa using h
theorem not_hit_of {n : Nat} (h : hitB n = false) : ¬ hit n := by unfold hitB at h; simpa using h
theorem prB_true {n : Nat} (h : Pr n) : prB n = true := by unfold prB; simpa using h
theorem prB_false {n : Nat} (h : ¬ Pr n) : prB n = false := by unfold prB; simpa using h
theorem Pr_of {n : Nat} (h : prB n = true) : Pr n := by unfold prB at h; simpa using h
theorem not_Pr_of {n : Nat} (h : prB n = false) : ¬ Pr n := by unfold prB at h; simpa using h

/-- what is no prime has a divisor that is no greater than its root -/
theorem comp_div {n : Nat} (h2 : 2 ≤ n) (h : ¬ Pr n) : ∃ d, 2 ≤ d ∧ d * d ≤ n ∧ d ∣ n := by
  have : ¬ ∀ d, d ∣ n → d = 1 ∨ d = n := fun h' => h ⟨h2, h'⟩
  obtain ⟨d, hd⟩ := Classical.not_forall.1 this
  obtain ⟨⟨e, he⟩, h3⟩ := Classical.not_imp.1 hd
  have hd0 : d ≠ 0 := fun h => by subst h; simp at he; omega
  have he0 : e ≠ 0 := fun h => by subst h; simp at he; omega
  have he1 : e ≠ 1 := fun h => by subst h; simp at he; omega
  rcases Nat.le_total d e with h4 | h4
  · exact ⟨d, by omega, by rw [he]; exact Nat.mul_le_mul_left _ h4, ⟨e, he⟩⟩
  · exact ⟨e, by omega, by rw [he]; exact Nat.mul_le_mul_right _ h4, ⟨d, by rw [he, Nat.mul_comm]⟩⟩
theorem Pr.no_hit {n : Nat} (h : Pr n) : ¬ hit n := by
  rintro ⟨d, h1, _, h3, h4⟩
  refine not_Pr_of_dvd h1 ?_ h4 h
  have := Nat.mul_le_mul h1 (Nat.le_refl d)
  omega
theorem sqB_of {n : Nat} : ∀ (k x : Nat), (∃ i, i < k ∧ x ^ (2 ^ (i + 1)) % n = n - 1) → sqB n k x = true := by
  intro k
  induction k with
  | zero => rintro x ⟨i, hi, _⟩; omega
  | succ k ih =>
    rintro x ⟨i, hi, h⟩
    rw [sqB]
    split
    · rfl
    · rename_i hn
      refine ih _ ?_
      cases i with
      | zero => simp [Nat.pow_succ] at h; exact (hn h).elim
      | succ i =>
        refine ⟨i, by omega, ?_⟩
        rw [← Nat.pow_mod, ← h]
        congr 1
        rw [show x * x = x ^ 2 from (Nat.pow_two x).symm, ← Nat.pow_mul, Nat.pow_succ 2 (i + 1), Nat.mul_comm]
theorem mrB_of {n a d s : Nat} (h : mrOk n a d s) : mrB n d s a = true := by
  unfold mrB
  split
  · rfl
  · rename_i hn
    rcases h with h | ⟨i, hi, h⟩
    · exact (hn (.inl h)).elim
    · cases i with
      | zero => simp at h; exact (hn (.inr h)).elim
      | succ i =>
        refine sqB_of _ _ ⟨i, by omega, ?_⟩
        rw [← Nat.pow_mod, ← Nat.pow_mul, h]
theorem tz_spec {n : Nat} (h2 : 2 ≤ n) (h : n < 18446744073709551616) : n - 1 = (n - 1) / 2 ^ tz n * 2 ^ tz n ∧ (n - 1) / 2 ^ tz n % 2 = 1 ∧ tz n < 64 := by
  obtain ⟨m, hm, hk⟩ := Lib.ctzFrom_spec 64 (n - 1) (by omega) (by omega)
  have e : tz n = Lib.ctzFrom 64 (n - 1) := by unfold tz Lib.ctz; rw [if_neg (by omega)]
  rw [← e] at hm hk
  have e2 : (n - 1) / 2 ^ tz n = 2 * m + 1 := by
    rw [hm]; exact Nat.mul_div_cancel_left _ (Nat.two_pow_pos _)
  exact ⟨by rw [e2, Nat.mul_comm]; exact hm, by rw [e2]; omega, hk⟩
/-- a prime is told to be one -/
theorem Pr.isB {n : Nat} (h : Pr n) (hn : n < 18446744073709551616) : isB n = true := by
  unfold Proofs.YtgocnjklpafabaaDoor.isB
  rw [hitB_false h.no_hit, if_neg (by simp)]
  split
  · rfl
  · unfold mrAll
    rw [List.all_eq_true]
    intro a ha
    refine mrB_of (h.mr (fun hd => ?_) (tz_spec h.1 hn).1)
    have ha2 : 2 ≤ a ∧ a ≤ 37 := by
      have : ∀ a ∈ bases, 2 ≤ a ∧ a ≤ 37 := by decide
      exact this a ha
    have := Nat.le_of_dvd (by omega) hd
    omega
/-- of small numbers it is right -/
theorem isB_small {n : Nat} (h2 : 2 ≤ n) (hn : n ≤ 1000000) : isB n = prB n := by
  by_cases h : Pr n
  · rw [h.isB (by omega), prB_true h]
  · rw [prB_false h]
    obtain ⟨d, h3, h4, h5⟩ := comp_div h2 h
    have hh : hit n := by
      rcases Nat.lt_or_ge d 1000 with h6 | h6
      · exact ⟨d, h3, h6, h4, h5⟩
      · have := Nat.mul_le_mul h6 h6
        have : n = 1000000 := by omega
        exact ⟨2, by omega, by omega, by omega, by rw [this]; exact ⟨500000, rfl⟩⟩
    unfold isB
    rw [hitB_true hh, if_pos rfl]
end Go.Proofs.YtgocnjklpafabaaDoor
