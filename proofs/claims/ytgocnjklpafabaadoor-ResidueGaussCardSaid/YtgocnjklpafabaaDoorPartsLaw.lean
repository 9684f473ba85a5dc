/- Plain laws: up to 10^8 the program's test of primes is right; a number's parts: a rising list of its primes, and its powers out of that list. -/
import Derived.Test.YtgocnjklpafabaaDoorIsLaw
namespace Go.Proofs.YtgocnjklpafabaaDoor

theorem pw_mul {a n k : Nat} (hn : 1 < n) (h : a ^ k % n = 1) (j : Nat) : a ^ (k * j) % n = 1 := by
  rw [Nat.pow_mul, Nat.pow_mod, h, Nat.one_pow]; exact Nat.mod_eq_of_lt hn
theorem pw_diff {a n k m : Nat} (h1 : a ^ k % n = 1) (h2 : a ^ (k + m) % n = 1) : a ^ m % n = 1 := by
  rw [Nat.pow_add, Nat.mul_mod, h1, Nat.one_mul, Nat.mod_mod] at h2; exact h2
theorem pw_gcd {a n : Nat} (hn : 1 < n) (m k : Nat) : a ^ m % n = 1 → a ^ k % n = 1 → a ^ Nat.gcd m k % n = 1 := by
  induction m, k using Nat.gcd.induction with
  | H0 k => intro _ h; rw [Nat.gcd_zero_left]; exact h
  | H1 m k hm ih =>
    intro h1 h2
    rw [Nat.gcd_rec]
    refine ih ?_ h1
    refine pw_diff (pw_mul hn h1 (k / m)) ?_
    rw [Nat.div_add_mod]; exact h2
theorem Pr.fermat1 {p a : Nat} (hp : Pr p) (ha : ¬ p ∣ a) : a ^ (p - 1) % p = 1 := by
  have h2 := hp.1
  have h := hp.fermat a
  rw [show p = (p - 1) + 1 from by omega, Nat.pow_succ, ← show p = (p - 1) + 1 from by omega] at h
  have h1 : p ∣ (a ^ (p - 1) - 1) * a := by
    rw [Nat.sub_mul, Nat.one_mul]
    exact dvd_sub_mod h
  have ha0 : 0 < a := by
    rcases Nat.eq_zero_or_pos a with h0 | h0
    · exact (ha (by rw [h0]; exact ⟨0, rfl⟩)).elim
    · exact h0
  have hpos : 1 ≤ a ^ (p - 1) := Nat.pow_pos ha0
  rcases hp.dvd_mul h1 with h3 | h3
  · rw [mod_of_dvd_sub hpos h3]; exact Nat.mod_eq_of_lt (by omega)
  · exact (ha h3).elim

theorem sqB_to {n : Nat} : ∀ (k x : Nat), sqB n k x = true → ∃ i, i < k ∧ x ^ (2 ^ (i + 1)) % n = n - 1 := by
  intro k
  induction k with
  | zero => intro x h; simp [sqB] at h
  | succ k ih =>
    intro x h
    rw [sqB] at h
    split at h
    · rename_i h1; exact ⟨0, by omega, by rw [← h1]; congr 1; rw [Nat.zero_add, Nat.pow_one, Nat.pow_two]⟩
    · obtain ⟨i, hi, h2⟩ := ih _ h
      refine ⟨i + 1, by omega, ?_⟩
      rw [← Nat.pow_mod] at h2
      rw [← h2]
      congr 1
      rw [← Nat.pow_two, ← Nat.pow_mul, Nat.pow_succ 2 (i + 1), Nat.mul_comm]
theorem less_sq {n : Nat} (hn : 1 < n) : (n - 1) * (n - 1) % n = 1 := by
  obtain ⟨m, rfl⟩ : ∃ m, n = m + 2 := ⟨n - 2, by omega⟩
  rw [show m + 2 - 1 = m + 1 from rfl, show (m + 1) * (m + 1) = 1 + (m + 2) * m from by grind, Nat.add_mul_mod_self_left]
  exact Nat.mod_eq_of_lt hn
theorem half_one {n x : Nat} (hn : 1 < n) (h : x % n = n - 1) : x ^ 2 % n = 1 := by
  rw [Nat.pow_mod, h, Nat.pow_two]; exact less_sq hn
/-- what passes a base's test passes FERMAT's -/
theorem mrB_fermat {n d s a : Nat} (hn : 1 < n) (hs : 1 ≤ s) (h : mrB n d s a = true) : a ^ (d * 2 ^ s) % n = 1 := by
  have step : ∀ i, i < s → a ^ (d * 2 ^ i) % n = n - 1 → a ^ (d * 2 ^ s) % n = 1 := by
    intro i hi h1
    have h2 := half_one hn h1
    rw [← Nat.pow_mul, Nat.mul_assoc, ← Nat.pow_succ] at h2
    have h3 := pw_mul hn h2 (2 ^ (s - (i + 1)))
    rw [Nat.mul_assoc, ← Nat.pow_add, show i.succ + (s - (i + 1)) = s from by omega] at h3
    exact h3
  unfold mrB at h
  split at h
  · rename_i h1
    rcases h1 with h1 | h1
    · exact pw_mul hn h1 _
    · exact step 0 (by omega) (by simpa using h1)
  · obtain ⟨i, hi, h2⟩ := sqB_to _ _ h
    refine step (i + 1) (by omega) ?_
    rw [← h2, ← Nat.pow_mod, ← Nat.pow_mul]

/-- a product of 2^d numbers from a on -/
def prodR (a : Nat) : Nat → Nat
  | 0 => a
  | d + 1 => prodR a d * prodR (a + 2 ^ d) d
theorem Pr.prodR {q : Nat} (hq : Pr q) : ∀ d a, q ∣ prodR a d → ∃ x, a ≤ x ∧ x < a + 2 ^ d ∧ q ∣ x := by
  intro d
  induction d with
  | zero => intro a h; exact ⟨a, Nat.le_refl _, by simp, h⟩
  | succ d ih =>
    intro a h
    rw [Proofs.YtgocnjklpafabaaDoor.prodR] at h
    have hp : 2 ^ (d + 1) = 2 ^ d + 2 ^ d := by rw [Nat.pow_succ]; omega
    rcases hq.dvd_mul h with h1 | h1
    · obtain ⟨x, h2, h3, h4⟩ := ih _ h1; exact ⟨x, h2, by omega, h4⟩
    · obtain ⟨x, h2, h3, h4⟩ := ih _ h1; exact ⟨x, by omega, by omega, h4⟩
theorem Pr.le_prod {q d : Nat} (hq : Pr q) (h : q ∣ Proofs.YtgocnjklpafabaaDoor.prodR 1 d) : q ≤ 2 ^ d := by
  obtain ⟨x, h1, h2, h3⟩ := hq.prodR d 1 h
  have := Nat.le_of_dvd (by omega) h3
  omega

def gD (g : Nat) : Nat := bases.foldl (fun D a => Nat.gcd D (a ^ g - 1)) 0
theorem dvd_foldl {q g : Nat} : ∀ (l : List Nat) (D : Nat), q ∣ D → (∀ a ∈ l, q ∣ a ^ g - 1) → q ∣ l.foldl (fun D a => Nat.gcd D (a ^ g - 1)) D := by
  intro l
  induction l with
  | nil => intro D h _; exact h
  | cons a r ih =>
    intro D h h2
    exact ih _ (Nat.dvd_gcd h (h2 a (List.mem_cons_self ..))) (fun b hb => h2 b (List.mem_cons_of_mem _ hb))
theorem dvd_gD {q g : Nat} (h : ∀ a ∈ bases, q ∣ a ^ g - 1) : q ∣ gD g := dvd_foldl _ _ ⟨0, rfl⟩ h
def chkG (F g : Nat) : Bool := decide ((F % gD g) ^ 8 % gD g = 0)
def chkN (F lo : Nat) : Nat → Bool
  | 0 => true
  | k + 1 => chkG F (lo + 2 * k) && chkN F lo k
theorem chkN_get {F lo : Nat} : ∀ {k : Nat}, chkN F lo k = true → ∀ i, i < k → chkG F (lo + 2 * i) = true := by
  intro k
  induction k with
  | zero => intro _ i hi; omega
  | succ k ih =>
    intro h i hi
    rw [chkN, Bool.and_eq_true] at h
    rcases Nat.lt_or_ge i k with h1 | h1
    · exact ih h.2 i h1
    · have : i = k := by omega
      subst this
      exact h.1
theorem Pr.dvd_pow {q x : Nat} (hq : Pr q) : ∀ k, q ∣ x ^ k → q ∣ x := by
  intro k
  induction k with
  | zero =>
    intro h
    have h2 := hq.1
    rw [Nat.pow_zero] at h
    have := Nat.le_of_dvd (by omega) h
    omega
  | succ k ih =>
    intro h
    rw [Nat.pow_succ] at h
    rcases hq.dvd_mul h with h1 | h1
    · exact ih h1
    · exact h1
theorem chkG_le {q g d : Nat} (hq : Pr q) (hg : chkG (Proofs.YtgocnjklpafabaaDoor.prodR 1 d) g = true) (h : ∀ a ∈ bases, q ∣ a ^ g - 1) : q ≤ 2 ^ d := by
  have h1 : (Proofs.YtgocnjklpafabaaDoor.prodR 1 d % gD g) ^ 8 % gD g = 0 := by unfold chkG at hg; simpa using hg
  have h2 := dvd_gD h
  have h3 : q ∣ Proofs.YtgocnjklpafabaaDoor.prodR 1 d % gD g := hq.dvd_pow 8 (Nat.dvd_trans h2 (Nat.dvd_of_mod_eq_zero h1))
  refine hq.le_prod ?_
  rw [← Nat.div_add_mod (Proofs.YtgocnjklpafabaaDoor.prodR 1 d) (gD g)]
  exact Nat.dvd_add (Nat.dvd_trans h2 ⟨_, rfl⟩) h3
theorem chk1 : chkN (prodR 1 9) 2 255 = true := by decide +kernel
theorem chk2 : chkN (prodR 1 10) 512 256 = true := by decide +kernel
theorem chk3 : chkN (prodR 1 11) 1024 512 = true := by decide +kernel
theorem chk4 : chkN (prodR 1 12) 2048 1024 = true := by decide +kernel
theorem chk5 : chkN (prodR 1 13) 4096 1489 = true := by decide +kernel
/-- a prime above 1000 and above 2 g divides not all of a^g - 1 -/
theorem no_g {q g : Nat} (hq : Pr q) (h1 : 1000 < q) (h2 : 2 * g < q) (he : g % 2 = 0) (h0 : 0 < g) (hg : g ≤ 7072) (h : ∀ a ∈ bases, q ∣ a ^ g - 1) : False := by
  rcases Nat.lt_or_ge g 512 with h3 | h3
  · have := chkG_le (d := 9) hq (by have := chkN_get chk1 ((g - 2) / 2) (by omega); rwa [show 2 + 2 * ((g - 2) / 2) = g from by omega] at this) h
    omega
  rcases Nat.lt_or_ge g 1024 with h4 | h4
  · have := chkG_le (d := 10) hq (by have := chkN_get chk2 ((g - 512) / 2) (by omega); rwa [show 512 + 2 * ((g - 512) / 2) = g from by omega] at this) h
    omega
  rcases Nat.lt_or_ge g 2048 with h5 | h5
  · have := chkG_le (d := 11) hq (by have := chkN_get chk3 ((g - 1024) / 2) (by omega); rwa [show 1024 + 2 * ((g - 1024) / 2) = g from by omega] at this) h
    omega
  rcases Nat.lt_or_ge g 4096 with h6 | h6
  · have := chkG_le (d := 12) hq (by have := chkN_get chk4 ((g - 2048) / 2) (by omega); rwa [show 2048 + 2 * ((g - 2048) / 2) = g from by omega] at this) h
    omega
  · have := chkG_le (d := 13) hq (by have := chkN_get chk5 ((g - 4096) / 2) (by omega); rwa [show 4096 + 2 * ((g - 4096) / 2) = g from by omega] at this) h
    omega

theorem bases_small : ∀ a ∈ bases, 2 ≤ a ∧ a ≤ 37 := by decide
theorem semi {p q : Nat} (hp : Pr p) (hq : Pr q) (hlt : p < q) (hp1 : 1000 ≤ p) (hn : p * q ≤ 100000000) (hall : ∀ a ∈ bases, a ^ (p * q - 1) % (p * q) = 1) : False := by
  have hop : p % 2 = 1 := by
    rcases (by omega : p % 2 = 1 ∨ p % 2 = 0) with h | h
    · exact h
    · exact absurd hp (not_Pr_of_dvd (d := 2) (by omega) (by omega) (Nat.dvd_of_mod_eq_zero h))
  have hoq : q % 2 = 1 := by
    rcases (by omega : q % 2 = 1 ∨ q % 2 = 0) with h | h
    · exact h
    · exact absurd hq (not_Pr_of_dvd (d := 2) (by omega) (by omega) (Nat.dvd_of_mod_eq_zero h))
  have hgp : Nat.gcd (p - 1) (q - 1) ∣ p - 1 := Nat.gcd_dvd_left _ _
  have hgq : Nat.gcd (p - 1) (q - 1) ∣ q - 1 := Nat.gcd_dvd_right _ _
  have h2g : 2 ∣ Nat.gcd (p - 1) (q - 1) := Nat.dvd_gcd ⟨(p - 1) / 2, by omega⟩ ⟨(q - 1) / 2, by omega⟩
  have hdiv : ∀ a ∈ bases, q ∣ a ^ Nat.gcd (p - 1) (q - 1) - 1 := by
    intro a ha
    have hs := bases_small a ha
    have h1 : a ^ (p * q - 1) % q = 1 := by
      have := congrArg (· % q) (hall a ha)
      simp only [Nat.mod_mod_of_dvd _ (show q ∣ p * q from ⟨p, Nat.mul_comm _ _⟩)] at this
      rw [this]; exact Nat.mod_eq_of_lt (by omega)
    have h2 : a ^ (q - 1) % q = 1 := hq.fermat1 (fun hd => by have := Nat.le_of_dvd (by omega) hd; omega)
    have h3 : a ^ (p - 1) % q = 1 := by
      refine pw_diff (pw_mul (by omega) h2 p) ?_
      have e : (q - 1) * p + (p - 1) = p * q - 1 := by
        rw [Nat.sub_mul, Nat.one_mul, Nat.mul_comm q p]
        have : p ≤ p * q := Nat.le_mul_of_pos_right p (by omega)
        omega
      rw [e]; exact h1
    have h4 := pw_gcd (by omega) _ _ h3 h2
    exact dvd_sub_mod (by rw [h4]; exact (Nat.mod_eq_of_lt (by omega)).symm)
  have hg0 : 0 < Nat.gcd (p - 1) (q - 1) := Nat.gcd_pos_of_pos_left _ (by omega)
  have hle := Nat.le_of_dvd (by omega) hgp
  obtain ⟨g, hg⟩ : ∃ g, Nat.gcd (p - 1) (q - 1) = g := ⟨_, rfl⟩
  rw [hg] at hgp hgq h2g hdiv hg0 hle
  obtain ⟨t, ht⟩ := hgq
  have ht2 : 2 ≤ t := by
    match t with
    | 0 => simp at ht; omega
    | 1 => simp at ht; omega
    | k + 2 => omega
  have h5 : 2 * g ≤ q - 1 := by
    rw [ht, Nat.mul_comm]; exact Nat.mul_le_mul_left g ht2
  have h6 : g ≤ 7072 := by
    rcases Nat.lt_or_ge 7072 g with h | h
    · have a1 : 7073 ≤ p := by omega
      have a2 : 14147 ≤ q := by omega
      have := Nat.mul_le_mul a1 a2
      omega
    · exact h
  obtain ⟨u, hu⟩ := h2g
  exact no_g hq (by omega) (by omega) (by omega) hg0 h6 hdiv

def chkW (lo : Nat) : Nat → Bool
  | 0 => true
  | k + 1 => !(2 ^ (lo + 2 * k - 1) % ((lo + 2 * k) * (lo + 2 * k)) == 1 && 3 ^ (lo + 2 * k - 1) % ((lo + 2 * k) * (lo + 2 * k)) == 1) && chkW lo k
theorem chkW_get {lo : Nat} : ∀ {k : Nat}, chkW lo k = true → ∀ i, i < k → ¬ (2 ^ (lo + 2 * i - 1) % ((lo + 2 * i) * (lo + 2 * i)) = 1 ∧ 3 ^ (lo + 2 * i - 1) % ((lo + 2 * i) * (lo + 2 * i)) = 1) := by
  intro k
  induction k with
  | zero => intro _ i hi; omega
  | succ k ih =>
    intro h i hi
    rw [chkW, Bool.and_eq_true] at h
    rcases Nat.lt_or_ge i k with h1 | h1
    · exact ih h.2 i h1
    · have : i = k := by omega
      subst this
      have := h.1
      simp only [Bool.not_eq_true', Bool.and_eq_false_iff, beq_eq_false_iff_ne] at this
      rintro ⟨a, b⟩
      rcases this with c | c
      · exact c a
      · exact c b
theorem chkW1 : chkW 1001 4500 = true := by decide +kernel
theorem square {p : Nat} (hp : Pr p) (hp1 : 1000 ≤ p) (hn : p * p ≤ 100000000) (hall : ∀ a ∈ bases, a ^ (p * p - 1) % (p * p) = 1) : False := by
  have hop : p % 2 = 1 := by
    rcases (by omega : p % 2 = 1 ∨ p % 2 = 0) with h | h
    · exact h
    · exact absurd hp (not_Pr_of_dvd (d := 2) (by omega) (by omega) (Nat.dvd_of_mod_eq_zero h))
  have hp2 : p ≤ 10000 := by
    rcases Nat.lt_or_ge 10000 p with h | h
    · have := Nat.mul_le_mul (show 10001 ≤ p by omega) (show 10001 ≤ p by omega); omega
    · exact h
  have key : ∀ a ∈ bases, a ^ (p - 1) % (p * p) = 1 := by
    intro a ha
    have hs := bases_small a ha
    have hpp : 1 < p * p := by have := Nat.mul_le_mul hp1 hp1; omega
    have h1 := hp.fermat1 (a := a) (fun hd => by have := Nat.le_of_dvd (by omega) hd; omega)
    have hpos : 1 ≤ a ^ (p - 1) := Nat.pow_pos (by omega)
    have h2 : (p : Int) ∣ ((a ^ (p - 1) : Nat) : Int) - 1 := by
      have h3 : p ∣ a ^ (p - 1) - 1 := dvd_sub_mod (by rw [h1]; exact (Nat.mod_eq_of_lt (by omega)).symm)
      have := Int.natCast_dvd_natCast.2 h3
      rwa [Int.natCast_sub hpos] at this
    have h3 := pow_lift h2 (p := p) ⟨1, by simp⟩
    rw [Int.one_pow] at h3
    have h4 : (a ^ (p - 1)) ^ p % (p * p) = 1 := by
      have hpos2 : 1 ≤ (a ^ (p - 1)) ^ p := Nat.pow_pos hpos
      have h5 : p * p ∣ (a ^ (p - 1)) ^ p - 1 := by
        refine Int.natCast_dvd_natCast.1 ?_
        rw [Int.natCast_sub hpos2, Int.natCast_pow, Int.natCast_mul]
        exact h3
      rw [mod_of_dvd_sub hpos2 h5]; exact Nat.mod_eq_of_lt hpp
    rw [← Nat.pow_mul] at h4
    refine pw_diff h4 ?_
    have e : (p - 1) * p + (p - 1) = p * p - 1 := by
      obtain ⟨m, rfl⟩ : ∃ m, p = m + 1 := ⟨p - 1, by omega⟩
      rw [show m + 1 - 1 = m from rfl, show (m + 1) * (m + 1) = m * (m + 1) + m + 1 from by grind]
      omega
    rw [e]; exact hall a ha
  have h2 := key 2 (by decide)
  have h3 := key 3 (by decide)
  refine chkW_get chkW1 ((p - 1001) / 2) (by omega) ?_
  rw [show 1001 + 2 * ((p - 1001) / 2) = p from by have : p ≠ 1000 := fun h => by omega
                                                   omega]
  exact ⟨h2, h3⟩

/-- up to 10^8 the program tells primes rightly -/
theorem isB_mid {n : Nat} (h2 : 2 ≤ n) (hn : n ≤ 100000000) : isB n = prB n := by
  rcases Nat.lt_or_ge 1000000 n with hb | hb
  · by_cases hpr : Pr n
    · rw [hpr.isB (by omega), prB_true hpr]
    · rw [prB_false hpr]
      cases hi : isB n with
      | false => rfl
      | true =>
        exfalso
        unfold isB at hi
        split at hi
        · cases hi
        · rename_i hh
          rw [if_neg (by omega)] at hi
          have hnh := not_hit_of (by simpa using hh : hitB n = false)
          have hnd : noDiv n 1000 := fun d h1 h3 h4 => hnh ⟨d, h1, h3, by have := Nat.mul_le_mul (show d ≤ 999 by omega) (show d ≤ 999 by omega); omega, h4⟩
          have hodd : n % 2 = 1 := by
            rcases (by omega : n % 2 = 1 ∨ n % 2 = 0) with h | h
            · exact h
            · exact (hnd 2 (by omega) (by omega) (Nat.dvd_of_mod_eq_zero h)).elim
          obtain ⟨t1, t2, t3⟩ := tz_spec h2 (by omega)
          have htz : 1 ≤ tz n := by
            rcases Nat.eq_zero_or_pos (tz n) with h | h
            · rw [h] at t2; simp at t2; omega
            · exact h
          have hall : ∀ a ∈ bases, a ^ (n - 1) % n = 1 := by
            intro a ha
            unfold mrAll at hi
            rw [List.all_eq_true] at hi
            have := mrB_fermat (by omega) htz (hi a ha)
            rwa [← t1] at this
          obtain ⟨d, d1, d2, d3⟩ := comp_div h2 hpr
          obtain ⟨p, p1, p2⟩ := least_div d1
          have hpd := Nat.le_of_dvd (by omega) p2
          obtain ⟨e, he⟩ := Nat.dvd_trans p2 d3
          have hp0 := p1.1
          have hp1 : 1000 ≤ p := by
            rcases Nat.lt_or_ge p 1000 with h | h
            · exact (hnd p hp0 h ⟨e, he⟩).elim
            · exact h
          have hpe : p ≤ e := by
            rcases Nat.lt_or_ge e p with h | h
            · have a1 := Nat.mul_le_mul hpd hpd
              have a2 := Nat.mul_lt_mul_of_pos_left h (show 0 < p by omega)
              omega
            · exact h
          have he5 : e ≤ 100000 := by
            rcases Nat.lt_or_ge 100000 e with h | h
            · have := Nat.mul_le_mul hp1 (show 100001 ≤ e by omega); omega
            · exact h
          have hpe2 : Pr e := Pr.of_noDiv (k := 1000) (by omega) (fun d h1 h3 h4 => hnd d h1 h3 (Nat.dvd_trans h4 ⟨p, by rw [he, Nat.mul_comm]⟩)) (by omega)
          rcases Nat.lt_or_ge p e with h | h
          · refine semi p1 hpe2 h hp1 (by omega) ?_
            rw [← he]; exact hall
          · have : e = p := by omega
            subst this
            refine square p1 hp1 (by omega) ?_
            rw [← he]; exact hall
  · exact isB_small h2 hb
end Go.Proofs.YtgocnjklpafabaaDoor
namespace Go.Proofs.YtgocnjklpafabaaDoor

def prod : List Nat → Nat
  | [] => 1
  | p :: r => p * prod r
theorem prod_app (a b : List Nat) : prod (a ++ b) = prod a * prod b := by
  induction a with
  | nil => simp [prod]
  | cons x r ih => rw [List.cons_append, prod, prod, ih, Nat.mul_assoc]
theorem prod_perm {a b : List Nat} (h : a.Perm b) : prod a = prod b := by
  induction h with
  | nil => rfl
  | cons x _ ih => rw [prod, prod, ih]
  | swap x y l => simp only [prod]; rw [← Nat.mul_assoc, ← Nat.mul_assoc, Nat.mul_comm x y]
  | trans _ _ h1 h2 => exact h1.trans h2

/-- what Parts sorts: what the program takes for primes, and their product -/
def Told (n : Nat) (L : List Nat) : Prop := prod L = n ∧ ∀ p ∈ L, 2 ≤ p ∧ isB p = true
theorem prod_pos {L : List Nat} (h : ∀ p ∈ L, 2 ≤ p) : 1 ≤ prod L := by
  induction L with
  | nil => simp [prod]
  | cons p r ih =>
    have h1 := ih fun q hq => h q (List.mem_cons_of_mem _ hq)
    have h2 := h p (List.mem_cons_self ..)
    have := Nat.mul_le_mul h2 h1
    rw [prod]; omega
theorem mem_dvd {L : List Nat} {p : Nat} (h : p ∈ L) : p ∣ prod L := by
  induction L with
  | nil => simp at h
  | cons q r ih =>
    rcases List.mem_cons.1 h with rfl | h
    · exact ⟨prod r, rfl⟩
    · exact Nat.dvd_trans (ih h) ⟨q, by rw [prod, Nat.mul_comm]⟩
theorem Pr.mem_of_dvd {q : Nat} (hq : Pr q) : ∀ {L : List Nat}, (∀ p ∈ L, Pr p) → q ∣ prod L → q ∈ L := by
  intro L
  induction L with
  | nil =>
    intro _ h
    have h2 := hq.1
    have := Nat.le_of_dvd (by simp [prod]) h
    simp [prod] at this
    omega
  | cons p r ih =>
    intro hp h
    rw [prod] at h
    rcases hq.dvd_mul h with h1 | h1
    · rcases (hp p (List.mem_cons_self ..)).2 q h1 with h2 | h2
      · have := hq.1; omega
      · rw [h2]; exact List.mem_cons_self ..
    · exact List.mem_cons_of_mem _ (ih (fun x hx => hp x (List.mem_cons_of_mem _ hx)) h1)
/-- rising -/
def Rise : List Nat → Prop
  | [] => True
  | p :: r => (∀ q ∈ r, p ≤ q) ∧ Rise r
/-- EUCLID: a rising list of primes is told by its product -/
theorem rise_unique : ∀ {L M : List Nat}, Rise L → Rise M → (∀ p ∈ L, Pr p) → (∀ p ∈ M, Pr p) → prod L = prod M → L = M := by
  intro L
  induction L with
  | nil =>
    intro M _ _ _ hM h
    cases M with
    | nil => rfl
    | cons p r =>
      have h1 := (hM p (List.mem_cons_self ..)).1
      have h2 := prod_pos (L := r) fun q hq => (hM q (List.mem_cons_of_mem _ hq)).1
      have := Nat.mul_le_mul h1 h2
      simp only [prod] at h
      omega
  | cons p r ih =>
    intro M hL hM h1 h2 h
    have hp := h1 p (List.mem_cons_self ..)
    cases M with
    | nil =>
      have h3 := prod_pos (L := r) fun q hq => (h1 q (List.mem_cons_of_mem _ hq)).1
      have := Nat.mul_le_mul hp.1 h3
      simp only [prod] at h
      omega
    | cons q s =>
      have hq := h2 q (List.mem_cons_self ..)
      have h3 : p ∈ q :: s := hp.mem_of_dvd h2 (by rw [← h]; exact mem_dvd (List.mem_cons_self ..))
      have h4 : q ∈ p :: r := hq.mem_of_dvd h1 (by rw [h]; exact mem_dvd (List.mem_cons_self ..))
      have h5 : q ≤ p := by
        rcases List.mem_cons.1 h3 with e | e
        · omega
        · exact hM.1 p e
      have h6 : p ≤ q := by
        rcases List.mem_cons.1 h4 with e | e
        · omega
        · exact hL.1 q e
      have : p = q := by omega
      subst this
      have h7 := hp.1
      have h8 : prod r = prod s := Nat.eq_of_mul_eq_mul_left (by omega) h
      rw [ih hL.2 hM.2 (fun x hx => h1 x (List.mem_cons_of_mem _ hx)) (fun x hx => h2 x (List.mem_cons_of_mem _ hx)) h8]

/-- one more prime behind the powers -/
def grpS (out : List (Nat × Nat)) (p : Nat) : List (Nat × Nat) :=
  match out.getLast? with
  | some (q, t) => if q = p then out.dropLast ++ [(q, t + 1)] else out ++ [(p, 1)]
  | none => [(p, 1)]
def grp (L : List Nat) : List (Nat × Nat) := L.foldl grpS []
def pprod : List (Nat × Nat) → Nat
  | [] => 1
  | (p, t) :: r => p ^ t * pprod r
theorem pprod_app (a b : List (Nat × Nat)) : pprod (a ++ b) = pprod a * pprod b := by
  induction a with
  | nil => simp [pprod]
  | cons x r ih => obtain ⟨p, t⟩ := x; rw [List.cons_append, pprod, pprod, ih, Nat.mul_assoc]
/-- powers of rising primes -/
def Powd (P : Nat → Prop) (out : List (Nat × Nat)) : Prop := (∀ x ∈ out, P x.1 ∧ 2 ≤ x.1 ∧ 1 ≤ x.2) ∧ ∀ i a b, out[i]? = some a → out[i + 1]? = some b → a.1 < b.1
theorem grpS_same {out : List (Nat × Nat)} {p t : Nat} : grpS (out ++ [(p, t)]) p = out ++ [(p, t + 1)] := by
  unfold grpS
  simp
theorem grpS_new {out : List (Nat × Nat)} {q t p : Nat} (h : q ≠ p) : grpS (out ++ [(q, t)]) p = out ++ [(q, t)] ++ [(p, 1)] := by
  unfold grpS
  simp [h]
theorem grpS_nil {p : Nat} : grpS [] p = [(p, 1)] := rfl
theorem last_form {α : Type} (l : List α) : l = [] ∨ ∃ a x, l = a ++ [x] := by
  rcases List.eq_nil_or_concat l with h | ⟨a, x, h⟩
  · exact .inl h
  · exact .inr ⟨a, x, by simpa using h⟩
theorem pprod_grpS (out : List (Nat × Nat)) (p : Nat) : pprod (grpS out p) = pprod out * p := by
  rcases last_form out with rfl | ⟨a, ⟨q, t⟩, rfl⟩
  · simp [grpS_nil, pprod]
  · by_cases h : q = p
    · subst h; rw [grpS_same, pprod_app, pprod_app]; simp [pprod, Nat.pow_succ, Nat.mul_assoc]
    · rw [grpS_new h, pprod_app]; simp [pprod]
theorem powd_grpS {P : Nat → Prop} {out : List (Nat × Nat)} {p : Nat} (h : Powd P out) (hp : P p) (h2 : 2 ≤ p) (hle : ∀ x ∈ out, x.1 ≤ p) : Powd P (grpS out p) ∧ ∀ x ∈ grpS out p, x.1 ≤ p := by
  obtain ⟨ha, hb⟩ := h
  rcases last_form out with rfl | ⟨a, ⟨q, t⟩, rfl⟩
  · rw [grpS_nil]
    refine ⟨⟨fun x hx => ?_, fun i a b h1 h3 => ?_⟩, fun x hx => ?_⟩
    · simp at hx; subst hx; exact ⟨hp, h2, Nat.le_refl _⟩
    · simp at h3
    · simp at hx; subst hx; exact Nat.le_refl _
  · by_cases h : q = p
    · subst h
      rw [grpS_same]
      refine ⟨⟨fun x hx => ?_, fun i x y h1 h3 => ?_⟩, fun x hx => ?_⟩
      · rcases List.mem_append.1 hx with h3 | h3
        · exact ha x (List.mem_append.2 (.inl h3))
        · simp at h3; subst h3; exact ⟨hp, h2, by simp⟩
      · rw [List.getElem?_append] at h1 h3
        split at h3
        · rw [if_pos (by omega)] at h1
          exact hb i x y (by rw [List.getElem?_append, if_pos (by omega)]; exact h1) (by rw [List.getElem?_append, if_pos (by omega)]; exact h3)
        · split at h1
          · have : i + 1 = a.length := by omega
            rw [this, Nat.sub_self] at h3
            simp at h3
            subst h3
            exact hb i x (q, t) (by rw [List.getElem?_append, if_pos (by omega)]; exact h1) (by rw [List.getElem?_append, if_neg (by omega), this, Nat.sub_self]; rfl)
          · obtain ⟨m, hm⟩ : ∃ m, i + 1 - a.length = m + 1 := ⟨i - a.length, by omega⟩
            rw [hm] at h3
            simp at h3
      · rcases List.mem_append.1 hx with h3 | h3
        · exact hle x (List.mem_append.2 (.inl h3))
        · simp at h3; subst h3; exact Nat.le_refl _
    · rw [grpS_new h]
      have hq : q < p := by
        have := hle (q, t) (by simp)
        simp at this
        omega
      refine ⟨⟨fun x hx => ?_, fun i x y h1 h3 => ?_⟩, fun x hx => ?_⟩
      · rcases List.mem_append.1 hx with h3 | h3
        · exact ha x h3
        · simp at h3; subst h3; exact ⟨hp, h2, Nat.le_refl _⟩
      · rw [List.getElem?_append] at h1 h3
        split at h3
        · rw [if_pos (by omega)] at h1
          exact hb i x y h1 h3
        · split at h1
          · rename_i h4 h5
            have : i + 1 = (a ++ [(q, t)]).length := by omega
            rw [this, Nat.sub_self] at h3
            simp at h3
            subst h3
            have h6 : i = a.length := by simp at this; omega
            subst h6
            simp at h1
            subst h1
            exact hq
          · obtain ⟨m, hm⟩ : ∃ m, i + 1 - (a ++ [(q, t)]).length = m + 1 := ⟨i - (a ++ [(q, t)]).length, by omega⟩
            rw [hm] at h3
            simp at h3
      · rcases List.mem_append.1 hx with h3 | h3
        · exact hle x h3
        · simp at h3; subst h3; exact Nat.le_refl _
theorem grp_take {L : List Nat} {i p : Nat} (h : L[i]? = some p) : grp (L.take (i + 1)) = grpS (grp (L.take i)) p := by
  unfold grp
  rw [List.take_add_one, h]
  simp
theorem rise_take {L : List Nat} (h : Rise L) : ∀ {i j a b : Nat}, i < j → L[i]? = some a → L[j]? = some b → a ≤ b := by
  induction L with
  | nil => intro i j a b _ h1; simp at h1
  | cons p r ih =>
    intro i j a b hij h1 h2
    cases j with
    | zero => omega
    | succ j =>
      simp at h2
      cases i with
      | zero => simp at h1; subst h1; exact h.1 b (List.mem_of_getElem? h2)
      | succ i => simp at h1; exact ih h.2 (by omega) h1 h2
theorem grp_ok {P : Nat → Prop} {L : List Nat} (hr : Rise L) (hP : ∀ p ∈ L, P p ∧ 2 ≤ p) : ∀ i, i ≤ L.length → Powd P (grp (L.take i)) ∧ (∀ x ∈ grp (L.take i), ∃ j, j < i ∧ L[j]? = some x.1 ∨ False) ∧ pprod (grp (L.take i)) = prod (L.take i) ∧ ∀ x ∈ grp (L.take i), ∀ j b, i ≤ j → L[j]? = some b → x.1 ≤ b := by
  intro i
  induction i with
  | zero => intro _; simp [grp, Powd, pprod, prod]
  | succ i ih =>
    intro hi
    obtain ⟨h1, _, h3, h4⟩ := ih (by omega)
    obtain ⟨p, hp⟩ : ∃ p, L[i]? = some p := ⟨L[i], List.getElem?_eq_getElem (by omega)⟩
    have hpm := hP p (List.mem_of_getElem? hp)
    rw [grp_take hp]
    have h5 := powd_grpS h1 hpm.1 hpm.2 (fun x hx => h4 x hx i p (Nat.le_refl _) hp)
    have h6 : prod (L.take (i + 1)) = prod (L.take i) * p := by
      rw [List.take_add_one, hp, prod_app]; simp [prod]
    have h7 : ∀ out : List (Nat × Nat), ∀ x ∈ grpS out p, x.1 = p ∨ x ∈ out := by
      intro out x hx
      rcases last_form out with rfl | ⟨a, ⟨q, t⟩, rfl⟩
      · rw [grpS_nil] at hx; simp at hx; exact .inl (by rw [hx])
      · by_cases h : q = p
        · subst h
          rw [grpS_same] at hx
          rcases List.mem_append.1 hx with h8 | h8
          · exact .inr (List.mem_append.2 (.inl h8))
          · simp at h8; exact .inl (by rw [h8])
        · rw [grpS_new h] at hx
          rcases List.mem_append.1 hx with h8 | h8
          · exact .inr h8
          · simp at h8; exact .inl (by rw [h8])
    refine ⟨h5.1, fun x hx => ?_, by rw [pprod_grpS, h3, h6], fun x hx j b hj hb => ?_⟩
    · rcases h7 _ x hx with e | e
      · exact ⟨i, .inl ⟨by omega, by rw [e]; exact hp⟩⟩
      · rename_i h2
        obtain ⟨j, hj | hj⟩ := h2 x e
        · exact ⟨j, .inl ⟨by omega, hj.2⟩⟩
        · exact hj.elim
    · have := h5.2 x hx
      have := rise_take hr (show i < j by omega) hp hb
      omega
theorem grp_small {L : List Nat} : ∀ i, i ≤ L.length → (grp (L.take i)).length ≤ i ∧ ∀ x ∈ grp (L.take i), x.2 ≤ i := by
  intro i
  induction i with
  | zero => intro _; simp [grp]
  | succ i ih =>
    intro hi
    obtain ⟨h1, h2⟩ := ih (by omega)
    obtain ⟨p, hp⟩ : ∃ p, L[i]? = some p := ⟨L[i], List.getElem?_eq_getElem (by omega)⟩
    rw [grp_take hp]
    rcases last_form (grp (L.take i)) with h | ⟨a, ⟨q, t⟩, h⟩
    · rw [h, grpS_nil]
      exact ⟨by simp, fun x hx => by simp at hx; subst hx; simp⟩
    · rw [h] at h1 h2 ⊢
      by_cases hq : q = p
      · subst hq
        rw [grpS_same]
        refine ⟨by simp at h1 ⊢; omega, fun x hx => ?_⟩
        rcases List.mem_append.1 hx with h3 | h3
        · have := h2 x (List.mem_append.2 (.inl h3)); omega
        · simp at h3; subst h3; have := h2 (q, t) (by simp); simp at this ⊢; omega
      · rw [grpS_new hq]
        refine ⟨by simp at h1 ⊢; omega, fun x hx => ?_⟩
        rcases List.mem_append.1 hx with h3 | h3
        · have := h2 x h3; omega
        · simp at h3; subst h3; simp
theorem pw_le {p t n : Nat} (h2 : 2 ≤ p) (h : p ^ t ≤ n) (hn : n ≤ 1000000000000000000) : t ≤ 60 := by
  rcases Nat.lt_or_ge 60 t with h1 | h1
  · have h3 : 2 ^ 61 ≤ p ^ t := Nat.le_trans (Nat.pow_le_pow_right (by omega) h1) (Nat.pow_le_pow_left h2 t)
    have : (2 : Nat) ^ 61 = 2305843009213693952 := by decide
    omega
  · exact h1
end Go.Proofs.YtgocnjklpafabaaDoor
