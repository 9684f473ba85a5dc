/- Plain laws of numbers by powers of a prime. -/
import Derived.Test.YticgnjapgbjfiaaDoorIsLaw
namespace Go.Proofs.YticgnjapgbjfiaaDoor

/-- the fault of a prime and a number of places -/
noncomputable def padF (p k : Int) : Int × Int := if p < 2 ∨ 1000000 < p then (3, 0) else if prB p.toNat = false then (7, 0) else if k < 1 ∨ 60 < k then (3, 1) else if 1000000000000000000 < p ^ k.toNat then (9, 1) else (0, 0)
theorem padF_ok {p k : Int} (h : (padF p k).1 = 0) : padF p k = (0, 0) ∧ 2 ≤ p ∧ p ≤ 1000000 ∧ Pr p.toNat ∧ 1 ≤ k ∧ k ≤ 60 ∧ p ^ k.toNat ≤ 1000000000000000000 := by
  unfold padF at h ⊢
  split at h
  · simp at h
  · rename_i h1
    split at h
    · simp at h
    · rename_i h2
      split at h
      · simp at h
      · rename_i h3
        split at h
        · simp at h
        · rename_i h4
          rw [if_neg h1, if_neg h2, if_neg h3, if_neg h4]
          exact ⟨rfl, by omega, by omega, Pr_of (by simpa using h2), by omega, by omega, by omega⟩
theorem padF_cases (p k : Int) : (padF p k).1 = 0 ∨ (padF p k).1 = 3 ∨ (padF p k).1 = 7 ∨ (padF p k).1 = 9 := by
  unfold padF
  repeat (first | (split) | simp)

/-- the power stays below where the next one does -/
theorem pow_le_next {p : Int} (hp : 2 ≤ p) {j k : Nat} (h : j ≤ k) : p ^ j ≤ p ^ k := by
  induction k with
  | zero => have : j = 0 := by omega
            subst this; omega
  | succ k ih =>
    rcases Nat.lt_or_ge k j with h1 | h1
    · have : j = k + 1 := by omega
      subst this; omega
    · have h2 := ih h1
      have h3 : 0 < p ^ k := Int.pow_pos (by omega)
      rw [Int.pow_succ]
      have h4 : p ^ k * 1 ≤ p ^ k * p := Int.mul_le_mul_of_nonneg_left (by omega) (by omega)
      omega
/-- m > N / p: m p is above N -/
theorem above_iff {m p N : Int} (hp : 0 < p) : N / p < m ↔ N < m * p := by
  rw [Int.ediv_lt_iff_lt_mul hp]

/-- digits to the base of p: the first k of x -/
def digs (p x : Int) : Nat → List Int
  | 0 => []
  | k + 1 => digs p x k ++ [x / p ^ k % p]
theorem digs_len (p x : Int) (k : Nat) : (digs p x k).length = k := by
  induction k with
  | zero => rfl
  | succ k ih => rw [digs, List.length_append, ih]; rfl
theorem digs_get (p x : Int) : ∀ (k i : Nat), i < k → (digs p x k)[i]? = some (x / p ^ i % p) := by
  intro k
  induction k with
  | zero => intro i h; omega
  | succ k ih =>
    intro i h
    rw [digs]
    rcases Nat.lt_or_ge i k with h1 | h1
    · rw [List.getElem?_append_left (by rw [digs_len]; exact h1)]; exact ih i h1
    · have : i = k := by omega
      subst this
      rw [List.getElem?_append_right (by rw [digs_len]; omega), digs_len]; simp
/-- one more of the digits -/
theorem dig_step (p x : Int) (i : Nat) (hp : 0 < p) (_hx : 0 ≤ x) : (x / p ^ (i + 1)) * p + x / p ^ i % p = x / p ^ i := by
  have h1 : x / p ^ (i + 1) = x / p ^ i / p := by
    rw [Int.pow_succ]
    exact (Int.ediv_ediv_of_nonneg (Int.le_of_lt (Int.pow_pos hp))).symm
  rw [h1]
  have := Int.mul_ediv_add_emod (x / p ^ i) p
  rw [Int.mul_comm p] at this
  exact this
theorem dig_top (p x : Int) (k : Nat) (hx : 0 ≤ x) (h : x < p ^ k) : x / p ^ k = 0 := Int.ediv_eq_zero_of_lt hx h
theorem div_div_pow (p x : Int) (i : Nat) (hp : 0 < p) : x / p ^ i / p = x / p ^ (i + 1) := by
  rw [Int.pow_succ]
  exact Int.ediv_ediv_of_nonneg (Int.le_of_lt (Int.pow_pos hp))

/-- b is a unit by the powers of p -/
theorem Pr.unit {p : Nat} (hp : Pr p) {b : Int} (h : ¬ (p : Int) ∣ b) (k : Nat) : Int.gcd b ((p : Int) ^ k) = 1 := by
  have h1 : Nat.gcd p b.natAbs = 1 := hp.coprime (fun hd => h (Int.dvd_natAbs.1 (Int.natCast_dvd_natCast.2 hd)))
  have h2 : Nat.Coprime b.natAbs p := by rw [Nat.coprime_comm]; exact h1
  have h3 := Nat.Coprime.pow_right k h2
  have e : ((p : Int) ^ k).natAbs = p ^ k := by rw [Int.natAbs_pow]; rfl
  show Nat.gcd b.natAbs ((p : Int) ^ k).natAbs = 1
  rw [e]; exact h3
end Go.Proofs.YticgnjapgbjfiaaDoor
