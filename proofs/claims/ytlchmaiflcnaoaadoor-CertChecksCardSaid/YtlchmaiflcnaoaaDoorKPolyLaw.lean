/- Plain laws of polynomials: values, slopes, Newton's step by powers of a prime. -/
import Derived.Test.YtlchmaiflcnaoaaDoorK0
namespace Go.Proofs.YtlchmaiflcnaoaaDoor

/-- the fault of a prime and a number of places -/
noncomputable def padF (p k : Int) : Int × Int := if p < 2 ∨ 1000000 < p then (3, 0) else if prB p.toNat = false then (7, 0) else if k < 1 ∨ 60 < k then (3, 1) else if 1000000000000000000 < p ^ k.toNat then (9, 1) else (0, 0)
theorem padF_ok {p k : Int} (h : (padF p k).1 = 0) : padF p k = (0, 0) ∧ 2 ≤ p ∧ p ≤ 1000000 ∧ Pr p.toNat ∧ 1 ≤ k ∧ k ≤ 60 ∧ p ^ k.toNat ≤ 1000000000000000000 := by
  unfold padF at h ⊢
  split at h
  · simp at h
  · rename_i h1
    split at h
    · simp at h
    · rename_i h2
      split at h
      · simp at h
      · rename_i h3
        split at h
        · simp at h
        · rename_i h4
          rw [if_neg h1, if_neg h2, if_neg h3, if_neg h4]
          exact ⟨rfl, by omega, by omega, Pr_of (by simpa using h2), by omega, by omega, by omega⟩
theorem padF_cases (p k : Int) : (padF p k).1 = 0 ∨ (padF p k).1 = 3 ∨ (padF p k).1 = 7 ∨ (padF p k).1 = 9 := by
  unfold padF
  repeat (first | (split) | simp)

/-- the power stays below where the next one does -/
theorem pow_le_next {p : Int} (hp : 2 ≤ p) {j k : Nat} (h : j ≤ k) : p ^ j ≤ p ^ k := by
  induction k with
  | zero => have : j = 0 := by omega
            subst this; omega
  | succ k ih =>
    rcases Nat.lt_or_ge k j with h1 | h1
    · have : j = k + 1 := by omega
      subst this; omega
    · have h2 := ih h1
      have h3 : 0 < p ^ k := Int.pow_pos (by omega)
      rw [Int.pow_succ]
      have h4 : p ^ k * 1 ≤ p ^ k * p := Int.mul_le_mul_of_nonneg_left (by omega) (by omega)
      omega
/-- m > N / p: m p is above N -/
theorem above_iff {m p N : Int} (hp : 0 < p) : N / p < m ↔ N < m * p := by
  rw [Int.ediv_lt_iff_lt_mul hp]

/-- digits to the base of p: the first k of x -/
def digs (p x : Int) : Nat → List Int
  | 0 => []
  | k + 1 => digs p x k ++ [x / p ^ k % p]
theorem digs_len (p x : Int) (k : Nat) : (digs p x k).length = k := by
  induction k with
  | zero => rfl
  | succ k ih => rw [digs, List.length_append, ih]; rfl
theorem digs_get (p x : Int) : ∀ (k i : Nat), i < k → (digs p x k)[i]? = some (x / p ^ i % p) := by
  intro k
  induction k with
  | zero => intro i h; omega
  | succ k ih =>
    intro i h
    rw [digs]
    rcases Nat.lt_or_ge i k with h1 | h1
    · rw [List.getElem?_append_left (by rw [digs_len]; exact h1)]; exact ih i h1
    · have : i = k := by omega
      subst this
      rw [List.getElem?_append_right (by rw [digs_len]; omega), digs_len]; simp
/-- one more of the digits -/
theorem dig_step (p x : Int) (i : Nat) (hp : 0 < p) (_hx : 0 ≤ x) : (x / p ^ (i + 1)) * p + x / p ^ i % p = x / p ^ i := by
  have h1 : x / p ^ (i + 1) = x / p ^ i / p := by
    rw [Int.pow_succ]
    exact (Int.ediv_ediv_of_nonneg (Int.le_of_lt (Int.pow_pos hp))).symm
  rw [h1]
  have := Int.mul_ediv_add_emod (x / p ^ i) p
  rw [Int.mul_comm p] at this
  exact this
theorem dig_top (p x : Int) (k : Nat) (hx : 0 ≤ x) (h : x < p ^ k) : x / p ^ k = 0 := Int.ediv_eq_zero_of_lt hx h
theorem div_div_pow (p x : Int) (i : Nat) (hp : 0 < p) : x / p ^ i / p = x / p ^ (i + 1) := by
  rw [Int.pow_succ]
  exact Int.ediv_ediv_of_nonneg (Int.le_of_lt (Int.pow_pos hp))

/-- b is a unit by the powers of p -/
theorem Pr.unit {p : Nat} (hp : Pr p) {b : Int} (h : ¬ (p : Int) ∣ b) (k : Nat) : Int.gcd b ((p : Int) ^ k) = 1 := by
  have h1 : Nat.gcd p b.natAbs = 1 := hp.coprime (fun hd => h (Int.dvd_natAbs.1 (Int.natCast_dvd_natCast.2 hd)))
  have h2 : Nat.Coprime b.natAbs p := by rw [Nat.coprime_comm]; exact h1
  have h3 := Nat.Coprime.pow_right k h2
  have e : ((p : Int) ^ k).natAbs = p ^ k := by rw [Int.natAbs_pow]; rfl
  show Nat.gcd b.natAbs ((p : Int) ^ k).natAbs = 1
  rw [e]; exact h3
end Go.Proofs.YtlchmaiflcnaoaaDoor

namespace Go.Proofs.YtlchmaiflcnaoaaDoor

/-- a polynomial's value, and its derivative's -/
def pv : List Int → Int → Int
  | [], _ => 0
  | c :: r, x => c + x * pv r x
def dv : List Int → Int → Int
  | [], _ => 0
  | _ :: r, x => pv r x + x * dv r x
def derF (j : Int) : List Int → List Int
  | [] => []
  | c :: r => j * c :: derF (j + 1) r
theorem pv_derF (j : Int) (l : List Int) (x : Int) : pv (derF j l) x = j * pv l x + x * dv l x := by
  induction l generalizing j with
  | nil => simp [derF, pv, dv]
  | cons c r ih => rw [derF, pv, ih, pv, dv]; grind
theorem dv_tail (l : List Int) (x : Int) : pv (derF 1 (l.drop 1)) x = dv l x := by
  cases l with
  | nil => rfl
  | cons c r => rw [List.drop_succ_cons, List.drop_zero, pv_derF, dv]; omega
theorem derF_len (j : Int) (l : List Int) : (derF j l).length = l.length := by
  induction l generalizing j with
  | nil => rfl
  | cons c r ih => rw [derF, List.length_cons, ih, List.length_cons]
theorem derF_get (l : List Int) : ∀ (j : Int) (i : Nat) (c : Int), l[i]? = some c → (derF j l)[i]? = some ((j + i) * c) := by
  induction l with
  | nil => intro j i c h; simp at h
  | cons d r ih =>
    intro j i c h
    cases i with
    | zero => simp at h; subst h; simp [derF]
    | succ i =>
      simp at h
      rw [derF, List.getElem?_cons_succ, ih (j + 1) i c h]
      simp
      grind
theorem taylor (l : List Int) (x h : Int) : ∃ g, pv l (x + h) = pv l x + h * dv l x + h * h * g := by
  induction l with
  | nil => exact ⟨0, by simp [pv, dv]⟩
  | cons c r ih =>
    obtain ⟨g, hg⟩ := ih
    refine ⟨dv r x + x * g + h * g, ?_⟩
    rw [pv, hg, pv, dv]
    grind
theorem pv_congr {m x y : Int} (h : m ∣ x - y) (l : List Int) : m ∣ pv l x - pv l y := by
  obtain ⟨t, ht⟩ := h
  obtain ⟨g, hg⟩ := taylor l y (x - y)
  rw [show y + (x - y) = x from by omega] at hg
  refine ⟨t * dv l y + t * (x - y) * g, ?_⟩
  rw [hg, ht]
  grind
theorem dv_congr {m x y : Int} (h : m ∣ x - y) (l : List Int) : m ∣ dv l x - dv l y := by
  rw [← dv_tail, ← dv_tail]; exact pv_congr h _
theorem pv_mod (m x : Int) (l : List Int) : m ∣ pv (l.map (· % m)) x - pv l x := by
  induction l with
  | nil => simp [pv]
  | cons c r ih =>
    obtain ⟨t, ht⟩ := ih
    refine ⟨x * t - c / m, ?_⟩
    rw [List.map_cons, pv, pv]
    have h1 := Int.mul_ediv_add_emod c m
    have h2 : pv (r.map (· % m)) x = pv r x + m * t := by omega
    rw [h2]
    grind
theorem emod_of_dvd_sub {m a b : Int} (h : m ∣ a - b) : a % m = b % m := Int.emod_eq_emod_iff_emod_sub_eq_zero.2 (Int.emod_eq_zero_of_dvd h)
theorem dvd_of_emod {m a b : Int} (h : a % m = b % m) : m ∣ a - b := Int.dvd_of_emod_eq_zero (Int.emod_eq_emod_iff_emod_sub_eq_zero.1 h)
/-- one step of Horner's way, from behind -/
theorem horner_step {l : List Int} {j : Nat} {c x m : Int} (h : l[j]? = some c) : ((pv (l.drop (j + 1)) x % m * x % m) + c % m) % m = pv (l.drop j) x % m := by
  obtain ⟨hj, rfl⟩ := List.getElem?_eq_some_iff.1 h
  rw [List.drop_eq_getElem_cons hj, pv]
  obtain ⟨A, hA⟩ : ∃ A, pv (l.drop (j + 1)) x = A := ⟨_, rfl⟩
  rw [hA]
  have h1 := Int.mul_ediv_add_emod A m
  have h2 := Int.mul_ediv_add_emod (A % m * x) m
  have h3 := Int.mul_ediv_add_emod l[j] m
  refine emod_of_dvd_sub ⟨-(A / m * x) - A % m * x / m - l[j] / m, ?_⟩
  grind

/-- Newton's step: what p^e divides, p^(2 e) does behind it, as far as m goes -/
theorem newton {l : List Int} {x i m q : Int} (hq : q ∣ pv l x) (hqm : q ∣ m) (hi : m ∣ dv l x * i - 1) {x' : Int} (hx : m ∣ x' - (x - pv l x * i)) {r : Int} (hr : r ∣ q * q) (hrm : r ∣ m) : r ∣ pv l x' ∧ q ∣ x' - x := by
  obtain ⟨z, hz⟩ := hx
  obtain ⟨f, hf⟩ := hq
  obtain ⟨n, hn⟩ := hqm
  obtain ⟨u, hu⟩ := hi
  have hh : x' = x + q * (n * z - f * i) := by
    have e1 : pv l x * i = q * (f * i) := by rw [hf, Int.mul_assoc]
    have e2 : m * z = q * (n * z) := by rw [hn, Int.mul_assoc]
    rw [Int.mul_sub]
    omega
  obtain ⟨g, hg⟩ := taylor l x (q * (n * z - f * i))
  rw [← hh] at hg
  obtain ⟨s, hs⟩ := hr
  obtain ⟨v, hv⟩ := hrm
  refine ⟨⟨s * ((n * z - f * i) * (n * z - f * i) * g) + v * (z * dv l x - f * q * u), ?_⟩, ⟨n * z - f * i, by omega⟩⟩
  rw [hg]
  have e3 : dv l x * i = 1 + m * u := by omega
  have e4 : q * (n * z - f * i) * (q * (n * z - f * i)) * g = r * (s * ((n * z - f * i) * (n * z - f * i) * g)) := by
    have : q * (n * z - f * i) * (q * (n * z - f * i)) * g = q * q * ((n * z - f * i) * (n * z - f * i) * g) := by grind
    rw [this, hs, Int.mul_assoc]
  rw [e4, hf, Int.mul_add]
  have e5 : q * (n * z - f * i) * dv l x = m * (z * dv l x) - q * f * (dv l x * i) := by rw [hn]; grind
  rw [e5, e3]
  have e6 : r * (v * (z * dv l x - f * q * u)) = m * (z * dv l x - f * q * u) := by rw [hv]; simp only [Int.mul_assoc]
  rw [e6]
  grind
end Go.Proofs.YtlchmaiflcnaoaaDoor
