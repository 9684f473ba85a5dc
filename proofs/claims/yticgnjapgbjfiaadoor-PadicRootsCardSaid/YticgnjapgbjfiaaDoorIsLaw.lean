/- The plain law of prime.is: what it answers, and where that is right. -/
import Derived.Test.YticgnjapgbjfiaaDoorPrimes
import Derived.Lib.TrailingZeros
namespace Go.Proofs.YticgnjapgbjfiaaDoor

def sqB (n : Nat) : Nat → Nat → Bool
  | 0, _ => false
  | k + 1, x => if x * x % n = n - 1 then true else sqB n k (x * x % n)
/-- one base's test -/
def mrB (n d s a : Nat) : Bool := if a ^ d % n = 1 ∨ a ^ d % n = n - 1 then true else sqB n (s - 1) (a ^ d % n)
def tz (n : Nat) : Nat := Lib.ctz 64 (n - 1)
def bases : List Nat := [2, 3, 5, 7, 11, 13, 17, 19, 23, 29, 31, 37]
def mrAll (n : Nat) : Bool := bases.all (mrB n ((n - 1) / 2 ^ tz n) (tz n))
/-- a number below a thousand divides n and is no greater than n's root -/
def hit (n : Nat) : Prop := ∃ d, 2 ≤ d ∧ d < 1000 ∧ d * d ≤ n ∧ d ∣ n
noncomputable def hitB (n : Nat) : Bool := @decide (hit n) (Classical.propDecidable _)
noncomputable def isB (n : Nat) : Bool := if hitB n = true then false else if n < 998001 then true else mrAll n
noncomputable def prB (n : Nat) : Bool := @decide (Pr n) (Classical.propDecidable _)

theorem hitB_true {n : Nat} (h : hit n) : hitB n = true := by unfold hitB; simpa using h
theorem hitB_false {n : Nat} (h : ¬ hit n) : hitB n = false := by unfold hitB; simpa using h
theorem hit_of {n : Nat} (h : hitB n = true) : hit n := by unfold hitB at h; simpa using h
theorem not_hit_of {n : Nat} (h : hitB n = false) : ¬ hit n := by unfold hitB at h; simpa using h
theorem prB_true {n : Nat} (h : Pr n) : prB n = true := by unfold prB; simpa using h
theorem prB_false {n : Nat} (h : ¬ Pr n) : prB n = false := by unfold prB; simpa using h
theorem Pr_of {n : Nat} (h : prB n = true) : Pr n := by unfold prB at h; simpa using h
theorem not_Pr_of {n : Nat} (h : prB n = false) : ¬ Pr n := by unfold prB at h; simpa using h

/-- what is no prime has a divisor that is no greater than its root -/
theorem comp_div {n : Nat} (h2 : 2 ≤ n) (h : ¬ Pr n) : ∃ d, 2 ≤ d ∧ d * d ≤ n ∧ d ∣ n := by
  have : ¬ ∀ d, d ∣ n → d = 1 ∨ d = n := fun h' => h ⟨h2, h'⟩
  obtain ⟨d, hd⟩ := Classical.not_forall.1 this
  obtain ⟨⟨e, he⟩, h3⟩ := Classical.not_imp.1 hd
  have hd0 : d ≠ 0 := fun h => by subst h; simp at he; omega
  have he0 : e ≠ 0 := fun h => by subst h; simp at he; omega
  have he1 : e ≠ 1 := fun h => by subst h; simp at he; omega
  rcases Nat.le_total d e with h4 | h4
  · exact ⟨d, by omega, by rw [he]; exact Nat.mul_le_mul_left _ h4, ⟨e, he⟩⟩
  · exact ⟨e, by omega, by rw [he]; exact Nat.mul_le_mul_right _ h4, ⟨d, by rw [he, Nat.mul_comm]⟩⟩
theorem Pr.no_hit {n : Nat} (h : Pr n) : ¬ hit n := by
  rintro ⟨d, h1, _, h3, h4⟩
  refine not_Pr_of_dvd h1 ?_ h4 h
  have := Nat.mul_le_mul h1 (Nat.le_refl d)
  omega
theorem sqB_of {n : Nat} : ∀ (k x : Nat), (∃ i, i < k ∧ x ^ (2 ^ (i + 1)) % n = n - 1) → sqB n k x = true := by
  intro k
  induction k with
  | zero => rintro x ⟨i, hi, _⟩; omega
  | succ k ih =>
    rintro x ⟨i, hi, h⟩
    rw [sqB]
    split
    · rfl
    · rename_i hn
      refine ih _ ?_
      cases i with
      | zero => simp [Nat.pow_succ] at h; exact (hn h).elim
      | succ i =>
        refine ⟨i, by omega, ?_⟩
        rw [← Nat.pow_mod, ← h]
        congr 1
        rw [show x * x = x ^ 2 from (Nat.pow_two x).symm, ← Nat.pow_mul, Nat.pow_succ 2 (i + 1), Nat.mul_comm]
theorem mrB_of {n a d s : Nat} (h : mrOk n a d s) : mrB n d s a = true := by
  unfold mrB
  split
  · rfl
  · rename_i hn
    rcases h with h | ⟨i, hi, h⟩
    · exact (hn (.inl h)).elim
    · cases i with
      | zero => simp at h; exact (hn (.inr h)).elim
      | succ i =>
        refine sqB_of _ _ ⟨i, by omega, ?_⟩
        rw [← Nat.pow_mod, ← Nat.pow_mul, h]
theorem tz_spec {n : Nat} (h2 : 2 ≤ n) (h : n < 18446744073709551616) : n - 1 = (n - 1) / 2 ^ tz n * 2 ^ tz n ∧ (n - 1) / 2 ^ tz n % 2 = 1 ∧ tz n < 64 := by
  obtain ⟨m, hm, hk⟩ := Lib.ctzFrom_spec 64 (n - 1) (by omega) (by omega)
  have e : tz n = Lib.ctzFrom 64 (n - 1) := by unfold tz Lib.ctz; rw [if_neg (by omega)]
  rw [← e] at hm hk
  have e2 : (n - 1) / 2 ^ tz n = 2 * m + 1 := by
    rw [hm]; exact Nat.mul_div_cancel_left _ (Nat.two_pow_pos _)
  exact ⟨by rw [e2, Nat.mul_comm]; exact hm, by rw [e2]; omega, hk⟩
/-- a prime is told to be one -/
theorem Pr.isB {n : Nat} (h : Pr n) (hn : n < 18446744073709551616) : isB n = true := by
  unfold Proofs.YticgnjapgbjfiaaDoor.isB
  rw [hitB_false h.no_hit, if_neg (by simp)]
  split
  · rfl
  · unfold mrAll
    rw [List.all_eq_true]
    intro a ha
    refine mrB_of (h.mr (fun hd => ?_) (tz_spec h.1 hn).1)
    have ha2 : 2 ≤ a ∧ a ≤ 37 := by
      have : ∀ a ∈ bases, 2 ≤ a ∧ a ≤ 37 := by decide
      exact this a ha
    have := Nat.le_of_dvd (by omega) hd
    omega
/-- of small numbers it is right -/
theorem isB_small {n : Nat} (h2 : 2 ≤ n) (hn : n ≤ 1000000) : isB n = prB n := by
  by_cases h : Pr n
  · rw [h.isB (by omega), prB_true h]
  · rw [prB_false h]
    obtain ⟨d, h3, h4, h5⟩ := comp_div h2 h
    have hh : hit n := by
      rcases Nat.lt_or_ge d 1000 with h6 | h6
      · exact ⟨d, h3, h6, h4, h5⟩
      · have := Nat.mul_le_mul h6 h6
        have : n = 1000000 := by omega
        exact ⟨2, by omega, by omega, by omega, by rw [this]; exact ⟨500000, rfl⟩⟩
    unfold isB
    rw [hitB_true hh, if_pos rfl]
end Go.Proofs.YticgnjapgbjfiaaDoor
