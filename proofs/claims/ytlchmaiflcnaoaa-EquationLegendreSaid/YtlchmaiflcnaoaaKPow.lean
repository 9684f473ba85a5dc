/- The walks of whole.Raise and whole.Power; powers left by a number. Each under the bounds of its arguments. -/
import Derived.Test.YtlchmaiflcnaoaaKTimes
import Derived.Lib.RabinKarpLaws
namespace Go.Proofs.Ytlchmaiflcnaoaa
open Go.RowKit

theorem pow_emod (a m : Int) (k : Nat) : (a % m) ^ k % m = a ^ k % m := by
  induction k with
  | zero => simp
  | succ k ih => rw [Int.pow_succ, Int.pow_succ, Int.mul_emod, ih, ← Int.mul_emod, Int.mul_emod, Int.emod_emod_of_dvd _ (Int.dvd_refl m), ← Int.mul_emod]
theorem mulpow_emod {o p x m : Int} (k : Nat) (h : p % m = x % m) : o * p ^ k % m = o * x ^ k % m := by
  rw [Int.mul_emod, ← pow_emod p, h, pow_emod, ← Int.mul_emod]
theorem emod_mul_l {o p m : Int} : (o % m) * p % m = o * p % m := by
  rw [Int.mul_emod, Int.emod_emod_of_dvd _ (Int.dvd_refl m), ← Int.mul_emod]

/-- raise: one round -/
theorem raise_odd {o p m : Int} {k : Nat} (h : k % 2 = 1) : (o * p % m) * ((p * p) % m) ^ (k / 2) % m = o * p ^ k % m := by
  rw [emod_mul_l, mulpow_emod (x := p * p) _ (by rw [Int.emod_emod_of_dvd _ (Int.dvd_refl m)])]
  have e : p ^ k = p * (p * p) ^ (k / 2) := by
    have : k = 2 * (k / 2) + 1 := by omega
    generalize k / 2 = z at *
    subst this
    rw [Int.pow_succ, Int.pow_mul, show p ^ 2 = p * p from by rw [Int.pow_succ, Int.pow_succ, Int.pow_zero, Int.one_mul], Int.mul_comm]
  rw [e, Int.mul_assoc]
theorem raise_even {o p m : Int} {k : Nat} (h : k % 2 = 0) : o * ((p * p) % m) ^ (k / 2) % m = o * p ^ k % m := by
  rw [mulpow_emod (x := p * p) _ (by rw [Int.emod_emod_of_dvd _ (Int.dvd_refl m)])]
  have e : p ^ k = (p * p) ^ (k / 2) := by
    have : k = 2 * (k / 2) := by omega
    generalize k / 2 = z at *
    subst this
    rw [Int.pow_mul, show p ^ 2 = p * p from by rw [Int.pow_succ, Int.pow_succ, Int.pow_zero, Int.one_mul]]
  rw [e]

end Go.Proofs.Ytlchmaiflcnaoaa
