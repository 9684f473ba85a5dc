/- The walks of the answers' Gcd and Size. -/
import Derived.Test.YtlchmaiflcnaoaaDoorK0
namespace Go.Proofs.YtlchmaiflcnaoaaDoor
open Go.RowKit

theorem gcd_step1 (p q : Nat) : Nat.gcd (p % q) q = Nat.gcd p q := by rw [← Nat.gcd_rec, Nat.gcd_comm]
theorem gcd_step2 (p q : Nat) : Nat.gcd p (q % p) = Nat.gcd p q := by rw [Nat.gcd_comm, ← Nat.gcd_rec]
theorem tmod_nat (p q : Nat) : ((p : Int)).tmod (q : Int) = ((p % q : Nat) : Int) := by
  rw [Int.tmod_eq_emod_of_nonneg (by omega)]; rfl

theorem ret_i64 {a b : Int} (h : a = b) : Value.int .i64 a = .int .i64 b := by rw [h]

end Go.Proofs.YtlchmaiflcnaoaaDoor
