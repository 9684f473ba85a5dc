/- The walks of arithmeticabig's Int: Set, Neg, Abs, Sign, Uint64, Int64. Each under a bound on the numbers. (gen_intd.py prints this text.) -/
import Derived.Test.YtgocnjklpafabaaIntC
namespace Go.Proofs.Ytgocnjklpafabaa
open Go.RowKit

theorem sign_cases (X : Int) : X = 0 ∧ X.sign = 0 ∨ X < 0 ∧ X.sign = -1 ∨ 0 < X ∧ X.sign = 1 := by
  rcases Int.lt_trichotomy X 0 with h | h | h
  · exact .inr (.inl ⟨h, Int.sign_eq_neg_one_of_neg h⟩)
  · exact .inl ⟨h, by rw [h]; rfl⟩
  · exact .inr (.inr ⟨h, Int.sign_eq_one_of_pos h⟩)
theorem len_zero {l : List Nat} {k x : Nat} (hl : l.length = k) (hn : Norm l) (hv : wv l = x) : k = 0 ↔ x = 0 := by
  constructor
  · intro h
    rw [h] at hl
    rw [← hv, List.eq_nil_of_length_eq_zero hl]; rfl
  · intro h
    by_cases hk : 0 < k
    · have := wv_ge hn (by omega)
      have h2 : 0 < 4294967296 ^ (l.length - 1) := Nat.pow_pos (by omega)
      omega
    · omega

end Go.Proofs.Ytgocnjklpafabaa
