/- The plain law of reduced forms of one discriminant: what the two ways of looking through them take. -/
namespace Go.Proofs.Ytlchmaiflcnaoaa

/-- the form with a and b of discriminant d is one of the reduced ones (d below 0) -/
def okF (d a b : Int) : Bool := decide ((4 * a ∣ b * b - d) ∧ -a < b ∧ b ≤ a ∧ a ≤ (b * b - d) / (4 * a) ∧ ¬ ((b * b - d) / (4 * a) = a ∧ b < 0) ∧ Int.gcd a (Int.gcd b ((b * b - d) / (4 * a))) = 1)
def frm (d a b : Int) : Int × Int × Int := (a, b, (b * b - d) / (4 * a))
/-- of one a: b from -a on, j of them -/
def rowF (d a : Int) : Nat → List (Int × Int × Int)
  | 0 => []
  | j + 1 => rowF d a j ++ if okF d a (-a + j) = true then [frm d a (-a + j)] else []
/-- all of a from 1 on, n of them -/
def allF (d : Int) : Nat → List (Int × Int × Int)
  | 0 => []
  | n + 1 => allF d n ++ rowF d ((n : Int) + 1) (2 * (n + 1) + 1)

theorem okF_first (d a : Int) : okF d a (-a) = false := by
  unfold okF; rw [decide_eq_false_iff_not]; omega
theorem rowF_one (d a : Int) : rowF d a 1 = [] := by
  rw [rowF, rowF, show -a + ((0 : Nat) : Int) = -a from by omega, okF_first]; rfl
theorem rowF_len (d a : Int) (j : Nat) : (rowF d a j).length ≤ j := by
  induction j with
  | zero => simp [rowF]
  | succ j ih => rw [rowF, List.length_append]; split <;> simp <;> omega
theorem allF_len (d : Int) (n : Nat) : (allF d n).length ≤ n * (2 * n + 1) := by
  induction n with
  | zero => simp [allF]
  | succ n ih =>
    rw [allF, List.length_append]
    have := rowF_len d ((n : Int) + 1) (2 * (n + 1) + 1)
    have h2 : (n + 1) * (2 * (n + 1) + 1) = n * (2 * n + 1) + (4 * n + 3) := by grind
    omega
end Go.Proofs.Ytlchmaiflcnaoaa
