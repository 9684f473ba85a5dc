/- The walk of equation.Linear: for all ints. -/
import Derived.Test.YtlchmaiflcnaoaaKBezout
import Derived.Test.YtlchmaiflcnaoaaKTimes
import Derived.Deep.DeepCutAuto
namespace Go.Proofs.Ytlchmaiflcnaoaa
open Go.RowKit

theorem efault_any (c n : Int) (w : World) :
    Calls Try.prog 53 #[.int .i64 c, .int .i64 n] w fun e w' => e = .returned (.agg #[.int .i64 c, .int .i64 n]) ∧ Below w.heap.size w w' := by
  go_enter Try.func53, Try.ntmps53
  go_wp2
  exact bodyPost_ret (v := .agg #[.int .i64 c, .int .i64 n]) (by simp [results, Try.results53, go_sem]) rfl ⟨rfl, (Below.refl _ _).alloc (Nat.le_refl _) _⟩
theorem bel_e (w : World) (o : Obj) : Below w.heap.size w (w.alloc o) := (Below.refl _ _).alloc (Nat.le_refl _) _
/-- the first number that is too great -/
def bigK : Nat → List Int → Int × Int
  | _, [] => (0, 0)
  | k, x :: r => if -1000000000 ≤ x ∧ x ≤ 1000000000 then bigK (k + 1) r else (3, k)
/-- what is wrong with an equation -/
def linF (a b c : Int) : Int × Int :=
  if bigK 0 [a, b, c] ≠ (0, 0) then bigK 0 [a, b, c] else if b = 0 then (4, 1) else if c % (Int.gcd a b : Int) ≠ 0 then (5, 0) else (0, 0)
theorem bigK_cases (a b c : Int) : (bigK 0 [a, b, c] = (0, 0) ∧ (-1000000000 ≤ a ∧ a ≤ 1000000000) ∧ (-1000000000 ≤ b ∧ b ≤ 1000000000) ∧ (-1000000000 ≤ c ∧ c ≤ 1000000000)) ∨ ∃ k : Nat, k < 3 ∧ bigK 0 [a, b, c] = (3, (k : Int)) ∧ (∀ j x, j < k → [a, b, c][j]? = some x → -1000000000 ≤ x ∧ x ≤ 1000000000) ∧ ∃ x, [a, b, c][k]? = some x ∧ (x < -1000000000 ∨ 1000000000 < x) := by
  unfold bigK bigK bigK bigK
  by_cases h1 : -1000000000 ≤ a ∧ a ≤ 1000000000
  · by_cases h2 : -1000000000 ≤ b ∧ b ≤ 1000000000
    · by_cases h3 : -1000000000 ≤ c ∧ c ≤ 1000000000
      · rw [if_pos h1, if_pos h2, if_pos h3]; exact .inl ⟨rfl, h1, h2, h3⟩
      · rw [if_pos h1, if_pos h2, if_neg h3]
        refine .inr ⟨2, by omega, rfl, fun j x hj hx => ?_, c, rfl, by omega⟩
        match j, hj with
        | 0, _ => injection hx with hx; subst hx; exact h1
        | 1, _ => injection hx with hx; subst hx; exact h2
    · rw [if_pos h1, if_neg h2]
      refine .inr ⟨1, by omega, rfl, fun j x hj hx => ?_, b, rfl, by omega⟩
      match j, hj with
      | 0, _ => injection hx with hx; subst hx; exact h1
  · rw [if_neg h1]
    exact .inr ⟨0, by omega, rfl, fun j x hj => absurd hj (by omega), a, rfl, by omega⟩
/-- what Linear answers -/
structure LinOk (a b c x y : Int) (f : Int × Int) : Prop where
  fault : f = linF a b c
  none : f.1 ≠ 0 → x = 0 ∧ y = 0
  some : f.1 = 0 → 0 ≤ x ∧ x < ((b.natAbs / Int.gcd a b : Nat) : Int) ∧ a * x + b * y = c ∧ x.natAbs ≤ 1000000000 ∧ y.natAbs ≤ 1000000000000000001
def RetLin (w : World) (a b c : Int) : Ending → World → Prop := fun e w' => ∃ x y : Int, ∃ f, e = .returned (.tuple #[.int .i64 x, .int .i64 y, fv f]) ∧ LinOk a b c x y f ∧ Below w.heap.size w w'

/-- the plain law: u a + v b = g, then x = u (c / g) left by |b| / g solves -/
theorem lin_solve {a b c u v : Int} {g : Nat} (hb : b ≠ 0) (hg : Int.gcd a b = g) (he : u * a + v * b = g) (hc : c % (g : Int) = 0) : b ∣ c - a * (u * (c / g) % ((b.natAbs / g : Nat) : Int)) := by
  have hg0 : 0 < g := by rw [← hg]; exact Int.gcd_pos_of_ne_zero_right _ hb
  obtain ⟨p, hp⟩ : (g : Int) ∣ a := hg ▸ Int.gcd_dvd_left ..
  obtain ⟨q, hq⟩ : (g : Int) ∣ b := hg ▸ Int.gcd_dvd_right ..
  obtain ⟨t, ht⟩ : (g : Int) ∣ c := Int.dvd_of_emod_eq_zero hc
  have hcg : c / g = t := by rw [ht]; exact Int.mul_ediv_cancel_left _ (by omega)
  have hm : ((b.natAbs / g : Nat) : Int) = (q.natAbs : Int) := by
    rw [hq, Int.natAbs_mul, Int.natAbs_natCast, Nat.mul_div_cancel_left _ hg0]
  rw [hcg, hm]
  have hdm := Int.emod_add_mul_ediv (u * t) (q.natAbs : Int)
  generalize u * t / (q.natAbs : Int) = k at hdm
  have hx : u * t % (q.natAbs : Int) = u * t - (q.natAbs : Int) * k := by omega
  rw [hx]
  obtain ⟨s, hs⟩ : ∃ s : Int, (q.natAbs : Int) = s * q := by
    rcases Int.natAbs_eq q with h | h
    · exact ⟨1, by omega⟩
    · exact ⟨-1, by omega⟩
  rw [hs]
  refine ⟨v * t + p * s * k, ?_⟩
  have e1 : (g : Int) * t = u * a * t + v * b * t := by rw [← Int.add_mul, he]
  rw [ht, e1, hp, hq]
  grind

theorem no_big {x : Int} (h : -1000000000 ≤ x ∧ x ≤ 1000000000) : decide (x < -1000000000) = false ∧ decide (1000000000 < x) = false := by
  rw [decide_eq_false_iff_not, decide_eq_false_iff_not]; omega
theorem yes_low {x : Int} (h : x < -1000000000) : decide (x < -1000000000) = true := by rw [decide_eq_true_eq]; exact h
theorem yes_high {x : Int} (h : 1000000000 < x) : decide (x < -1000000000) = false ∧ decide (1000000000 < x) = true := by
  rw [decide_eq_false_iff_not, decide_eq_true_eq]; omega
theorem lin_mem {g : Int} {M : Nat} {x : Int} (h : x = g % (M : Int)) (hM : 0 < M) : 0 ≤ x ∧ x < M := by
  subst h; exact ⟨Int.emod_nonneg _ (by omega), Int.emod_lt_of_pos _ (by omega)⟩

theorem cell_three {W : World} {g : Nat} {a b c y : Int} {j : Nat} {T : TypeId} {fr : Nat × Nat} (h : W.heap[g]? = some (.cells #[.int .i64 a, .int .i64 b, .int .i64 c] T fr)) (hy : [a, b, c][j]? = some y) : W.cell? ⟨g, j, none⟩ = some (.int .i64 y) := by
  have e : W.cell? ⟨g, j, none⟩ = (#[Value.int .i64 a, .int .i64 b, .int .i64 c] : Array Value)[j]? := by simp [World.cell?, h]
  rw [e]
  match j, hy with
  | 0, hy => injection hy with hy; subst hy; rfl
  | 1, hy => injection hy with hy; subst hy; rfl
  | 2, hy => injection hy with hy; subst hy; rfl
end Go.Proofs.Ytlchmaiflcnaoaa
