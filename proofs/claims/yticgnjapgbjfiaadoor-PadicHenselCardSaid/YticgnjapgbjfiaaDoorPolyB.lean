/- Plain laws of polynomials by their parts. -/
import Derived.Test.YticgnjapgbjfiaaDoorPolyLaw
import Derived.Test.YticgnjapgbjfiaaDoorArith
namespace Go.Proofs.YticgnjapgbjfiaaDoor

theorem pv_app (a : List Int) (c x : Int) : pv (a ++ [c]) x = pv a x + c * x ^ a.length := by
  induction a with
  | nil => simp [pv]
  | cons b r ih =>
    rw [List.cons_append, pv, pv, ih, List.length_cons, Int.pow_succ, Int.mul_add, Int.add_assoc]
    congr 2
    rw [Int.mul_comm (x ^ r.length) x, ← Int.mul_assoc, ← Int.mul_assoc, Int.mul_comm x c]
theorem dv_app (a : List Int) (c x : Int) : dv (a ++ [c]) x = dv a x + c * a.length * x ^ (a.length - 1) := by
  induction a with
  | nil => simp [dv, pv]
  | cons b r ih =>
    rw [List.cons_append, dv, dv, ih, pv_app, List.length_cons]
    cases hr : r.length with
    | zero => simp; omega
    | succ n =>
      have e1 : n + 1 - 1 = n := rfl
      have e2 : n + 1 + 1 - 1 = n + 1 := rfl
      rw [e1, e2, Int.mul_add, Int.pow_succ]
      have e3 : x * (c * ((n + 1 : Nat) : Int) * x ^ n) = c * ((n + 1 : Nat) : Int) * (x ^ n * x) := by
        rw [Int.mul_comm x, Int.mul_assoc]
      rw [e3]
      have e4 : c * ((n + 1 + 1 : Nat) : Int) * (x ^ n * x) = c * ((n + 1 : Nat) : Int) * (x ^ n * x) + c * (x ^ n * x) := by
        rw [show ((n + 1 + 1 : Nat) : Int) = ((n + 1 : Nat) : Int) + 1 from by omega, Int.mul_add, Int.mul_one, Int.add_mul]
      rw [e4]
      omega
theorem take_succ' {l : List Int} {i : Nat} {c : Int} (h : l[i]? = some c) : l.take (i + 1) = l.take i ++ [c] := by
  rw [List.take_add_one, h]; rfl
theorem pv_take {l : List Int} {i : Nat} {c : Int} (h : l[i]? = some c) (x : Int) : pv (l.take (i + 1)) x = pv (l.take i) x + c * x ^ i := by
  have hi : i < l.length := (List.getElem?_eq_some_iff.1 h).1
  rw [take_succ' h, pv_app, List.length_take, Nat.min_eq_left (by omega)]
theorem dv_take {l : List Int} {i : Nat} {c : Int} (h : l[i]? = some c) (x : Int) : dv (l.take (i + 1)) x = dv (l.take i) x + c * i * x ^ (i - 1) := by
  have hi : i < l.length := (List.getElem?_eq_some_iff.1 h).1
  rw [take_succ' h, dv_app, List.length_take, Nat.min_eq_left (by omega)]

theorem pow_abs {x : Int} {b : Nat} (hx : x.natAbs ≤ b) (k : Nat) : (x ^ k).natAbs ≤ b ^ k := by
  rw [Int.natAbs_pow]; exact Nat.pow_le_pow_left hx k
/-- a part of the sum -/
theorem part_abs {c x : Int} {i : Nat} (hc : c.natAbs ≤ 1000000000000000000) (hx : x.natAbs ≤ 1000000000000000000) (hi : i ≤ 12) : (c * x ^ i).natAbs ≤ 1000000000000000000 ^ 13 := by
  rw [Int.natAbs_mul]
  refine Nat.le_trans (Nat.mul_le_mul hc (Nat.le_trans (pow_abs hx i) (Nat.pow_le_pow_right (by omega) hi))) ?_
  decide
theorem part2_abs {c x : Int} {i : Nat} (hc : c.natAbs ≤ 1000000000000000000) (hx : x.natAbs ≤ 1000000000000000000) (hi : i ≤ 12) : (c * i * x ^ (i - 1)).natAbs ≤ 1000000000000000000 ^ 13 := by
  rw [Int.natAbs_mul, Int.natAbs_mul]
  have h1 : (i : Int).natAbs = i := rfl
  rw [h1]
  refine Nat.le_trans (Nat.mul_le_mul (Nat.mul_le_mul hc hi) (Nat.le_trans (pow_abs hx (i - 1)) (Nat.pow_le_pow_right (by omega) (show i - 1 ≤ 11 by omega)))) ?_
  decide
end Go.Proofs.YticgnjapgbjfiaaDoor
