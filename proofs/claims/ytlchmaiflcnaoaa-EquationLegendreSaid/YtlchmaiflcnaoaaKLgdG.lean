/- equation.Legendre: a square in the product. -/
import Derived.Test.YtlchmaiflcnaoaaKLgdF
namespace Go.Proofs.Ytlchmaiflcnaoaa
open Go.RowKit

/-- three numbers as Legendre takes them -/
structure Lg3 (a b c : Int) : Prop where
  a0 : a ≠ 0
  b0 : b ≠ 0
  c0 : c ≠ 0
  a1 : -1000 ≤ a ∧ a ≤ 1000
  b1 : -1000 ≤ b ∧ b ≤ 1000
  c1 : -1000 ≤ c ∧ c ≤ 1000
theorem Lg3.prod {a b c : Int} (h : Lg3 a b c) : IntKind.i64.wrap (a * b) = a * b ∧ IntKind.i64.wrap (a * b * c) = a * b * c ∧ (a * b * c).natAbs ≤ 1000000000 ∧ 0 < (a * b * c).natAbs := by
  obtain ⟨a0, b0, c0, a1, b1, c1⟩ := h
  have e1 := abs_mul_le (x := a) (y := b) (p := 1000) (q := 1000) (by omega) (by omega)
  have e2 := abs_mul_le (x := a * b) (y := c) (p := 1000000) (q := 1000) (by omega) (by omega)
  have e3 : a * b * c ≠ 0 := Int.mul_ne_zero (Int.mul_ne_zero a0 b0) c0
  rw [IntKind.wrap_i64, IntKind.wrap_i64]
  omega
theorem Lg3.tests {a b c : Int} (h : Lg3 a b c) : ((a == 0) = false ∧ (b == 0) = false ∧ (c == 0) = false) ∧ (decide (a < -1000) = false ∧ decide (1000 < a) = false) ∧ (decide (b < -1000) = false ∧ decide (1000 < b) = false) ∧ (decide (c < -1000) = false ∧ decide (1000 < c) = false) := by
  obtain ⟨a0, b0, c0, a1, b1, c1⟩ := h
  exact ⟨⟨by simpa using a0, by simpa using b0, by simpa using c0⟩, no_lg a1, no_lg b1, no_lg c1⟩
theorem lg_first {w : World} {F L S N : Obj} : Below w.heap.size w ((((w.alloc F).alloc L).alloc S).alloc N) := below_new (below_new (below_new (bel_e _ N)))

set_option maxRecDepth 100000 in
set_option maxHeartbeats 3200000 in
/-- a square in the product -/
theorem legendre_form (a b c : Int) (p : Nat) (w : World) (h : Lg3 a b c) (hp1 : p ≤ 1000) (hp2 : 2 ≤ p) (hp : (a * b * c).natAbs % (p * p) = 0) (hlow : ∀ q, 2 ≤ q → q < p → ¬ (a * b * c).natAbs % (q * q) = 0) :
    Calls Try.prog 23 #[.int .i64 a, .int .i64 b, .int .i64 c] w fun e w' => e = .returned (.tuple #[.int .i64 0, .int .i64 0, .int .i64 0, fv (6, 0)]) ∧ Below w.heap.size w w' := by
  have C := fun W => hide (efault_any 6 0 W)
  obtain ⟨v1, v2, v3, v4⟩ := h.prod
  have CA := fun W => hide (eabs_any (a * b * c) W (by omega))
  obtain ⟨N, hN⟩ : ∃ N, (a * b * c).natAbs = N := ⟨_, rfl⟩
  rw [hN] at CA hp hlow v3 v4
  have HL := hide hlow
  have HP := hide hp
  have HV := hide (And.intro v3 v4)
  obtain ⟨⟨t1, t2, t3⟩, ⟨t4, t5⟩, ⟨t6, t7⟩, t8, t9⟩ := h.tests
  clear hlow hp h hN v3 v4
  go_enter Try.func23, Try.ntmps23
  go_wp2_with fail
  refine wp_loop_rounds 4 ?_
  rw [rounds_succ]
  go_wp2_with fail
  rw [rounds_succ]
  go_wp2_with fail
  rw [rounds_succ]
  go_wp2_with fail
  rw [rounds_succ]
  go_wp2_with fail
  refine (CA _).out.mono ?_
  rintro e w1 ⟨rfl, rfl⟩
  clear v1 v2 t1 t2 t3 t4 t5 t6 t7 t8 t9
  go_wp2_with fail
  go_loop [14] (fun x => ∃ n : Nat, x = .int .i64 n ∧ 2 ≤ n ∧ n ≤ p) (fun x => p - (intOf x).toNat)
  case atStart => exact ⟨2, rfl, by omega, by omega⟩
  case round =>
    obtain ⟨n, rfl, hn2, hnp⟩ := hrel
    have e0 := Nat.mul_le_mul (show n ≤ 1000 by omega) (show n ≤ 1000 by omega)
    have e1 : ((n * n : Nat) : Int) = (n : Int) * n := by simp
    have e3 := Nat.mul_le_mul hn2 hn2
    have w1 : IntKind.i64.wrap ((n : Int) * (n : Int)) = ((n * n : Nat) : Int) := by rw [IntKind.wrap_i64]; omega
    obtain ⟨M, hM⟩ : ∃ M, n * n = M := ⟨_, rfl⟩
    rw [hM] at w1 e3
    have hMn : M ≤ 1000000 := by omega
    obtain ⟨r, hr⟩ : ∃ r, N % M = r := ⟨_, rfl⟩
    have w2 : ((N : Nat) : Int).tmod ((M : Nat) : Int) = (r : Int) := by rw [← hr]; rfl
    have hn1 : (n : Int) ≤ 1000 := by omega
    clear e0 e1
    by_cases h0 : r = 0
    · subst h0
      clear hM hr
      go_wp2_with fail
      refine (C _).out.mono ?_
      rintro e w1 ⟨rfl, hb⟩
      have FF := hide ((((FC.fresh w).below (bel_e _ (.cells #[.int .i64 a, .int .i64 b, .int .i64 c] 3))).below (bel_e _ (.cells #[.slice (some ⟨w.heap.size + 1, 0, none⟩) 3 3] 53))).below (bel_e _ (.cells #[.int .i64 (N : Int)] 3)))
      have F1 := FF.out.below hb
      have HB := hide (below_new (below_new (below_new (below_new hb))))
      obtain ⟨d0, d1, f0, f1⟩ := F1.cells
      obtain ⟨p0, p1⟩ := F1.put 6 0
      have B6 := hide (below_fault (u := .int .i64 6) (v := .int .i64 0) HB.out (Nat.le_refl w.heap.size))
      clear hb F1
      go_wp2_with fail
      exact bodyPost_ret (v := .tuple #[.int .i64 0, .int .i64 0, .int .i64 0, fv (6, 0)]) (by simp [results, Try.results23, go_sem, fv, p0, p1]) rfl ⟨rfl, B6.out⟩
    · have hnn : n < p := by
        rcases Nat.lt_or_ge n p with h | h
        · exact h
        · have hpe : n = p := by omega
          have := HP.out
          rw [← hpe, hM, hr] at this
          exact absurd this h0
      have h1 : ((r : Int) == 0) = false := by simpa using h0
      clear hM hr
      go_wp2_with fail
      go_round
      case rel => exact ⟨n + 1, by go_num, by omega, by omega⟩
      case measure => simp [intOf]; omega
end Go.Proofs.Ytlchmaiflcnaoaa
