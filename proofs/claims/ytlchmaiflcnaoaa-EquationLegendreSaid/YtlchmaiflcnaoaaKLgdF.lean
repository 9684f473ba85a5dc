/- equation.Legendre: the faults of single numbers. -/
import Derived.Test.YtlchmaiflcnaoaaK0
import Derived.Test.YtlchmaiflcnaoaaKLinW
namespace Go.Proofs.Ytlchmaiflcnaoaa
open Go.RowKit

theorem tri_cell {W : World} {g : Nat} {a b c : Int} {T : TypeId} (h : OB W g #[.int .i64 a, .int .i64 b, .int .i64 c] T) {i : Nat} (hi : i < 3) : W.cell? ⟨g, i, none⟩ = some (.int .i64 (tri a b c i)) := by
  refine h.cell ?_
  rcases (by omega : i = 0 ∨ i = 1 ∨ i = 2) with rfl | rfl | rfl <;> rfl
/-- the world behind the first stores -/
theorem lg_list (w : World) (a b c : Int) : OB (((w.alloc (.cells #[.int .i64 0, .int .i64 0] 26)).alloc (.cells #[.int .i64 a, .int .i64 b, .int .i64 c] 3)).alloc (.cells #[.slice (some ⟨w.heap.size + 1, 0, none⟩) 3 3] 53)) (w.heap.size + 1) #[.int .i64 a, .int .i64 b, .int .i64 c] 3 := by
  have h := OB.made (w.alloc (.cells #[.int .i64 0, .int .i64 0] 26)) #[.int .i64 a, .int .i64 b, .int .i64 c] 3
  rw [World.size_alloc] at h
  exact h.below (bel_e _ _)
theorem no_lg {x : Int} (h : -1000 ≤ x ∧ x ≤ 1000) : decide (x < -1000) = false ∧ decide (1000 < x) = false := by
  rw [decide_eq_false_iff_not, decide_eq_false_iff_not]; omega

set_option maxRecDepth 100000 in
set_option maxHeartbeats 3200000 in
/-- a number that is nothing, or too great -/
theorem legendre_bad (a b c : Int) (k : Nat) (w : World) (hk : k < 3) (hlow : ∀ j, j < k → tri a b c j ≠ 0 ∧ -1000 ≤ tri a b c j ∧ tri a b c j ≤ 1000) (code : Int) (hbad : (code = 4 ∧ tri a b c k = 0) ∨ (code = 3 ∧ tri a b c k ≠ 0 ∧ (tri a b c k < -1000 ∨ 1000 < tri a b c k))) :
    Calls Try.prog 23 #[.int .i64 a, .int .i64 b, .int .i64 c] w fun e w' => e = .returned (.tuple #[.int .i64 0, .int .i64 0, .int .i64 0, fv (code, (k : Int))]) ∧ Below w.heap.size w w' := by
  have C := fun W => hide (efault_any code k W)
  have HL := hide hlow
  have HX := hide hbad
  clear hlow hbad
  go_enter Try.func23, Try.ntmps23
  go_wp2_with fail
  go_loop [30] (fun iv => ∃ j : Nat, iv = .int .i64 j ∧ j ≤ k) (fun iv => 3 - (intOf iv).toNat)
  case atStart => exact ⟨0, rfl, by omega⟩
  case round =>
    obtain ⟨j, rfl, hj⟩ := hrel
    have hj3 : j < 3 := by omega
    have cy := tri_cell (lg_list w a b c) hj3
    obtain ⟨y, hy⟩ : ∃ y, tri a b c j = y := ⟨_, rfl⟩
    rw [hy] at cy
    by_cases hjk : j < k
    · obtain ⟨q0, q12⟩ := HL.out j hjk
      rw [hy] at q0 q12
      obtain ⟨q1, q2⟩ := no_lg q12
      have q3 : (y == 0) = false := by simpa using q0
      clear hy q12 q0
      go_wp2_with fail
      go_round
      case rel => exact ⟨j + 1, by go_num, by omega⟩
      case measure => simp [intOf]; omega
    · obtain rfl : j = k := by omega
      have hbad := HX.out
      rw [hy] at hbad
      clear hy hjk hj HL HX
      have FF := hide (((FC.fresh w).below (bel_e _ (.cells #[.int .i64 a, .int .i64 b, .int .i64 c] 3))).below (bel_e _ (.cells #[.slice (some ⟨w.heap.size + 1, 0, none⟩) 3 3] 53)))
      rcases hbad with ⟨rfl, rfl⟩ | ⟨rfl, h0, hbad⟩
      · go_wp2_with fail
        refine (C _).out.mono ?_
        rintro e w1 ⟨rfl, hb⟩
        have F1 := FF.out.below hb
        have HB := hide (below_new (below_new (below_new hb)))
        obtain ⟨d0, d1, f0, f1⟩ := F1.cells
        obtain ⟨p0, p1⟩ := F1.put 4 j
        have B6 := hide (below_fault (u := .int .i64 4) (v := .int .i64 j) HB.out (Nat.le_refl w.heap.size))
        clear hb F1
        go_wp2_with fail
        exact bodyPost_ret (v := .tuple #[.int .i64 0, .int .i64 0, .int .i64 0, fv (4, (j : Int))]) (by simp [results, Try.results23, go_sem, fv, p0, p1]) rfl ⟨rfl, B6.out⟩
      · have q3 : (y == 0) = false := by simpa using h0
        have qq : decide (y < -1000) = true ∨ (decide (y < -1000) = false ∧ decide (1000 < y) = true) := by
          rw [decide_eq_true_eq, decide_eq_false_iff_not, decide_eq_true_eq]; omega
        clear h0 hbad
        rcases qq with q1 | ⟨q1, q2⟩
        all_goals
          go_wp2_with fail
          refine (C _).out.mono ?_
          rintro e w1 ⟨rfl, hb⟩
          have F1 := FF.out.below hb
          have HB := hide (below_new (below_new (below_new hb)))
          obtain ⟨d0, d1, f0, f1⟩ := F1.cells
          obtain ⟨p0, p1⟩ := F1.put 3 j
          have B6 := hide (below_fault (u := .int .i64 3) (v := .int .i64 j) HB.out (Nat.le_refl w.heap.size))
          clear hb F1
          go_wp2_with fail
          exact bodyPost_ret (v := .tuple #[.int .i64 0, .int .i64 0, .int .i64 0, fv (3, (j : Int))]) (by simp [results, Try.results23, go_sem, fv, p0, p1]) rfl ⟨rfl, B6.out⟩
end Go.Proofs.Ytlchmaiflcnaoaa
