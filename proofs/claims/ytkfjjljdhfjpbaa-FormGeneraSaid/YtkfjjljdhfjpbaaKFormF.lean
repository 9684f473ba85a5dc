/- The walks of quad.floor, and of reduce at the document's examples. -/
import Derived.Test.YtkfjjljdhfjpbaaKFormD
import Derived.Handy
namespace Go.Proofs.Ytkfjjljdhfjpbaa
open Go.RowKit

theorem floor_law (a b : Int) (hb : 0 < b) : (a - a % b).tdiv b = a / b := by
  rw [Int.emod_def, show a - (a - b * (a / b)) = b * (a / b) from by omega]
  exact Int.mul_tdiv_cancel_left _ (by omega)

set_option maxRecDepth 100000 in
set_option maxHeartbeats 400000 in
theorem qfloor_any (a b : Int) (w : World) (hb : 0 < b) (hb2 : b ≤ 1000000000000000000) (ha : -1000000000000000000 ≤ a) (ha2 : a ≤ 1000000000000000000) :
    Calls Try.prog 28 #[.int .i64 a, .int .i64 b] w fun e w' => e = .returned (.int .i64 (a / b)) ∧ w = w' := by
  have C := fun W => hide (mod_any a b W hb (by omega) (by omega) (by omega))
  have r0 := Int.emod_nonneg a (b := b) (by omega)
  have r1 := Int.emod_lt_of_pos a hb
  have hf := floor_law a b hb
  have e3 := Int.mul_ediv_add_emod a b
  have e1 : IntKind.i64.wrap (a - a % b) = a - a % b := by rw [IntKind.wrap_i64]; omega
  have q0 : (a / b).natAbs ≤ a.natAbs := Int.natAbs_ediv_le_natAbs a b
  have e2 : IntKind.i64.wrap (a / b) = a / b := by rw [IntKind.wrap_i64]; omega
  have hb0 : ¬ b = 0 := by omega
  obtain ⟨q, hq⟩ : ∃ q, a / b = q := ⟨_, rfl⟩
  obtain ⟨r, hr⟩ : ∃ r, a % b = r := ⟨_, rfl⟩
  rw [hq] at hf e2 q0 ⊢
  rw [hr] at C hf e1 r0 r1
  clear e3 hq hr
  go_enter Try.func28, Try.ntmps28
  go_wp2_with fail
  refine (C _).out.mono ?_
  rintro e w1 ⟨rfl, rfl⟩
  go_wp2_with fail
  go_ret
  exact ⟨rfl, rfl⟩

set_option maxRecDepth 100000 in
set_option maxHeartbeats 3200000 in
theorem reduce_213 (w : World) : Calls Try.prog 18 #[.agg #[.int .i64 2, .int .i64 1, .int .i64 3]] w fun e w' => e = .returned (.tuple #[.agg #[.int .i64 2, .int .i64 1, .int .i64 3], .agg #[.int .i64 1, .int .i64 0, .int .i64 0, .int .i64 1]]) ∧ Below w.heap.size w w' := by
  have C := fun W => hide (qfloor_any 1 4 W (by omega) (by omega) (by omega) (by omega))
  rw [show (1 : Int) / 4 = 0 from by decide] at C
  go_enter Try.func18, Try.ntmps18
  go_wp2_with fail
  refine wp_loop_rounds 1 ?_
  rw [rounds_succ]
  go_wp2_with fail
  refine (C _).out.mono ?_
  rintro e w1 ⟨rfl, rfl⟩
  go_wp2_with fail
  go_region
  all_goals
    go_wp2_with fail
    refine bodyPost_ret (v := .tuple #[.agg #[.int .i64 2, .int .i64 1, .int .i64 3], .agg #[.int .i64 1, .int .i64 0, .int .i64 0, .int .i64 1]]) (by simp [results, Try.results18, go_sem]) rfl ⟨rfl, ?_⟩
    go_grown
end Go.Proofs.Ytkfjjljdhfjpbaa
