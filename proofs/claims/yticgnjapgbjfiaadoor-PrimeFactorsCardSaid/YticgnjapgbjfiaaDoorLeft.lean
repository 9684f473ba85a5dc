/- The walk of the answers' Left, under the bounds of its arguments. -/
import Derived.Test.YticgnjapgbjfiaaDoorWhole
namespace Go.Proofs.YticgnjapgbjfiaaDoor
open Go.RowKit

set_option maxRecDepth 100000 in
set_option maxHeartbeats 400000 in
theorem left_ref (a m : Int) (w : World) (hm : 0 < m) (hm2 : m ≤ 9223372036854775807) (_ha : -9223372036854775808 ≤ a) (_ha2 : a ≤ 9223372036854775807) :
    Calls Tryd.prog 23 #[.int .i64 a, .int .i64 m] w fun e w' => e = .returned (.int .i64 (a % m)) ∧ w = w' := by
  have h1 := Int.lt_tmod_of_pos a hm
  have h2 := Int.tmod_lt_of_pos a hm
  go_enter Tryd.func23, Tryd.ntmps23
  go_wp2
  · go_ret
    exact ⟨ret_int (tmod_neg_fix hm (by assumption)), rfl⟩
  · go_ret
    exact ⟨ret_int (tmod_pos_fix hm (by assumption)), rfl⟩

end Go.Proofs.YticgnjapgbjfiaaDoor
