/- math/bits.Add64 and Sub64 at this seat: what a call gives. -/
import Derived.Shelf.Spec.BitsCarry
import Derived.Test.YtkfjjljdhfjpbaaKBase
namespace Go.Proofs.Ytkfjjljdhfjpbaa
open Go.RowKit

theorem sub64_run (x y : Nat) (w : World) :
    (callFunc 56 #[.int .u64 x, .int .u64 y, .int .u64 0]).run Try.prog w =
      .ok (.value (.tuple #[.int .u64 (((x + 18446744073709551616 - y) % 18446744073709551616 : Nat) : Int), .int .u64 ((if x < y then 1 else 0 : Nat) : Int)])) w := by
  rw [run_callFunc_extern Try.func56 (by kernel_rfl) (by kernel_rfl) (by kernel_rfl) (e := sub64Entry) (by kernel_rfl), show (0 : Int) = ((0 : Nat) : Int) from rfl, run_sub64 x y 0 (by omega)]
  rfl
theorem add64_run (x y : Nat) (w : World) :
    (callFunc 57 #[.int .u64 x, .int .u64 y, .int .u64 0]).run Try.prog w =
      .ok (.value (.tuple #[.int .u64 (((x + y) % 18446744073709551616 : Nat) : Int), .int .u64 (((x + y) / 18446744073709551616 : Nat) : Int)])) w := by
  rw [run_callFunc_extern Try.func57 (by kernel_rfl) (by kernel_rfl) (by kernel_rfl) (e := add64Entry) (by kernel_rfl), run_add64 x y 0 (by omega) (by omega) (by omega) (by omega)]
  simp only [Result.andThen]
  congr 5 <;> omega
end Go.Proofs.Ytkfjjljdhfjpbaa
