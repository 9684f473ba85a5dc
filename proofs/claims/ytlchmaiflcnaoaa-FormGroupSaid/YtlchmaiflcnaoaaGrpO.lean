/- The law FormGroup at all values. -/
import Derived.Test.YtlchmaiflcnaoaaGrpN
namespace Go.Proofs.Ytlchmaiflcnaoaa
open Go.RowKit
theorem group_row (a1 b1 c1 a2 b2 c2 a3 b3 c3 : Int) (w : World) :
    Calls Try.prog 5 #[.agg #[.int .i64 a1, .int .i64 b1, .int .i64 c1], .agg #[.int .i64 a2, .int .i64 b2, .int .i64 c2], .agg #[.int .i64 a3, .int .i64 b3, .int .i64 c3]] w fun e w' => e = .returned (.bool true) ∧ Below w.heap.size w w' := by
  by_cases hc : (formF a1 b1 c1).1 = 0 ∧ (formF a2 b2 c2).1 = 0 ∧ b1 * b1 - 4 * a1 * c1 = b2 * b2 - 4 * a2 * c2
  · obtain ⟨h1, h2, hd⟩ := hc
    by_cases h3 : (formF a3 b3 c3).1 = 0
    · have hz3 := formF_zero h3
      by_cases hv : b1 * b1 - 4 * a1 * c1 = b3 * b3 - 4 * a3 * c3
      · by_cases hl : b1 * b1 - 4 * a1 * c1 < -1000000
        · exact group_c4 a1 b1 c1 a2 b2 c2 a3 b3 c3 w h1 h2 h3 _ rfl hd.symm hv.symm hl
        · exact group_c5 a1 b1 c1 a2 b2 c2 a3 b3 c3 w h1 h2 h3 _ rfl hd.symm hv.symm (by omega)
      · exact group_c2 a1 b1 c1 a2 b2 c2 a3 b3 c3 w h1 h2 _ rfl hd.symm _ hv (fun W => hide (rdisc_any a3 b3 c3 W (by omega) (by omega) (by omega)))
    · by_cases hv : b1 * b1 - 4 * a1 * c1 = dw a3 b3 c3
      · exact group_c3 a1 b1 c1 a2 b2 c2 a3 b3 c3 w h1 h2 _ rfl hd.symm (fun W => hide (hv ▸ rdisc_wrap a3 b3 c3 W)) h3
      · exact group_c2 a1 b1 c1 a2 b2 c2 a3 b3 c3 w h1 h2 _ rfl hd.symm _ hv (fun W => hide (rdisc_wrap a3 b3 c3 W))
  · exact group_c1 a1 b1 c1 a2 b2 c2 a3 b3 c3 w hc
end Go.Proofs.Ytlchmaiflcnaoaa
