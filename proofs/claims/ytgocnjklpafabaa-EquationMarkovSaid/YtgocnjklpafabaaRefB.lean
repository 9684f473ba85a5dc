/- The walk of the answers' Combined. -/
import Derived.Test.YtgocnjklpafabaaRefG
import Derived.Test.YtgocnjklpafabaaIntC
namespace Go.Proofs.Ytgocnjklpafabaa
open Go.RowKit

theorem b_any (a : Int) (w : World) (ha : -9223372036854775808 ≤ a) (ha2 : a ≤ 9223372036854775807) :
    Calls Try.prog 16 #[.int .i64 a] w (RetNew w a) := by
  have C := hide (newInt_any a w ha ha2)
  clear ha ha2
  go_enter Try.func16, Try.ntmps16
  go_wp2_with fail
  refine C.out.mono ?_
  rintro e w1 ⟨g, rfl, hg, hi, hb⟩
  have HI := hide hi
  have HB := hide hb
  clear hi hb
  go_wp2_with fail
  go_ret
  exact ⟨g, rfl, hg, HI.out, HB.out⟩
end Go.Proofs.Ytgocnjklpafabaa

namespace Go.Proofs.Ytgocnjklpafabaa
open Go.RowKit

theorem lim_256 {x : Nat} (h : x < 115792089237316195423570985008687907853269984665640564039457584007913129639936) : x < lim := by
  have e : 115792089237316195423570985008687907853269984665640564039457584007913129639936 = 4294967296 ^ 8 := by decide
  rw [e] at h
  exact Nat.lt_of_lt_of_le h (Nat.pow_le_pow_right (by omega) (by decide))
theorem mul_i64 {x y : Int} (hx : x.natAbs ≤ 9223372036854775808) (hy : y.natAbs ≤ 9223372036854775808) : (x * y).natAbs ≤ 85070591730234615865843651857942052864 := by
  rw [Int.natAbs_mul]
  exact Nat.le_trans (Nat.mul_le_mul hx hy) (by decide)
theorem blk_intNew (w : World) : IntBlk (w.alloc (.cells #[.bool false, .slice none 0 0] 52)) w.heap.size := blk_newInt w

set_option maxRecDepth 100000 in
set_option maxHeartbeats 1600000 in
theorem combined_any (u a v b : Int) (w : World) (hu : u.natAbs ≤ 1000000000000000001) (ha : a.natAbs ≤ 1000000000000000001) (hv : v.natAbs ≤ 1000000000000000001) (hb : b.natAbs ≤ 1000000000000000001) :
    Calls Try.prog 14 #[.int .i64 u, .int .i64 a, .int .i64 v, .int .i64 b] w (RetNew w (u * a + v * b)) := by
  have Cu := fun W => hide (b_any u W (by omega) (by omega))
  have Ca := fun W => hide (b_any a W (by omega) (by omega))
  have Cv := fun W => hide (b_any v W (by omega) (by omega))
  have Cb := fun W => hide (b_any b W (by omega) (by omega))
  have m1 := mul_i64 (x := u) (y := a) (by omega) (by omega)
  have m2 := mul_i64 (x := v) (y := b) (by omega) (by omega)
  have L1 : Hid (u.natAbs < lim) := lim_256 (by omega)
  have L2 : Hid (a.natAbs < lim) := lim_256 (by omega)
  have L3 : Hid (v.natAbs < lim) := lim_256 (by omega)
  have L4 : Hid (b.natAbs < lim) := lim_256 (by omega)
  have L5 : Hid ((u * a).natAbs < lim) := lim_256 (by omega)
  have L6 : Hid ((v * b).natAbs < lim) := lim_256 (by omega)
  have L7 : Hid ((u * a + v * b).natAbs < lim) := lim_256 (by omega)
  clear hu ha hv hb m1 m2
  have B0 : Hid (Below w.heap.size w (w.alloc (.cells #[.bool false, .slice none 0 0] 52))) := (Below.refl _ _).alloc (Nat.le_refl _) _
  have I0 := hide (blk_intNew w)
  go_enter Try.func14, Try.ntmps14
  go_wp2_with fail
  refine (Cu _).out.mono ?_
  rintro e w1 ⟨g1, rfl, hg1, hi1, hb1⟩
  have G1 := hide hg1
  have B1 := hide (B0.out.trans (hb1.mono B0.out.size))
  have I01 := hide (I0.out.below hb1)
  have X1 := hide hi1
  clear hi1 hb1 hg1
  go_wp2_with fail
  refine (Ca _).out.mono ?_
  rintro e w2 ⟨g2, rfl, hg2, hi2, hb2⟩
  have G2 := hide hg2
  have B2 := hide (B1.out.trans (hb2.mono B1.out.size))
  have I02 := hide (I01.out.below hb2)
  have X12 := hide (X1.out.below hb2)
  have X2 := hide hi2
  clear hi2 hb2 hg2
  go_wp2_with fail
  refine (mul_int _ g1 g2 u a w2 I02.out X12.out X2.out L1.out L2.out L5.out).mono ?_
  rintro e w3 ⟨rfl, hi3, hg3⟩
  have B3 := hide (below_of_grown B2.out hg3 B2.out.size (Nat.le_refl _))
  have X3 := hide hi3
  clear hi3 hg3
  go_wp2_with fail
  refine (Cv _).out.mono ?_
  rintro e w4 ⟨g4, rfl, hg4, hi4, hb4⟩
  have N3 : IntBlk (w3.alloc (.cells #[.bool false, .slice none 0 0] 52)) w3.heap.size := blk_intNew w3
  have E3 : Below w3.heap.size w3 (w3.alloc (.cells #[.bool false, .slice none 0 0] 52)) := (Below.refl _ _).alloc (Nat.le_refl _) _
  have G4 : Hid (w3.heap.size < g4) := by unfold Hid; have := N3.lt; omega
  have B4 := hide ((B3.out.trans (E3.mono B3.out.size)).trans (hb4.mono (Nat.le_trans B3.out.size E3.size)))
  have I4 := hide (N3.below hb4)
  have X34 := hide ((X3.out.below E3).below hb4)
  have S3 := X3.out.lt
  have X4 := hide hi4
  clear hi4 hb4 hg4 N3 E3
  go_wp2_with fail
  refine (Cb _).out.mono ?_
  rintro e w5 ⟨g5, rfl, hg5, hi5, hb5⟩
  have B5 := hide (B4.out.trans (hb5.mono B4.out.size))
  have I5 := hide (I4.out.below hb5)
  have X35 := hide (X34.out.below hb5)
  have X45 := hide (X4.out.below hb5)
  have X5 := hide hi5
  clear hi5 hb5 hg5
  go_wp2_with fail
  refine (mul_int _ g4 g5 v b w5 I5.out X45.out X5.out L3.out L4.out L6.out).mono ?_
  rintro e w6 ⟨rfl, hi6, hg6⟩
  have B6 := hide (below_of_grown B5.out hg6 B5.out.size (Nat.le_of_lt S3))
  have X36 := hide (X35.out.grown hg6 I5.out (by omega))
  have X6 := hide hi6
  clear hi6 hg6
  go_wp2_with fail
  refine (add_int _ _ _ (u * a) (v * b) w6 X36.out.blk X36.out X6.out L5.out L6.out L7.out).mono ?_
  rintro e w7 ⟨rfl, hi7, hg7⟩
  have B7 := hide (below_of_grown B6.out hg7 B6.out.size (Nat.le_refl _))
  have X7 := hide hi7
  clear hi7 hg7
  go_wp2_with fail
  go_ret
  exact ⟨_, rfl, Nat.le_refl _, X7.out, B7.out⟩
end Go.Proofs.Ytgocnjklpafabaa
