/- The walk of whole.Times. -/
import Derived.Test.YtpppnaljndhjcaaDoorK0
import Derived.Test.YtpppnaljndhjcaaDoorKDiv64
import Derived.Test.YtpppnaljndhjcaaDoorKShelf
namespace Go.Proofs.YtpppnaljndhjcaaDoor
open Go.RowKit

theorem times_law {a b : Int} {m x y : Nat} (hx : (x : Int) = a % m) (hy : (y : Int) = b % m) : ((x * y / 18446744073709551616 * 18446744073709551616 + x * y % 18446744073709551616) % m : Nat) = (a * b) % (m : Int) := by
  rw [Nat.div_add_mod']
  rw [Int.natCast_emod, Int.natCast_mul, hx, hy, ← Int.mul_emod]

set_option maxRecDepth 100000 in
set_option maxHeartbeats 800000 in
theorem times_any (a b m : Int) (w : World) (hm : 0 < m) (hm2 : m ≤ 9223372036854775807) (ha : -9223372036854775808 ≤ a) (ha2 : a ≤ 9223372036854775807) (hb : -9223372036854775808 ≤ b) (hb2 : b ≤ 9223372036854775807) :
    Calls Tryd.prog 22 #[.int .i64 a, .int .i64 b, .int .i64 m] w fun e w' => e = .returned (.int .i64 (a * b % m)) ∧ ∃ n, w' = w.drewN n := by
  obtain ⟨M, rfl⟩ : ∃ M : Nat, m = M := ⟨m.toNat, by omega⟩
  obtain ⟨x, hx⟩ : ∃ x : Nat, (x : Int) = a % M := ⟨(a % M).toNat, by have := Int.emod_nonneg a (b := (M : Int)) (by omega); omega⟩
  obtain ⟨y, hy⟩ : ∃ y : Nat, (y : Int) = b % M := ⟨(b % M).toNat, by have := Int.emod_nonneg b (b := (M : Int)) (by omega); omega⟩
  have hxM := Int.emod_lt_of_pos a hm
  have hyM := Int.emod_lt_of_pos b hm
  have C1 := fun W => hide (mod_any a M W hm hm2 ha ha2)
  have C2 := fun W => hide (mod_any b M W hm hm2 hb hb2)
  rw [← hx] at hxM
  rw [← hy] at hyM
  rw [← hx] at C1
  rw [← hy] at C2
  have M64 := fun W => hide (Tryd.bits_Mul64 x y (by omega) (by omega) W)
  have hl := times_law hx hy
  have hH : x * y / 18446744073709551616 < 18446744073709551616 := by
    rw [Nat.div_lt_iff_lt_mul (by omega)]
    exact Nat.mul_lt_mul_of_lt_of_lt (by omega) (by omega)
  have hL : x * y % 18446744073709551616 < 18446744073709551616 := Nat.mod_lt _ (by omega)
  have w1 := wrap_u64_nat x (by omega)
  have w2 := wrap_u64_nat y (by omega)
  have w3 := wrap_u64_nat M (by omega)
  obtain ⟨H, eH⟩ : ∃ H, x * y / 18446744073709551616 = H := ⟨_, rfl⟩
  obtain ⟨Lo, eL⟩ : ∃ Lo, x * y % 18446744073709551616 = Lo := ⟨_, rfl⟩
  rw [eH, eL] at hl M64
  rw [eH] at hH
  rw [eL] at hL
  have R64 := fun W => hide (rem64_any H Lo M W (by omega) (by omega) hH hL)
  have hr : (H * 18446744073709551616 + Lo) % M < M := Nat.mod_lt _ (by omega)
  obtain ⟨r, er⟩ : ∃ r, (H * 18446744073709551616 + Lo) % M = r := ⟨_, rfl⟩
  rw [er] at hl R64 hr
  have HL := hide hl
  have e1 : IntKind.i64.wrap (r : Int) = r := by rw [IntKind.wrap_i64]; omega
  clear hm hm2 ha ha2 hb hb2 hx hy hxM hyM hl hH hL eH eL er hr
  go_enter Tryd.func22, Tryd.ntmps22
  go_wp2_with fail
  refine (C1 _).out.mono ?_
  rintro e w2 ⟨rfl, rfl⟩
  go_wp2_with fail
  refine (C2 _).out.mono ?_
  rintro e w2 ⟨rfl, rfl⟩
  go_wp2_with fail
  refine (M64 _).out.mono ?_
  rintro e w2 ⟨rfl, rfl⟩
  go_wp2_with fail
  refine (R64 _).out.mono ?_
  rintro e w2 ⟨rfl, n, rfl⟩
  go_wp2_with fail
  go_ret
  exact ⟨by rw [← HL.out]; rfl, n, rfl⟩
end Go.Proofs.YtpppnaljndhjcaaDoor
