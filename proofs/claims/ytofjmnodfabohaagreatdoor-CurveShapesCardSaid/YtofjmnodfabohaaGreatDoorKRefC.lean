/- The walks of the answers' Left, Product, Power, Above. Each under the bounds of its arguments. -/
import Derived.Test.YtofjmnodfabohaaGreatDoorK0
import Derived.Test.YtofjmnodfabohaaGreatDoorKExp
import Derived.Test.YtofjmnodfabohaaGreatDoorK1
namespace Go.Proofs.YtofjmnodfabohaaGreatDoor
open Go.RowKit

set_option maxRecDepth 100000 in
set_option maxHeartbeats 400000 in
theorem left_ref (a m : Int) (w : World) (hm : 0 < m) (hm2 : m ≤ 9223372036854775807) (_ha : -9223372036854775808 ≤ a) (_ha2 : a ≤ 9223372036854775807) :
    Calls Tryz.prog 23 #[.int .i64 a, .int .i64 m] w fun e w' => e = .returned (.int .i64 (a % m)) ∧ w = w' := by
  have h1 := Int.lt_tmod_of_pos a hm
  have h2 := Int.tmod_lt_of_pos a hm
  go_enter Tryz.func23, Tryz.ntmps23
  go_wp2
  · go_ret
    exact ⟨ret_int (tmod_neg_fix hm (by assumption)), rfl⟩
  · go_ret
    exact ⟨ret_int (tmod_pos_fix hm (by assumption)), rfl⟩

end Go.Proofs.YtofjmnodfabohaaGreatDoor

namespace Go.Proofs.YtofjmnodfabohaaGreatDoor
open Go.RowKit

set_option maxRecDepth 100000 in
set_option maxHeartbeats 1600000 in
theorem power_ref (a m : Int) (n : Nat) (w : World) (hm : 0 < m) (hm2 : m ≤ 1000000000000000000) (ha : -9223372036854775808 ≤ a) (ha2 : a ≤ 9223372036854775807) (hn : n ≤ 9223372036854775807) :
    Calls Tryz.prog 39 #[.int .i64 a, .int .i64 n, .int .i64 m] w fun e w' => e = .returned (.int .i64 (a ^ n % m)) ∧ Below w.heap.size w w' := by
  have O0 := hide ((Own.start w).new.new)
  have r0 := Int.emod_nonneg (a ^ n) (b := m) (by omega)
  have r1 := Int.emod_lt_of_pos (a ^ n) hm
  have s0 := Int.emod_nonneg a (b := m) (by omega)
  have s1 := Int.emod_lt_of_pos a hm
  have HL : Hid (a.natAbs + 1 < lim ∧ m.natAbs < lim ∧ m ≠ 0 ∧ n < lim ∧ 1000000000000000000 * 1000000000000000000 + 1000000000000000000 + 1 < lim ∧ (a % m).natAbs ≤ 1000000000000000000 ∧ m.natAbs ≤ 1000000000000000000 ∧ 0 < m) := ⟨lim_256 (by omega), lim_256 (by omega), by omega, lim_256 (by omega), lim_256 (by omega), by omega, by omega, hm⟩
  have HR : Hid (-9223372036854775808 ≤ a ^ n % m ∧ a ^ n % m ≤ 9223372036854775807) := by unfold Hid; omega
  have HB : Hid (-9223372036854775808 ≤ a ∧ a ≤ 9223372036854775807 ∧ -9223372036854775808 ≤ (n : Int) ∧ (n : Int) ≤ 9223372036854775807 ∧ -9223372036854775808 ≤ m ∧ m ≤ 9223372036854775807) := by unfold Hid; omega
  have HP : Hid ((a % m) ^ n % m = a ^ n % m) := pow_emod a m n
  obtain ⟨z, hz⟩ : ∃ z, a ^ n % m = z := ⟨_, rfl⟩
  rw [hz] at HP HR r0 r1 ⊢
  have e1 : z.tmod m = z := by rw [Int.tmod_eq_emod_of_nonneg (by omega)]; exact Int.emod_eq_of_lt r0 r1
  have e2 : z % m = z := Int.emod_eq_of_lt r0 r1
  have e3 : IntKind.i64.wrap z = z := by rw [IntKind.wrap_i64]; omega
  have hm0 : ¬ m = 0 := by omega
  clear r0 r1 s0 s1 hm hm2 ha ha2 hn hz
  go_enter Tryz.func39, Tryz.ntmps39
  go_wp2_with fail
  refine (b_own O0.out a HB.out.1 HB.out.2.1).mono ?_
  rintro e w1 ⟨g1, rfl, O⟩
  simp only [World.size_alloc] at O
  have O1 := hide O
  clear O
  go_wp2_with fail
  refine (b_own O1.out m HB.out.2.2.2.2.1 HB.out.2.2.2.2.2).mono ?_
  rintro e w2 ⟨g2, rfl, O⟩
  have O2 := hide O
  clear O
  go_wp2_with fail
  refine (mod_own O2.out 2 1 0 rfl rfl rfl HL.out.1 HL.out.2.1 HL.out.2.2.1).mono ?_
  rintro e w3 ⟨rfl, O⟩
  simp only [List.set] at O
  have O3 := hide O
  clear O
  go_wp2_with fail
  refine (b_own O3.out (n : Int) HB.out.2.2.1 HB.out.2.2.2.1).mono ?_
  rintro e w4 ⟨g4, rfl, O⟩
  have O4 := hide O
  clear O
  go_wp2_with fail
  refine (b_own O4.out m HB.out.2.2.2.2.1 HB.out.2.2.2.2.2).mono ?_
  rintro e w5 ⟨g5, rfl, O⟩
  have O5 := hide O
  clear O
  go_wp2_with fail
  refine (exp_mod 1000000000000000000 w.heap.size (w.heap.size + 1) g4 g5 (a % m) m n w5 (O5.out.blk (i := 5) rfl) (O5.out.at_ 4 _ _ rfl) (O5.out.at_ 1 _ _ rfl) (O5.out.at_ 0 _ _ rfl) HL.out.2.2.2.2.2.2.2 HL.out.2.2.2.1 HL.out.2.2.2.2.1 HL.out.2.2.2.2.2.1 HL.out.2.2.2.2.2.2.1).mono ?_
  rintro e w6 hr
  obtain ⟨rfl, O⟩ := RetInt.own O5.out (i := 5) rfl hr
  simp only [List.set] at O
  rw [HP.out] at O
  have O6 := hide O
  have C := hide (int64_own O 5 rfl HR.out.1 HR.out.2)
  clear O hr
  go_wp2_with fail
  refine C.out.mono ?_
  rintro e w7 ⟨rfl, rfl⟩
  go_wp2_with fail
  go_ret
  exact ⟨rfl, O6.out.bel⟩

theorem icmp_gt (X Y : Int) : (0 < icmp X Y) ↔ Y < X := by
  unfold icmp
  constructor
  · intro h
    split at h
    · omega
    · split at h
      · assumption
      · omega
  · intro h
    rw [if_neg (by omega), if_pos h]; decide

theorem pow_lim {r j k : Nat} (hr : r ≤ 1000000000000000001) (hj : j ≤ k) (hk : k ≤ 60) : ((r : Int) ^ j).natAbs < lim := by
  have e : ((r : Int) ^ j).natAbs = r ^ j := by rw [← Int.natCast_pow]; rfl
  rw [e]
  have h1 : r ^ j ≤ (4294967296 ^ 2) ^ j := Nat.pow_le_pow_left (by omega) j
  rw [← Nat.pow_mul] at h1
  exact lim_pow (k := 2 * j + 1) (Nat.lt_of_le_of_lt h1 (Nat.pow_lt_pow_right (by omega) (by omega))) (by omega)

end Go.Proofs.YtofjmnodfabohaaGreatDoor
