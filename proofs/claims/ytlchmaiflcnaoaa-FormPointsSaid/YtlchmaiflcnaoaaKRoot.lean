/- The walks of whole.above, Floor, Root. Each under the bounds of its arguments. -/
import Derived.Test.YtlchmaiflcnaoaaK0
namespace Go.Proofs.Ytlchmaiflcnaoaa
open Go.RowKit

theorem pow_mono {a b : Nat} (k : Nat) (h : a ≤ b) : a ^ k ≤ b ^ k := Nat.pow_le_pow_left h k

set_option maxRecDepth 100000 in
set_option maxHeartbeats 800000 in
theorem above_any (r k n : Nat) (w : World) (hr : r ≤ 1000000000000000000) (hk : k ≤ 60) (hn : n ≤ 1000000000000000000) :
    Calls Try.prog 75 #[.int .i64 r, .int .i64 k, .int .i64 n] w fun e w' => e = .returned (.bool (decide (n < r ^ k))) ∧ w = w' := by
  have R0 : Hid ((1 : Nat) = r ^ 0) := by unfold Hid; simp
  go_enter Try.func75, Try.ntmps75
  go_wp2_with fail
  go_loopw [7, 9] (fun x y wr => ∃ p j : Nat, x = .int .i64 p ∧ y = .int .i64 j ∧ j ≤ k ∧ p ≤ 1000000000000000000 ∧ Hid (p = r ^ j) ∧ wr = w) (fun _ y _ => k - (intOf y).toNat)
  case atStart => exact ⟨1, 0, rfl, rfl, by omega, by omega, R0, rfl⟩
  case round =>
    clear R0
    obtain ⟨p, j, rfl, rfl, hj, hp, HP, rfl⟩ := hrel
    by_cases hjk : j < k
    · by_cases hr0 : r = 0
      · subst hr0
        have HP2 : Hid (0 = 0 ^ (j + 1)) := by unfold Hid; simp
        go_wp2_with fail
        exact ⟨⟨0, j + 1, by simp, by simp, by omega, by omega, HP2, trivial⟩, by simp [intOf]; omega⟩
      · have hrp : 0 < r := by omega
        have hq1 : decide (0 < r) = true := by simp; omega
        have e1 : (n : Int) / (r : Int) = ((n / r : Nat) : Int) := rfl
        have hle := Nat.le_div_iff_mul_le (x := p) (y := n) (k := r) (by omega)
        have hdl : n / r ≤ n := Nat.div_le_self _ _
        obtain ⟨z, hz⟩ : ∃ z, n / r = z := ⟨_, rfl⟩
        rw [hz] at e1 hle hdl
        by_cases hgt : z < p
        · have HE : Hid (decide (n < r ^ k) = true) := by
            unfold Hid
            rw [decide_eq_true_eq]
            have h1 : n < p * r := by
              rcases Nat.lt_or_ge n (p * r) with h | h
              · exact h
              · have := hle.2 h; omega
            rw [HP.out, ← Nat.pow_succ] at h1
            exact Nat.lt_of_lt_of_le h1 (Nat.pow_le_pow_right (by omega) hjk)
          have q2 : decide (z < p) = true := by simpa using hgt
          have q3 : decide ((z : Int) < (p : Int)) = true := by rw [decide_eq_true_eq]; omega
          clear hle hz hr0 hgt
          go_wp2_with fail
          go_ret
          exact ⟨by rw [HE.out]; rfl, rfl⟩
        · have hpr : p * r ≤ n := hle.1 (by omega)
          have HP2 : Hid (p * r = r ^ (j + 1)) := by unfold Hid; rw [Nat.pow_succ, ← HP.out]
          have q2 : decide (z < p) = false := by simpa using hgt
          have e2 : IntKind.i64.wrap ((p : Int) * (r : Int)) = ((p * r : Nat) : Int) := by rw [IntKind.wrap_i64, ← Int.natCast_mul]; omega
          have e3 : wrap64 ((p : Int) * (r : Int)) = ((p * r : Nat) : Int) := by unfold wrap64; rw [← Int.natCast_mul]; omega
          obtain ⟨t, ht⟩ : ∃ t, p * r = t := ⟨_, rfl⟩
          rw [ht] at hpr HP2 e2 e3
          clear hle hz hr0 hgt ht
          go_wp2_with fail
          exact ⟨⟨t, j + 1, rfl, by simp, by omega, by omega, HP2, trivial⟩, by simp [intOf]; omega⟩
    · obtain rfl : j = k := by omega
      have HE : Hid (decide (n < r ^ j) = decide (n < p)) := by unfold Hid; rw [← HP.out]
      go_wp2_with fail
      all_goals
        go_ret
        exact ⟨by rw [HE.out]; first | rfl | simp, rfl⟩

set_option maxRecDepth 100000 in
set_option maxHeartbeats 800000 in
theorem floor_any (n k : Nat) (w : World) (hk1 : 1 ≤ k) (hk : k ≤ 60) (hn : n ≤ 1000000000000000000) :
    Calls Try.prog 40 #[.int .i64 n, .int .i64 k] w fun e w' => ∃ r : Nat, e = .returned (.int .i64 r) ∧ r ≤ n ∧ r ^ k ≤ n ∧ n < (r + 1) ^ k ∧ w = w' := by
  have R0 : Hid (0 ^ k ≤ n ∧ n < (n + 1) ^ k) := by
    unfold Hid
    refine ⟨by rw [Nat.zero_pow (by omega)]; omega, ?_⟩
    have := Nat.pow_le_pow_right (n := n + 1) (by omega) hk1
    rw [Nat.pow_one] at this
    omega
  go_enter Try.func40, Try.ntmps40
  go_wp2_with fail
  go_loopw [5, 6] (fun x y wr => ∃ lo hi : Nat, x = .int .i64 lo ∧ y = .int .i64 hi ∧ lo ≤ hi ∧ hi ≤ n ∧ Hid (lo ^ k ≤ n ∧ n < (hi + 1) ^ k) ∧ wr = w) (fun x y _ => (intOf y).toNat - (intOf x).toNat)
  case atStart => exact ⟨0, n, rfl, rfl, by omega, by omega, R0, rfl⟩
  case round =>
    clear R0
    obtain ⟨lo, hi, rfl, rfl, hlh, hhn, HI, rfl⟩ := hrel
    by_cases hlt : lo < hi
    · obtain ⟨mid, hm⟩ : ∃ mid, lo + (hi - lo + 1) / 2 = mid := ⟨_, rfl⟩
      have e1 : (lo : Int) + ((hi : Int) - (lo : Int) + 1) / 2 = (mid : Int) := by omega
      have hm1 : lo < mid := by omega
      have hm2 : mid ≤ hi := by omega
      have C := fun W => hide (above_any mid k n W (by omega) hk hn)
      clear hm
      by_cases hab : n < mid ^ k
      · have HI2 : Hid (lo ^ k ≤ n ∧ n < (mid - 1 + 1) ^ k) := ⟨HI.out.1, by rw [show mid - 1 + 1 = mid from by omega]; exact hab⟩
        rw [show decide (n < mid ^ k) = true from by simpa using hab] at C
        obtain ⟨m', rfl⟩ : ∃ m', mid = m' + 1 := ⟨mid - 1, by omega⟩
        rw [show m' + 1 - 1 = m' from by omega] at HI2
        clear hab
        go_wp2_with fail
        refine (C _).out.mono ?_
        rintro e w1 ⟨rfl, rfl⟩
        go_wp2_with fail
        exact ⟨⟨lo, m', rfl, by simp, by omega, by omega, HI2, trivial⟩, by simp [intOf]; omega⟩
      · have HI2 : Hid (mid ^ k ≤ n ∧ n < (hi + 1) ^ k) := ⟨by omega, HI.out.2⟩
        rw [show decide (n < mid ^ k) = false from by simpa using hab] at C
        clear hab
        go_wp2_with fail
        refine (C _).out.mono ?_
        rintro e w1 ⟨rfl, rfl⟩
        go_wp2_with fail
        exact ⟨⟨mid, hi, rfl, rfl, by omega, by omega, HI2, trivial⟩, by simp [intOf]; omega⟩
    · obtain rfl : lo = hi := by omega
      go_wp2_with fail
      go_ret
      exact ⟨lo, rfl, hhn, HI.out.1, HI.out.2, rfl⟩
end Go.Proofs.Ytlchmaiflcnaoaa
