/- The walks of the answers' IsPrime (below 10^8) and PadicFault. -/
import Derived.Test.YtpppnaljndhjcaaDoorK0
import Derived.Test.YtpppnaljndhjcaaDoorKRefC
import Derived.Test.YtpppnaljndhjcaaDoorKWholeB
namespace Go.Proofs.YtpppnaljndhjcaaDoor
open Go.RowKit

theorem prB_low {n : Nat} (h : n < 2) : prB n = false := prB_false fun hp => by have := hp.1; omega

set_option maxRecDepth 100000 in
set_option maxHeartbeats 1600000 in
theorem isPrime_ref (n : Int) (w : World) (hn : n ≤ 100000000) (hn0 : -9223372036854775808 ≤ n) :
    Calls Tryd.prog 8 #[.int .i64 n] w fun e w' => e = .returned (.bool (prB n.toNat)) ∧ w = w' := by
  by_cases h2 : n < 2
  · have HE := hide (prB_low (n := n.toNat) (by omega))
    go_enter Tryd.func8, Tryd.ntmps8
    go_wp2_with fail
    go_ret
    exact ⟨by rw [HE.out]; rfl, rfl⟩
  · obtain ⟨N, rfl⟩ : ∃ N : Nat, n = N := ⟨n.toNat, by omega⟩
    have HN : Hid (((N : Int)).toNat = N) := rfl
    have q1 : decide ((N : Int) < 2) = false := by rw [decide_eq_false_iff_not]; omega
    have q2 : decide (100000000 < (N : Int)) = false := by rw [decide_eq_false_iff_not]; omega
    have hb : 2 ≤ N ∧ N ≤ 100000000 := by omega
    clear h2 hn hn0
    go_enter Tryd.func8, Tryd.ntmps8
    go_wp2_with fail
    go_loop [2, 3] (fun _ x => ∃ p : Nat, x = .int .i64 p ∧ 2 ≤ p ∧ p ≤ 10001 ∧ Hid (noDiv N p)) (fun _ x => 20000 - (intOf x).toNat)
    case atStart => exact ⟨2, rfl, by omega, by omega, noDiv_two N⟩
    case round =>
      obtain ⟨p, rfl, hp1, hp2, HP⟩ := hrel
      have hpp : (p : Int) * (p : Int) = ((p * p : Nat) : Int) := by simp
      have hpb : p * p ≤ 10001 * 10001 := Nat.mul_le_mul hp2 hp2
      have hb1 : (p : Int) * (p : Int) ≤ 100020001 := by omega
      have hb2 : 0 ≤ (p : Int) * (p : Int) := by omega
      have e1 : (N : Int) % (p : Int) = ((N % p : Nat) : Int) := by simp
      have hp0 : ¬ (p : Int) = 0 := by omega
      by_cases h1 : p * p ≤ N
      · have hp3 : p ≤ 10000 := by
          rcases Nat.lt_or_ge 10000 p with h | h
          · have := Nat.mul_le_mul (show 10001 ≤ p from h) (show 10001 ≤ p from h); omega
          · exact h
        have q3 : decide ((p : Int) * (p : Int) ≤ (N : Int)) = true := by rw [decide_eq_true_eq]; omega
        by_cases h3 : N % p = 0
        · have HE : Hid (prB N = false) := prB_false (not_Pr_of_dvd hp1 (by have := Nat.mul_le_mul hp1 (Nat.le_refl p); omega) (Nat.dvd_of_mod_eq_zero h3))
          have q4 : (N : Int) % (p : Int) = 0 := by omega
          clear hpp hpb h1 h3 e1 hp2
          go_wp2_with fail
          go_ret
          exact ⟨by rw [HE.out]; rfl, rfl⟩
        · have HN2 := hide (noDiv_next HP.out h3)
          have q4 : ((N : Int) % (p : Int) == 0) = false := by rw [beq_eq_false_iff_ne]; omega
          clear hpp hpb h1 h3 e1 hp2
          go_wp2_with fail
          exact ⟨⟨p + 1, by simp, by omega, by omega, HN2⟩, by simp [intOf]; omega⟩
      · have HE : Hid (prB N = true) := prB_true (Pr.of_noDiv hb.1 HP.out (by omega))
        have q3 : decide ((p : Int) * (p : Int) ≤ (N : Int)) = false := by rw [decide_eq_false_iff_not]; omega
        clear hpp hpb h1 e1
        go_wp2_with fail
        go_ret
        exact ⟨by rw [HE.out]; rfl, rfl⟩
theorem padF_range' {p k : Int} (h : p < 2 ∨ 1000000 < p) : padF p k = (3, 0) := by unfold padF; rw [if_pos h]
theorem padF_kind' {p k : Int} (h : ¬ (p < 2 ∨ 1000000 < p)) (h2 : prB p.toNat = false) : padF p k = (7, 0) := by unfold padF; rw [if_neg h, if_pos h2]
theorem padF_places' {p k : Int} (h : ¬ (p < 2 ∨ 1000000 < p)) (h2 : prB p.toNat = true) (h3 : k < 1 ∨ 60 < k) : padF p k = (3, 1) := by unfold padF; rw [if_neg h, if_neg (by rw [h2]; simp), if_pos h3]
theorem padF_rest {p k : Int} (h : ¬ (p < 2 ∨ 1000000 < p)) (h2 : prB p.toNat = true) (h3 : ¬ (k < 1 ∨ 60 < k)) : padF p k = if 1000000000000000000 < p ^ k.toNat then (9, 1) else (0, 0) := by unfold padF; rw [if_neg h, if_neg (by rw [h2]; simp), if_neg h3]

def RetPF (w : World) (p k : Int) : Ending → World → Prop := fun e w' => e = .returned (.tuple #[.int .i64 (if (padF p k).1 = 0 then p ^ k.toNat else 0), fv (padF p k)]) ∧ Below w.heap.size w w'

end Go.Proofs.YtpppnaljndhjcaaDoor
