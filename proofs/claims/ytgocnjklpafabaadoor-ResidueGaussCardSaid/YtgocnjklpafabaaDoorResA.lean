/- The walk of residue.power. -/
import Derived.Test.YtgocnjklpafabaaDoorJacW
namespace Go.Proofs.YtgocnjklpafabaaDoor
open Go.RowKit

set_option maxRecDepth 100000 in
set_option maxHeartbeats 3200000 in
theorem rpower_any (P K : Nat) (w : World) (h1 : 1 ≤ P) (h2 : P ^ K ≤ 1000000000000000000) (h3 : K ≤ 1000) :
    Calls Tryd.prog 29 #[.int .i64 P, .int .i64 K] w fun e w' => e = .returned (.int .i64 (P ^ K : Nat)) ∧ w' = w := by
  have H2 := hide h2
  have H1 := hide h1
  clear h1 h2
  go_enter Tryd.func29, Tryd.ntmps29
  go_wp2_with fail
  go_loopg [5, 7] K (fun J o i wr => ∃ j : Nat, J = K - j ∧ i = .int .i64 j ∧ j ≤ K ∧ o = .int .i64 (P ^ j : Nat) ∧ wr = w)
  case atStart => exact ⟨0, by omega, rfl, by omega, by simp, rfl⟩
  case round =>
    obtain ⟨j, hJ, rfl, hj, rfl, rfl⟩ := hrel
    by_cases hjK : j < K
    · have hpw : P ^ (j + 1) ≤ P ^ K := Nat.pow_le_pow_right H1.out hjK
      have hle : P ^ (j + 1) ≤ 1000000000000000000 := Nat.le_trans hpw H2.out
      have HE := hide (Nat.pow_succ P j)
      obtain ⟨s, hs⟩ : ∃ s, P ^ j = s := ⟨_, rfl⟩
      obtain ⟨t, ht⟩ : ∃ t, P ^ (j + 1) = t := ⟨_, rfl⟩
      rw [hs, ht] at HE
      rw [ht] at hle
      rw [hs]
      have he : (s : Int) * (P : Int) = (t : Int) := by rw [HE.out, Int.natCast_mul]
      have V : IntKind.i64.wrap ((s : Int) * (P : Int)) = (t : Int) := by rw [he, IntKind.wrap_i64]; omega
      have HT := hide ht
      clear hs ht hpw he
      go_wp2_with fail
      go_roundg (K - (j + 1))
      case measure => omega
      case rel => exact ⟨j + 1, rfl, by simp, by omega, by rw [HT.out], rfl⟩
    · obtain rfl : j = K := by omega
      go_wp2_with fail
      go_ret
      exact ⟨rfl, rfl⟩
end Go.Proofs.YtgocnjklpafabaaDoor
