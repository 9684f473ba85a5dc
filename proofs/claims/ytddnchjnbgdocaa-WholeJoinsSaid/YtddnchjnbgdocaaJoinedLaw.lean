/- The plain law of the answer's joining: its step is one of JoinP's. -/
import Derived.Test.YtddnchjnbgdocaaJoinLaw
namespace Go.Proofs.Ytddnchjnbgdocaa

/-- the answer's step -/
theorem joined_step {M m a r s q x : Int} (hm : 0 < m) (hM : 0 < M) (hs : m ∣ (Int.gcd M m : Int) - s * M) (hq : a - r = (Int.gcd M m : Int) * q)
    (hx : x = (r + q * s * M) % (M * (m / (Int.gcd M m : Int)))) :
    0 ≤ x ∧ x < M * (m / (Int.gcd M m : Int)) ∧ M ∣ x - r ∧ m ∣ x - a := by
  obtain ⟨G, M', m', hG, hGp, hMM, hmm, e, hp, hc⟩ := gcd_parts (M := M) hm
  rw [hG] at hs hq hx ⊢
  rw [e] at hx ⊢
  have hpos := Int.mul_pos hM hp
  have k0 := Int.emod_nonneg (r + q * s * M) (b := M * m') (by omega)
  have k1 := Int.emod_lt_of_pos (r + q * s * M) hpos
  have hd : M * m' ∣ (r + q * s * M) - x := by
    rw [hx, Int.emod_def]
    exact ⟨(r + q * s * M) / (M * m'), by omega⟩
  rw [← hx] at k0 k1
  have d1 : M ∣ M * m' := ⟨m', rfl⟩
  have d2 : m ∣ M * m' := ⟨M', by rw [hMM, hmm]; grind⟩
  refine ⟨k0, k1, ?_, ?_⟩
  · have h1 := Int.dvd_trans d1 hd
    have h2 : M ∣ q * s * M := Int.dvd_mul_left _ _
    have := Int.dvd_sub h2 h1
    rwa [show q * s * M - (r + q * s * M - x) = x - r from by omega] at this
  · have h1 := Int.dvd_trans d2 hd
    obtain ⟨y, hy⟩ := hs
    have h2 : m ∣ (r + q * s * M) - a := by
      refine ⟨-(q * y), ?_⟩
      have e1 : s * M = G - m * y := by omega
      have e2 : r = a - G * q := by omega
      rw [Int.mul_assoc, e1, e2]
      grind
    have := Int.dvd_sub h2 h1
    rwa [show r + q * s * M - a - (r + q * s * M - x) = x - a from by omega] at this
end Go.Proofs.Ytddnchjnbgdocaa
