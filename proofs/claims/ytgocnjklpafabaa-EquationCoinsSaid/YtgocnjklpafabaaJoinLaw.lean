/- The plain law of joining rests: what Join means, that it means one thing, and that the code's step gives it. -/
import Derived.Test.YtgocnjklpafabaaLook
namespace Go.Proofs.Ytgocnjklpafabaa

/-- joining from number k on: r is the rest by M so far -/
def JoinP : Nat → Int → Int → List (Int × Int) → (Int × Int × Int × Int) → Prop
  | _, r, M, [], out => out = (r, M, 0, 0)
  | k, r, M, (a, m) :: t, out =>
    if okB a = true ∧ 1 ≤ m ∧ okB m = true then
      if (Int.gcd M m : Int) ∣ a - r then
        if M * (m / (Int.gcd M m : Int)) ≤ 1000000000000000000 then
          ∃ x, 0 ≤ x ∧ x < M * (m / (Int.gcd M m : Int)) ∧ M ∣ x - r ∧ m ∣ x - a ∧ JoinP (k + 1) x (M * (m / (Int.gcd M m : Int))) t out
        else out = (0, 0, 9, (k : Int))
      else out = (0, 0, 5, (k : Int))
    else out = (0, 0, 3, (k : Int))

def JoinAll (rs ms : List Int) (out : Int × Int × Int × Int) : Prop :=
  if 1000 < rs.length ∨ 1000 < ms.length then out = (0, 0, 2, 0)
  else if rs.length ≠ ms.length then out = (0, 0, 8, 0)
  else JoinP 0 0 1 (rs.zip ms) out

theorem gcd_pos' {M m : Int} (hm : 0 < m) : 0 < (Int.gcd M m : Int) := by
  have := Int.gcd_pos_of_ne_zero_right M (b := m) (by omega)
  omega
/-- both, parted by their greatest divisor -/
theorem gcd_parts {M m : Int} (hm : 0 < m) : ∃ (G : Nat) (M' m' : Int), Int.gcd M m = G ∧ 0 < G ∧ M = G * M' ∧ m = G * m' ∧ m / (G : Int) = m' ∧ 0 < m' ∧ Nat.gcd m'.natAbs M'.natAbs = 1 := by
  obtain ⟨M', hM'⟩ : (Int.gcd M m : Int) ∣ M := Int.gcd_dvd_left M m
  obtain ⟨m', hm'⟩ : (Int.gcd M m : Int) ∣ m := Int.gcd_dvd_right M m
  have hg := gcd_pos' (M := M) hm
  obtain ⟨G, hG⟩ : ∃ G, Int.gcd M m = G := ⟨_, rfl⟩
  rw [hG] at hM' hm' hg
  have hmp : 0 < m' := by
    by_cases h : 0 < m'
    · exact h
    · have := Int.mul_nonneg (a := (G : Int)) (b := -m') (by omega) (by omega)
      rw [Int.mul_neg] at this
      omega
  refine ⟨G, M', m', hG, by omega, hM', hm', ?_, hmp, ?_⟩
  · rw [hm']; exact Int.mul_ediv_cancel_left m' (by omega)
  · rw [hM', hm', Int.gcd_mul_left] at hG
    simp only [Int.natAbs_natCast] at hG
    have : G * Int.gcd M' m' = G * 1 := by omega
    have := Nat.eq_of_mul_eq_mul_left (by omega) this
    rw [Nat.gcd_comm]; exact this
theorem step_pos {M m : Int} (hm : 0 < m) : 0 < m / (Int.gcd M m : Int) := by
  obtain ⟨G, M', m', hG, _, _, _, e, hp, _⟩ := gcd_parts (M := M) hm
  rw [hG, e]; exact hp
theorem cop_dvd {m' M' x : Int} (hc : Nat.gcd m'.natAbs M'.natAbs = 1) (h : m' ∣ M' * x) : m' ∣ x := by
  have h1 := Int.natAbs_dvd_natAbs.2 h
  rw [Int.natAbs_mul] at h1
  exact Int.natAbs_dvd_natAbs.1 (Nat.Coprime.dvd_of_dvd_mul_left hc h1)

/-- what both divide, their least common multiple divides -/
theorem both_dvd {M m d : Int} (hm : 0 < m) (h1 : M ∣ d) (h2 : m ∣ d) : M * (m / (Int.gcd M m : Int)) ∣ d := by
  obtain ⟨G, M', m', hG, hGp, hM, hmm, e, hp, hc⟩ := gcd_parts (M := M) hm
  rw [hG, e]
  obtain ⟨x, hx⟩ := h1
  have h3 : m' ∣ M' * x := by
    have : (G : Int) * m' ∣ (G : Int) * (M' * x) := by
      rw [← hmm, ← Int.mul_assoc, ← hM, ← hx]; exact h2
    exact Int.dvd_of_mul_dvd_mul_left (by omega) this
  rw [hx]
  exact Int.mul_dvd_mul_left M (cop_dvd hc h3)

theorem joinP_one : ∀ (L : List (Int × Int)) (k : Nat) (r M : Int) (o1 o2 : Int × Int × Int × Int), 0 < M → JoinP k r M L o1 → JoinP k r M L o2 → o1 = o2
  | [], _, _, _, _, _, _, h1, h2 => by rw [JoinP] at h1 h2; rw [h1, h2]
  | (a, m) :: t, k, r, M, o1, o2, hM, h1, h2 => by
    rw [JoinP] at h1 h2
    split at h1
    · rename_i hv
      rw [if_pos hv] at h2
      split at h1
      · rename_i hg
        rw [if_pos hg] at h2
        split at h1
        · rename_i hl
          rw [if_pos hl] at h2
          obtain ⟨x, x0, x1, x2, x3, hx⟩ := h1
          obtain ⟨y, y0, y1, y2, y3, hy⟩ := h2
          have hm : 0 < m := by omega
          have hd : M * (m / (Int.gcd M m : Int)) ∣ x - y := both_dvd hm
            (by have := Int.dvd_sub x2 y2; rwa [show x - r - (y - r) = x - y from by omega] at this)
            (by have := Int.dvd_sub x3 y3; rwa [show x - a - (y - a) = x - y from by omega] at this)
          have hpos := Int.mul_pos hM (step_pos (M := M) hm)
          have hxy : x = y := by
            obtain ⟨q, hq⟩ := hd
            generalize M * (m / (Int.gcd M m : Int)) = Z at *
            have hq0 : q = 0 := by
              rcases Int.lt_trichotomy q 0 with h | h | h
              · have := Int.mul_le_mul_of_nonneg_left (show q ≤ -1 by omega) (Int.le_of_lt hpos)
                omega
              · exact h
              · have := Int.mul_le_mul_of_nonneg_left (show 1 ≤ q by omega) (Int.le_of_lt hpos)
                omega
            rw [hq0] at hq
            omega
          subst hxy
          exact joinP_one t (k + 1) x _ o1 o2 hpos hx hy
        · rename_i hl
          rw [if_neg hl] at h2
          rw [h1, h2]
      · rename_i hg
        rw [if_neg hg] at h2
        rw [h1, h2]
    · rename_i hv
      rw [if_neg hv] at h2
      rw [h1, h2]
theorem joinAll_one {rs ms : List Int} {o1 o2 : Int × Int × Int × Int} (h1 : JoinAll rs ms o1) (h2 : JoinAll rs ms o2) : o1 = o2 := by
  unfold JoinAll at h1 h2
  split at h1
  · rename_i h; rw [if_pos h] at h2; rw [h1, h2]
  · rename_i h; rw [if_neg h] at h2
    split at h1
    · rename_i h; rw [if_pos h] at h2; rw [h1, h2]
    · rename_i h; rw [if_neg h] at h2
      exact joinP_one _ _ _ _ _ _ (by omega) h1 h2

theorem gcd_emod {M m : Int} : Int.gcd (M % m) m = Int.gcd M m := by
  rw [Int.gcd_comm, Int.gcd_comm M m]
  have h1 : Int.gcd m (M % m) ∣ Int.gcd m M := Int.dvd_gcd (Int.gcd_dvd_left m (M % m)) (by
    have h2 := Int.gcd_dvd_left m (M % m)
    have h3 := Int.gcd_dvd_right m (M % m)
    have h5 : (Int.gcd m (M % m) : Int) ∣ m * (M / m) + M % m := Int.dvd_add (Int.dvd_mul_of_dvd_left h2) h3
    rwa [Int.mul_ediv_add_emod M m] at h5)
  have h4 : Int.gcd m M ∣ Int.gcd m (M % m) := Int.dvd_gcd (Int.gcd_dvd_left m M) (by
    have h2 := Int.gcd_dvd_left m M
    have h3 := Int.gcd_dvd_right m M
    rw [Int.emod_def]
    exact Int.dvd_sub h3 (Int.dvd_mul_of_dvd_left h2))
  exact Nat.dvd_antisymm h1 h4

/-- the code's step -/
theorem join_step {M m a r u d x : Int} (hm : 0 < m) (hr : 0 ≤ r) (hrM : r < M) (hu : m ∣ (Int.gcd M m : Int) - u * (M % m)) (hd : d = a % m - r % m) (hg : (Int.gcd M m : Int) ∣ d)
    (hx : x = r + M * (u * (d / (Int.gcd M m : Int)) % (m / (Int.gcd M m : Int)))) :
    0 ≤ x ∧ x < M * (m / (Int.gcd M m : Int)) ∧ M ∣ x - r ∧ m ∣ x - a := by
  obtain ⟨G, M', m', hG, hGp, hM, hmm, e, hp, hc⟩ := gcd_parts (M := M) hm
  rw [hG] at hu hg hx ⊢
  rw [e] at hx ⊢
  obtain ⟨q, hq⟩ := hg
  have eq : d / (G : Int) = q := by rw [hq]; exact Int.mul_ediv_cancel_left q (by omega)
  rw [eq] at hx
  have k0 := Int.emod_nonneg (u * q) (b := m') (by omega)
  have k1 := Int.emod_lt_of_pos (u * q) hp
  have k2 := Int.mul_ediv_add_emod (u * q) m'
  generalize u * q % m' = k at *
  generalize u * q / m' = t at *
  have hk := Int.mul_nonneg (a := M) (b := k) (by omega) k0
  have hk2 := Int.mul_le_mul_of_nonneg_left (c := M) (show k ≤ m' - 1 by omega) (by omega)
  rw [Int.mul_sub, Int.mul_one] at hk2
  refine ⟨by omega, by omega, ⟨k, by omega⟩, ?_⟩
  -- x - a = (r - a) + M k
  obtain ⟨y, hy⟩ := hu
  have h1 : m ∣ d - (a - r) := by
    rw [hd, Int.emod_def, Int.emod_def]
    exact ⟨r / m - a / m, by rw [Int.mul_sub]; omega⟩
  have h2 : m ∣ M * k - d := by
    have hMm : M % m = M - m * (M / m) := Int.emod_def M m
    generalize M / m = z at hMm
    rw [hMm] at hy
    -- M k = M u q - M m' t ; M m' = M' m
    refine ⟨u * z * q - y * q - M' * t, ?_⟩
    have e1 : k = u * q - m' * t := by omega
    rw [e1, hq]
    have e2 : (G : Int) = m * y + u * (M - m * z) := by omega
    have e3 : M * m' = M' * m := by rw [hM, hmm]; grind
    have e4 : (G : Int) * q = (m * y + u * (M - m * z)) * q := by rw [← e2]
    rw [e4]
    have e5 : M * (m' * t) = M' * m * t := by rw [← Int.mul_assoc, e3]
    rw [Int.mul_sub, e5]
    grind
  have h3 := Int.dvd_add h1 h2
  rwa [show d - (a - r) + (M * k - d) = x - a from by omega] at h3
end Go.Proofs.Ytgocnjklpafabaa
