/- EULER's criterion for the primes of the table, and how many points there are by the symbols of what stands at each x (plain). -/
import Derived.Test.YtonclhchbgmaiaaGreatDoorKHasC
namespace Go.Proofs.YtonclhchbgmaiaaGreatDoor
open CV
namespace HS

theorem Pr.odd' {p : Nat} (hP : Pr p) (hp : 5 ≤ p) : p % 2 = 1 := by
  rcases Nat.mod_two_eq_zero_or_one p with h | h
  · rcases hP.2 2 (Nat.dvd_of_mod_eq_zero h) with k | k <;> omega
  · exact h
theorem sq_low {p : Nat} (hp : 5 ≤ p) : (p - 1) * (p - 1) % p = 1 := by
  obtain ⟨q, rfl⟩ : ∃ q, p = q + 2 := ⟨p - 2, by omega⟩
  rw [show q + 2 - 1 = q + 1 by omega, show (q + 1) * (q + 1) = 1 + (q + 2) * q by grind, Nat.add_mul_mod_self_left]
  exact Nat.mod_eq_of_lt (by omega)
theorem low_pow {p : Nat} (hp : 5 ≤ p) (j : Nat) : (p - 1) ^ (2 * j) % p = 1 ∧ (p - 1) ^ (2 * j + 1) % p = p - 1 := by
  have h1 : (p - 1) ^ (2 * j) % p = 1 := by
    rw [Nat.pow_mul, Nat.pow_mod, Nat.pow_two, sq_low hp, Nat.one_pow]
    exact Nat.mod_eq_of_lt (by omega)
  refine ⟨h1, ?_⟩
  rw [Nat.pow_succ, Nat.mul_mod, h1, Nat.one_mul, Nat.mod_mod]
  exact Nat.mod_eq_of_lt (by omega)
theorem two_roots {p y z : Nat} (hP : Pr p) (hy : y < p) (hz : z < p) (h0 : 0 < z) (h : y * y % p = z * z % p) : y = z ∨ y = p - z := by
  have key : ∀ a b : Nat, a ≤ b → b < p → 0 < a + b → a * a % p = b * b % p → a = b ∨ a + b = p := by
    intro a b hab hb h0 h
    have e : (b * b - a * a) % p = 0 := Nat.sub_mod_eq_zero_of_mod_eq h.symm
    have e2 : b * b - a * a = (a + b) * (b - a) := by
      obtain ⟨d, rfl⟩ : ∃ d, b = a + d := ⟨b - a, by omega⟩
      rw [show (a + d) * (a + d) = a * a + (a + (a + d)) * d by grind, Nat.add_sub_cancel_left, Nat.add_sub_cancel_left]
    rw [e2] at e
    rcases hP.dvd_mul (Nat.dvd_of_mod_eq_zero e) with k | k
    · obtain ⟨t, ht⟩ := k
      right
      have : t = 1 := by
        rcases (by omega : t = 0 ∨ t = 1 ∨ 2 ≤ t) with r | r | r
        · rw [r] at ht; omega
        · exact r
        · have := Nat.mul_le_mul (Nat.le_refl p) r; omega
      rw [this] at ht
      omega
    · left
      have := Nat.eq_zero_of_dvd_of_lt k (by omega)
      omega
  rcases Nat.le_total y z with k | k
  · rcases key y z k hz (by omega) h with r | r <;> omega
  · rcases key z y k hy (by omega) h.symm with r | r <;> omega
theorem neg_sq {p z : Nat} (hz : z < p) : (p - z) * (p - z) % p = z * z % p := by
  obtain ⟨d, rfl⟩ : ∃ d, p = z + d := ⟨p - z, by omega⟩
  rw [Nat.add_sub_cancel_left]
  rcases Nat.le_total z d with h | h
  · obtain ⟨e, rfl⟩ : ∃ e, d = z + e := ⟨d - z, by omega⟩
    rw [show (z + e) * (z + e) = z * z + (z + (z + e)) * e by grind, Nat.add_mul_mod_self_left]
  · obtain ⟨e, rfl⟩ : ∃ e, z = d + e := ⟨z - d, by omega⟩
    rw [show (d + e) * (d + e) = d * d + (d + e + d) * e by grind, Nat.add_mul_mod_self_left]
theorem roots_nodup (p v : Nat) : (rootsL p p v).Nodup := by
  unfold rootsL
  rw [List.nodup_iff_pairwise_ne]
  exact List.Pairwise.filter _ (List.nodup_iff_pairwise_ne.1 List.nodup_range)

theorem roots_leg {p g s : Nat} (hp : 5 ≤ p) (T : Told p g s) (hP : Pr p) {v : Nat} (hv : v < p) :
    ((rootsL p p v).length : Int) = 1 + (if v ^ ((p - 1) / 2) % p = p - 1 then -1 else ((v ^ ((p - 1) / 2) % p : Nat) : Int)) := by
  have hodd := Pr.odd' hP hp
  by_cases h0 : v = 0
  · subst h0
    have e : (rootsL p p 0).length = 1 := by
      refine Nat.le_antisymm (nodup_le (M := [0]) (roots_nodup p 0) fun y hy => ?_) (nodup_le (L := [0]) (by simp) fun y hy => ?_)
      · obtain ⟨h1, h2⟩ := mem_roots.1 hy
        rcases hP.dvd_mul (Nat.dvd_of_mod_eq_zero h2) with k | k <;> simp [Nat.eq_zero_of_dvd_of_lt k h1]
      · have : y = 0 := by simpa using hy
        subst this
        exact mem_roots.2 ⟨by omega, by simp⟩
    rw [e, Nat.zero_pow (by omega), Nat.zero_mod, if_neg (by omega)]
    rfl
  · obtain ⟨i, hi⟩ := T.gen v (by omega) hv
    have hpow : v ^ ((p - 1) / 2) % p = (p - 1) ^ i % p := by
      rw [← hi, ← Nat.pow_mod, ← Nat.pow_mul, Nat.mul_comm, Nat.pow_mul, Nat.pow_mod, T.gh]
    rcases (by omega : i = 2 * (i / 2) ∨ i = 2 * (i / 2) + 1) with hh | hh
    · rw [hh, (low_pow hp _).1] at hpow
      rw [hpow, if_neg (by omega)]
      obtain ⟨z, hz⟩ : ∃ z, g ^ (i / 2) % p = z := ⟨_, rfl⟩
      have hzp : z < p := by rw [← hz]; exact Nat.mod_lt _ (by omega)
      have hzv : z * z % p = v := by rw [← hz, ← Nat.mul_mod, ← Nat.pow_add, show i / 2 + i / 2 = i by omega, hi]
      have hz0 : 0 < z := by
        rcases Nat.eq_zero_or_pos z with k | k
        · rw [k] at hzv
          simp at hzv
          omega
        · exact k
      have e : (rootsL p p v).length = 2 := by
        refine Nat.le_antisymm (nodup_le (M := [z, p - z]) (roots_nodup p v) fun y hy => ?_) (nodup_le (L := [z, p - z]) (by simp; omega) fun y hy => ?_)
        · obtain ⟨h1, h2⟩ := mem_roots.1 hy
          simpa using two_roots hP h1 hzp hz0 (h2.trans hzv.symm)
        · have : y = z ∨ y = p - z := by simpa using hy
          rcases this with rfl | rfl
          · exact mem_roots.2 ⟨hzp, hzv⟩
          · exact mem_roots.2 ⟨by omega, by rw [neg_sq hzp, hzv]⟩
      rw [e]
      rfl
    · rw [hh, (low_pow hp _).2] at hpow
      rw [hpow, if_pos rfl]
      have e : rootsL p p v = [] := List.eq_nil_iff_forall_not_mem.2 fun y hy => by
        obtain ⟨h1, h2⟩ := mem_roots.1 hy
        have hy0 : ¬ p ∣ y := fun hd => by
          rw [Nat.eq_zero_of_dvd_of_lt hd h1] at h2
          simp at h2
          omega
        have hf := hP.fermat1 hy0
        rw [← h2, ← Nat.pow_mod, ← Nat.pow_two, ← Nat.pow_mul, show 2 * ((p - 1) / 2) = p - 1 by omega, hf] at hpow
        omega
      rw [e]
      rfl

/-- what the document's Legendre answers -/
def legX (p : Nat) (V : Int) : Int := if V ^ ((p - 1) / 2) % (p : Int) = (p : Int) - 1 then -1 else V ^ ((p - 1) / 2) % (p : Int)
theorem legX_le {p : Nat} (hp : 5 ≤ p) (V : Int) : -1 ≤ legX p V ∧ legX p V ≤ p := by
  unfold legX
  have h1 := Int.emod_nonneg (V ^ ((p - 1) / 2)) (show (p : Int) ≠ 0 by omega)
  have h2 := Int.emod_lt_of_pos (V ^ ((p - 1) / 2)) (show (0 : Int) < p by omega)
  split <;> omega
/-- how many there are, by the symbols -/
def manyN (p : Nat) (a b : Int) : Nat → Int
  | 0 => 1
  | m + 1 => manyN p a b m + 1 + legX p ((m : Int) * m * m + a * m + b)
theorem manyN_le {p : Nat} (hp : 5 ≤ p) (a b : Int) : ∀ m : Nat, -(m : Int) ≤ manyN p a b m + m ∧ manyN p a b m ≤ 1 + (m : Int) * (p + 1)
  | 0 => by simp [manyN]
  | m + 1 => by
    obtain ⟨h1, h2⟩ := manyN_le hp a b m
    obtain ⟨h3, h4⟩ := legX_le hp ((m : Int) * m * m + a * m + b)
    unfold manyN
    rw [Int.natCast_add, Int.add_mul]
    generalize (m : Int) * ((p : Int) + 1) = X at h2 ⊢
    omega
theorem many_len {p : Nat} {a b : Int} (h : OkCv p a b) : ∀ m, manyN p a b m = ((ptsN p a b m).length : Int)
  | 0 => by simp [manyN, ptsN]
  | m + 1 => by
    have hP : Pr p := Pr_of (by simpa using h.pr)
    have hp5 : 5 ≤ p := by have := h.p1; omega
    obtain ⟨g, s, T⟩ := told_ex (p := p) hp5 (by have := h.p2; omega) hP
    unfold manyN
    rw [many_len h m, ptsN_succ, List.length_append]
    have e1 : (rowP p a b m).length = (rootsL p p ((((m : Nat) : Int) * m * m + a * m + b) % p).toNat).length := by unfold rowP; rw [List.length_map]
    have h0 := Int.emod_nonneg ((m : Int) * m * m + a * m + b) (show (p : Int) ≠ 0 by omega)
    have h1 := Int.emod_lt_of_pos ((m : Int) * m * m + a * m + b) (show (0 : Int) < p by omega)
    have e2 := roots_leg hp5 T hP (v := ((((m : Nat) : Int) * m * m + a * m + b) % p).toNat) (by omega)
    have e3 : legX p ((m : Int) * m * m + a * m + b) = (if ((((m : Nat) : Int) * m * m + a * m + b) % p).toNat ^ ((p - 1) / 2) % p = p - 1 then -1 else ((((((m : Nat) : Int) * m * m + a * m + b) % p).toNat ^ ((p - 1) / 2) % p : Nat) : Int)) := by
      unfold legX
      have e4 : (((((((m : Nat) : Int) * m * m + a * m + b) % p).toNat ^ ((p - 1) / 2) % p : Nat)) : Int) = ((m : Int) * m * m + a * m + b) ^ ((p - 1) / 2) % (p : Int) := by
        rw [Int.natCast_emod, Int.natCast_pow, Int.toNat_of_nonneg h0, pow_emod]
      rw [← e4]
      by_cases hc : ((((m : Nat) : Int) * m * m + a * m + b) % p).toNat ^ ((p - 1) / 2) % p = p - 1
      · rw [if_pos hc, if_pos (by rw [hc]; omega)]
      · rw [if_neg hc, if_neg (by omega)]
    rw [e3, e1]
    omega
theorem many_whole {p : Nat} {a b : Int} (h : OkCv p a b) : manyN p a b p = ((ptsC p a b).length : Int) := many_len h p
end HS
end Go.Proofs.YtonclhchbgmaiaaGreatDoor
