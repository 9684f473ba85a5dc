/- The law PadicDigits' tests are Digits' and Teich's words. -/
import Derived.Test.YticgnjapgbjfiaaDoorPadG
namespace Go.Proofs.YticgnjapgbjfiaaDoor
open Go.RowKit
def stepG (F : Int × Int) (b : Bool) (v : Int × Int) : Int × Int := if F.1 = 0 ∧ b = true then v else F
theorem stepG_zero {F : Int × Int} {b : Bool} {v : Int × Int} (h : (stepG F b v).1 = 0) (hv : v.1 ≠ 0) : F.1 = 0 := by
  unfold stepG at h
  split at h
  · exact absurd h hv
  · exact h
theorem stepG_bad {F : Int × Int} {b : Bool} {v : Int × Int} (h : F.1 ≠ 0) : stepG F b v = F := by unfold stepG; rw [if_neg (fun k => h k.1)]
theorem stepG_true {F : Int × Int} {v : Int × Int} (h : F.1 = 0) : stepG F true v = v := by unfold stepG; rw [if_pos ⟨h, rfl⟩]
theorem stepG_false {F : Int × Int} {v : Int × Int} : stepG F false v = F := by unfold stepG; rw [if_neg (by simp)]
theorem digF_step (p k a b : Int) : stepG (stepG (stepG (padF p k) (!okB a) (3, 2)) (!okB b) (3, 3)) (decide (b % p = 0)) (4, 3) = digF p k a b := by
  by_cases h : (padF p k).1 = 0
  · rw [dig2 h]
    have hz := (padF_ok h).1
    rw [hz]
    cases okB a <;> cases okB b <;> by_cases hb : b % p = 0 <;> simp [stepG, hb]
  · rw [dig1 h, stepG_bad h, stepG_bad h, stepG_bad h]
theorem teiF_step (p k a : Int) : stepG (padF p k) (decide (a < 0 ∨ p ≤ a)) (3, 2) = teiF p k a := by
  by_cases h : (padF p k).1 = 0
  · by_cases ha : a < 0 ∨ p ≤ a
    · rw [teiF_out h ha, decide_eq_true ha, stepG_true h]
    · rw [teiF_ok h ha, decide_eq_false ha, stepG_false, (padF_ok h).1]
  · rw [teiF_bad h, stepG_bad h]

theorem teich_fix {P K a : Nat} (hp : Pr P) (ha : a < P) (hK : 1 ≤ K) {x : Int} (hx : x = (a : Int) ^ (P ^ K) % (P : Int) ^ K) :
    0 ≤ x ∧ x < (P : Int) ^ K ∧ x % P = a ∧ x ^ P % (P : Int) ^ K = x := by
  have hP := hp.1
  have hpos : (0 : Int) < (P : Int) ^ K := Int.pow_pos (by omega)
  have hd1 : (P : Int) ∣ (P : Int) ^ K := by
    obtain ⟨j, rfl⟩ : ∃ j, K = j + 1 := ⟨K - 1, by omega⟩
    exact ⟨(P : Int) ^ j, by rw [Int.pow_succ, Int.mul_comm]⟩
  refine ⟨by rw [hx]; exact Int.emod_nonneg _ (by omega), by rw [hx]; exact Int.emod_lt_of_pos _ hpos, ?_, ?_⟩
  · rw [hx, Int.emod_emod_of_dvd _ hd1]
    have h1 := hp.teich_one a K
    rw [Nat.mod_eq_of_lt ha] at h1
    have h2 : ((a ^ (P ^ K) % P : Nat) : Int) = (a : Int) := by rw [h1]
    rw [Int.natCast_emod, Int.natCast_pow] at h2
    exact h2
  · have h3 := hp.teich a K
    have h4 : (P : Int) ^ K ∣ (a : Int) ^ (P ^ (K + 1)) - (a : Int) ^ (P ^ K) := Int.dvd_trans ⟨P, by rw [Int.pow_succ]⟩ h3
    have h5 := emod_of_dvd_sub h4
    conv => rhs; rw [hx]
    rw [← h5, hx, pow_emod, ← Int.pow_mul, ← Nat.pow_succ]
theorem tei_good {p k a M x j : Int} (ht : teiF p k a = (0, j)) (hx : (0 : Int) = 0 → x = a ^ (p.toNat ^ k.toNat) % p ^ k.toNat) (hM : (if (padF p k).1 = 0 then p ^ k.toNat else 0) = M) :
    0 ≤ x ∧ x < M ∧ M ≤ 1000000000000000000 ∧ x.tmod p = a ∧ 2 ≤ p ∧ p ≤ 1000000 ∧ x ^ p.toNat % M = x := by
  have hz : (padF p k).1 = 0 := by
    apply Classical.byContradiction
    intro h
    have := teiF_bad (a := a) h
    rw [ht] at this
    rw [← this] at h
    exact h rfl
  obtain ⟨h1, h2, h3, h4, h5, h6, h7⟩ := padF_ok hz
  have ha : ¬ (a < 0 ∨ p ≤ a) := by
    intro h
    have := teiF_out hz h
    rw [ht] at this
    simp at this
  rw [if_pos hz] at hM
  obtain ⟨P, rfl⟩ : ∃ P : Nat, p = P := ⟨p.toNat, by omega⟩
  obtain ⟨K, rfl⟩ : ∃ K : Nat, k = K := ⟨k.toNat, by omega⟩
  obtain ⟨A, rfl⟩ : ∃ A : Nat, a = A := ⟨a.toNat, by omega⟩
  rw [show ((P : Int)).toNat = P from rfl, show ((K : Int)).toNat = K from rfl] at *
  obtain ⟨g1, g2, g3, g4⟩ := teich_fix (P := P) (K := K) (a := A) h4 (by omega) (by omega) (hx rfl)
  rw [hM] at g2 g4 h7
  exact ⟨g1, g2, h7, by rw [Int.tmod_eq_emod_of_nonneg g1]; exact g3, h2, h3, g4⟩
theorem dig_good {p k a b M X i : Int} (hd : digF p k a b = (0, i)) (hok : DigOk p k a b X) (hM : (if (padF p k).1 = 0 then p ^ k.toNat else 0) = M) :
    2 ≤ p ∧ p ≤ 1000000 ∧ 1 ≤ k ∧ k ≤ 60 ∧ (padF p k).1 = 0 ∧ 0 < M ∧ M ≤ 1000000000000000000 ∧ 0 ≤ X ∧ X < M ∧ b * X % M = a % M := by
  have hz : (padF p k).1 = 0 := by
    apply Classical.byContradiction
    intro h
    have := dig1 (a := a) (b := b) h
    rw [hd] at this
    rw [← this] at h
    exact h rfl
  obtain ⟨h1, h2, h3, h4, h5, h6, h7⟩ := padF_ok hz
  rw [if_pos hz] at hM
  obtain ⟨g1, g2, g3⟩ := hok
  rw [hM] at h7 g2 g3
  exact ⟨h2, h3, h5, h6, hz, by omega, h7, g1, g2, g3⟩
/-- the loop's numbers -/
theorem dig_rounds {p X M : Int} {K : Nat} (hp : 2 ≤ p) (hX : 0 ≤ X) (hXM : X < M) (hM : p ^ K = M) (hM2 : M ≤ 1000000000000000000) : 0 = X / p ^ K ∧ ∀ s : Nat, X / p ^ (s + 1) * p + X / p ^ s % p = X / p ^ s ∧ 0 ≤ X / p ^ (s + 1) * p ∧ X / p ^ (s + 1) * p ≤ 1000000000000000000 ∧ 0 ≤ X / p ^ s % p ∧ X / p ^ s % p < p ∧ X / p ^ s ≤ 1000000000000000000 := by
  refine ⟨(dig_top p X K hX (by omega)).symm, fun s => ?_⟩
  have h1 := dig_step p X s (by omega) hX
  have hps : (0 : Int) < p ^ s := Int.pow_pos (by omega)
  have hps1 : (0 : Int) < p ^ (s + 1) := Int.pow_pos (by omega)
  have h2 : X / p ^ s ≤ X := Int.ediv_le_self _ hX
  have h3 : 0 ≤ X / p ^ (s + 1) := Int.ediv_nonneg hX (by omega)
  have h4 : 0 ≤ X / p ^ (s + 1) * p := Int.mul_nonneg h3 (by omega)
  have h5 := Int.emod_nonneg (X / p ^ s) (b := p) (by omega)
  have h6 := Int.emod_lt_of_pos (X / p ^ s) (show 0 < p by omega)
  exact ⟨h1, h4, by omega, h5, h6, by omega⟩
end Go.Proofs.YticgnjapgbjfiaaDoor
