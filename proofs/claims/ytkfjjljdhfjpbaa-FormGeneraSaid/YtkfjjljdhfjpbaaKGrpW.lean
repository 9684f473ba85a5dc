/- The walks of the answers' First and of Disc at whatever numbers; the pieces of the law FormGroup. -/
import Derived.Test.YtkfjjljdhfjpbaaKComposeW
import Derived.Test.YtkfjjljdhfjpbaaKFormI
import Derived.Test.YtkfjjljdhfjpbaaKRegion
namespace Go.Proofs.Ytkfjjljdhfjpbaa
open Go.RowKit

/-- the discriminant as it wraps -/
def dw (a b c : Int) : Int := wrap64 (wrap64 (b * b) - wrap64 (wrap64 (4 * a) * c))
theorem rdisc_wrap (A B C : Int) (w : World) :
    Calls Try.prog 6 #[.agg #[.int .i64 A, .int .i64 B, .int .i64 C]] w fun e w' => e = .returned (.int .i64 (dw A B C)) ∧ Below w.heap.size w w' := by
  go_enter Try.func6, Try.ntmps6
  go_wp2
  go_ret
  exact ⟨rfl, (Below.refl _ _).alloc (Nat.le_refl _) _⟩

/-- a reduced form of a small discriminant is one that the packages take -/
theorem form_ok {A B C D : Int} (r : RedF A B C) (hD : D = B * B - 4 * A * C) (hlow : -1000000 ≤ D) (hn : D < 0) (g : Int.gcd A (Int.gcd B C) = 1) : formF A B C = (0, 0) := by
  obtain ⟨h0, h1, h2, h3, _⟩ := r
  have e1 : B * B ≤ A * A := by
    rcases Int.lt_or_le B 0 with hb | hb
    · have := Int.mul_le_mul (show -B ≤ A by omega) (show -B ≤ A by omega) (by omega) (by omega)
      grind
    · exact Int.mul_le_mul h2 h2 hb (by omega)
  have e2 : A * A ≤ A * C := Int.mul_le_mul_of_nonneg_left h3 (by omega)
  have e3 : 4 * A * C = 4 * (A * C) := Int.mul_assoc ..
  have e4 : 1 * C ≤ A * C := Int.mul_le_mul_of_nonneg_right (by omega) (by omega)
  have e5 : A * 1 ≤ A * A := Int.mul_le_mul_of_nonneg_left (by omega) (by omega)
  have e6 := sq_nn B
  have hs : smallF A B C = (0, 0) := by
    show lookS 0 [A, B, C] = (0, 0)
    rw [lookS, if_pos (small_of (by omega)), lookS, if_pos (small_of (by omega)), lookS, if_pos (small_of (by omega)), lookS]
  exact formF_none hs (by omega) (by simpa using g)
/-- the first form's numbers -/
def sg (D : Int) : Int := if D.tmod 4 = 0 then 0 else 1
def c0 (D : Int) : Int := if D.tmod 4 = 0 then (-D).tdiv 4 else (1 - D).tdiv 4
theorem first_nums {D b x : Int} (hD : D = b * b - 4 * x) (hn : D < 0) (hlow : -1000000 ≤ D) : D = sg D * sg D - 4 * c0 D ∧ (sg D = 0 ∨ sg D = 1) ∧ 1 ≤ c0 D ∧ c0 D ≤ 1000000 ∧ ∃ k, b = sg D + 2 * k := by
  unfold sg c0
  rcases (show b % 2 = 0 ∨ b % 2 = 1 by omega) with h | h
  · obtain ⟨k, hk⟩ : ∃ k, b = 2 * k := ⟨b / 2, by omega⟩
    have e : D = 4 * (k * k - x) := by rw [hD, hk]; grind
    obtain ⟨y, hy⟩ : ∃ y, k * k - x = y := ⟨_, rfl⟩
    rw [hy] at e
    have e1 : D.tmod 4 = 0 := by rw [e]; exact Int.mul_tmod_right _ _
    have e2 : (-D).tdiv 4 = -y := by rw [e, show -(4 * y) = 4 * (-y) by omega]; exact Int.mul_tdiv_cancel_left _ (by omega)
    rw [if_pos e1, if_pos e1, e2]
    exact ⟨by omega, .inl rfl, by omega, by omega, k, by omega⟩
  · obtain ⟨k, hk⟩ : ∃ k, b = 1 + 2 * k := ⟨b / 2, by omega⟩
    have e : D = 1 + 4 * (k * k + k - x) := by rw [hD, hk]; grind
    obtain ⟨y, hy⟩ : ∃ y, k * k + k - x = y := ⟨_, rfl⟩
    rw [hy] at e
    have e1 : ¬ D.tmod 4 = 0 := fun h => by
      have := Int.dvd_of_tmod_eq_zero h
      omega
    have e2 : (1 - D).tdiv 4 = -y := by rw [e, show 1 - (1 + 4 * y) = 4 * (-y) by omega]; exact Int.mul_tdiv_cancel_left _ (by omega)
    rw [if_neg e1, if_neg e1, e2]
    exact ⟨by omega, .inr rfl, by omega, by omega, k, by omega⟩
theorem first_form {D b x : Int} (hD : D = b * b - 4 * x) (hn : D < 0) (hlow : -1000000 ≤ D) : formF 1 (sg D) (c0 D) = (0, 0) := by
  obtain ⟨h1, h2, h3, h4, _⟩ := first_nums hD hn hlow
  have hs : smallF 1 (sg D) (c0 D) = (0, 0) := by
    show lookS 0 [1, sg D, c0 D] = (0, 0)
    rw [lookS, if_pos (small_of (by omega)), lookS, if_pos (small_of (by omega)), lookS, if_pos (small_of (by omega)), lookS]
  refine formF_none hs ?_ (by simp)
  rcases h2 with e | e <;> rw [e] at h1 ⊢ <;> omega

set_option maxRecDepth 100000 in
set_option maxHeartbeats 800000 in
theorem first_any (D : Int) (w : World) (hn : D < 0) (hlow : -4000000000000 ≤ D) :
    Calls Try.prog 11 #[.int .i64 D] w fun e w' => e = .returned (.agg #[.int .i64 1, .int .i64 (sg D), .int .i64 (c0 D)]) ∧ Below w.heap.size w w' := by
  by_cases h : D.tmod 4 = 0
  · have HE : Hid (sg D = 0 ∧ c0 D = (-D).tdiv 4) := hide (by unfold sg c0; rw [if_pos h, if_pos h]; exact ⟨rfl, rfl⟩)
    obtain ⟨z, hz⟩ : ∃ z, (-D).tdiv 4 = z := ⟨_, rfl⟩
    have e1 : -D / 4 = z := by rw [← hz]; exact (Int.tdiv_eq_ediv_of_nonneg (by omega)).symm
    have hzb : 0 ≤ z ∧ z ≤ 1000000000000 := by omega
    have M1 := hide (MC.made w 1 0 z)
    have HB := hide (bel_obj w (.cells #[.int .i64 1, .int .i64 0, .int .i64 z] 23))
    rw [hz] at HE
    go_enter Try.func11, Try.ntmps11
    go_wp2_with fail
    obtain ⟨v0, v1, v2⟩ := M1.out.cells
    exact bodyPost_ret (v := .agg #[.int .i64 1, .int .i64 0, .int .i64 z]) (by simp [results, Try.results11, go_sem, v0, v1, v2]) rfl ⟨by rw [HE.out.1, HE.out.2], HB.out⟩
  · have HE : Hid (sg D = 1 ∧ c0 D = (1 - D).tdiv 4) := hide (by unfold sg c0; rw [if_neg h, if_neg h]; exact ⟨rfl, rfl⟩)
    have h1 : (D.tmod 4 == 0) = false := by simpa using h
    obtain ⟨z, hz⟩ : ∃ z, (1 - D).tdiv 4 = z := ⟨_, rfl⟩
    have e1 : (1 - D) / 4 = z := by rw [← hz]; exact (Int.tdiv_eq_ediv_of_nonneg (by omega)).symm
    have hzb : 0 ≤ z ∧ z ≤ 1000000000001 := by omega
    have M1 := hide (MC.made w 1 1 z)
    have HB := hide (bel_obj w (.cells #[.int .i64 1, .int .i64 1, .int .i64 z] 23))
    rw [hz] at HE
    go_enter Try.func11, Try.ntmps11
    go_wp2_with fail
    obtain ⟨v0, v1, v2⟩ := M1.out.cells
    exact bodyPost_ret (v := .agg #[.int .i64 1, .int .i64 1, .int .i64 z]) (by simp [results, Try.results11, go_sem, v0, v1, v2]) rfl ⟨by rw [HE.out.1, HE.out.2], HB.out⟩
end Go.Proofs.Ytkfjjljdhfjpbaa
