/- The walks of the answers' Gcd and Size. -/
import Derived.Test.YtkfjjljdhfjpbaaKGcd
namespace Go.Proofs.Ytkfjjljdhfjpbaa
open Go.RowKit

theorem gcd_step1 (p q : Nat) : Nat.gcd (p % q) q = Nat.gcd p q := by rw [← Nat.gcd_rec, Nat.gcd_comm]
theorem gcd_step2 (p q : Nat) : Nat.gcd p (q % p) = Nat.gcd p q := by rw [Nat.gcd_comm, ← Nat.gcd_rec]
theorem tmod_nat (p q : Nat) : ((p : Int)).tmod (q : Int) = ((p % q : Nat) : Int) := by
  rw [Int.tmod_eq_emod_of_nonneg (by omega)]; rfl

theorem ret_i64 {a b : Int} (h : a = b) : Value.int .i64 a = .int .i64 b := by rw [h]

set_option maxRecDepth 100000 in
set_option maxHeartbeats 800000 in
theorem refGcd_any (a b : Int) (w : World) (ha : -1000000000000000000 ≤ a) (ha2 : a ≤ 1000000000000000000) (hb : -1000000000000000000 ≤ b) (hb2 : b ≤ 1000000000000000000) :
    Calls Try.prog 23 #[.int .i64 a, .int .i64 b] w fun e w' => e = .returned (.int .i64 (Int.gcd a b)) ∧ w' = w := by
  have HG : Hid (Int.gcd a b = Nat.gcd a.natAbs b.natAbs) := rfl
  have e1 : IntKind.i64.wrap (-a) = -a := by rw [IntKind.wrap_i64]; omega
  have e2 : IntKind.i64.wrap (-b) = -b := by rw [IntKind.wrap_i64]; omega
  go_enter Try.func23, Try.ntmps23
  go_upto_if 6 with (fail)
  go_cut [0] (fun x wx => x = .int .i64 (a.natAbs : Int) ∧ wx = w)
  case first =>
    by_cases h : a < 0
    · go_wp2_with fail
      go_meet
      exact ⟨ret_i64 (by omega), rfl⟩
    · have h1 : decide (a < 0) = false := by simpa using h
      go_wp2_with fail
      go_meet
      exact ⟨ret_i64 (by omega), rfl⟩
  case rest =>
    obtain ⟨rfl, rfl⟩ := hcut
    obtain ⟨x, hx⟩ : ∃ x, a.natAbs = x := ⟨_, rfl⟩
    have hx2 : x ≤ 1000000000000000000 := by omega
    rw [hx] at HG ⊢
    clear ha ha2 e1 hx
    go_upto_if 10 with (fail)
    go_cut [1] (fun y wy => y = .int .i64 (b.natAbs : Int) ∧ wy = wc)
    case first =>
      by_cases h : b < 0
      · go_wp2_with fail
        go_meet
        exact ⟨ret_i64 (by omega), rfl⟩
      · have h1 : decide (b < 0) = false := by simpa using h
        go_wp2_with fail
        go_meet
        exact ⟨ret_i64 (by omega), rfl⟩
    case rest =>
      obtain ⟨rfl, rfl⟩ := hcut
      obtain ⟨y, hy⟩ : ∃ y, b.natAbs = y := ⟨_, rfl⟩
      have hy2 : y ≤ 1000000000000000000 := by omega
      rw [hy] at HG ⊢
      clear hb hb2 e2 hy
      go_wp2_with fail
      go_loop [0, 1] (fun s t => ∃ p q : Nat, s = .int .i64 p ∧ t = .int .i64 q ∧ p ≤ 1000000000000000000 ∧ q ≤ 1000000000000000000 ∧ Hid (Nat.gcd p q = Nat.gcd x y)) (fun s t => (intOf s).toNat + (intOf t).toNat)
      case atStart => exact ⟨x, y, rfl, rfl, hx2, hy2, rfl⟩
      case round =>
        obtain ⟨p, q, rfl, rfl, hp, hq, HE⟩ := hrel
        clear hx2 hy2
        by_cases hp0 : p = 0
        · subst hp0
          have HR : Hid (Int.gcd a b = q) := by unfold Hid; rw [HG.out, ← HE.out, Nat.gcd_zero_left]
          go_wp2_with fail
          go_ret
          exact ⟨by rw [HR.out]; rfl, rfl⟩
        · have d1 : decide (0 < p) = true := by simp; omega
          by_cases hq0 : q = 0
          · subst hq0
            have HR : Hid (Int.gcd a b = p) := by unfold Hid; rw [HG.out, ← HE.out, Nat.gcd_zero_right]
            clear hp0
            go_wp2_with fail
            go_ret
            exact ⟨by rw [HR.out]; rfl, rfl⟩
          · have d2 : decide (0 < q) = true := by simp; omega
            by_cases hqp : q < p
            · have d3 : decide (q < p) = true := by simpa using hqp
              have e3 := tmod_nat p q
              have HE2 : Hid (Nat.gcd (p % q) q = Nat.gcd x y) := by unfold Hid; rw [gcd_step1]; exact HE.out
              have hm := Nat.mod_lt p (y := q) (by omega)
              have HM := hide hm
              have hq1 : ((q : Int) == 0) = false := by simpa using hq0
              obtain ⟨z, hz⟩ : ∃ z, p % q = z := ⟨_, rfl⟩
              rw [hz] at HE2 HM e3
              clear hp0 hm hz HE
              go_wp2_with fail
              exact ⟨⟨z, q, rfl, rfl, by have := HM.out; omega, hq, HE2⟩, by have := HM.out; simp [intOf]; omega⟩
            · have d3 : decide (q < p) = false := by simpa using hqp
              have e3 := tmod_nat q p
              have HE2 : Hid (Nat.gcd p (q % p) = Nat.gcd x y) := by unfold Hid; rw [gcd_step2]; exact HE.out
              have hm := Nat.mod_lt q (y := p) (by omega)
              have HM := hide hm
              have hq1 : ((p : Int) == 0) = false := by simpa using hp0
              obtain ⟨z, hz⟩ : ∃ z, q % p = z := ⟨_, rfl⟩
              rw [hz] at HE2 HM e3
              clear hq0 hm hz HE
              go_wp2_with fail
              exact ⟨⟨p, z, rfl, rfl, hp, by have := HM.out; omega, HE2⟩, by have := HM.out; simp [intOf]; omega⟩

theorem size_any (a : Int) (w : World) (ha : -1000000000000000000 ≤ a) (ha2 : a ≤ 1000000000000000000) :
    Calls Try.prog 31 #[.int .i64 a] w fun e w' => e = .returned (.int .i64 (a.natAbs : Int)) ∧ w' = w := by
  have e1 : IntKind.i64.wrap (-a) = -a := by rw [IntKind.wrap_i64]; omega
  by_cases h : a < 0
  · have HE : Hid ((a.natAbs : Int) = -a) := by unfold Hid; omega
    go_enter Try.func31, Try.ntmps31
    go_wp2_with fail
    go_ret
    exact ⟨by rw [HE.out]; rfl, rfl⟩
  · have HE : Hid ((a.natAbs : Int) = a) := by unfold Hid; omega
    have h1 : decide (a < 0) = false := by simpa using h
    clear h
    go_enter Try.func31, Try.ntmps31
    go_wp2_with fail
    go_ret
    exact ⟨by rw [HE.out]; rfl, rfl⟩
end Go.Proofs.Ytkfjjljdhfjpbaa
