/- The walks of whole.Raise and whole.Power; powers left by a number. Each under the bounds of its arguments. -/
import Derived.Test.YtpppnaljndhjcaaDoorKTimes
import Derived.Lib.RabinKarpLaws
namespace Go.Proofs.YtpppnaljndhjcaaDoor
open Go.RowKit

theorem pow_emod (a m : Int) (k : Nat) : (a % m) ^ k % m = a ^ k % m := by
  induction k with
  | zero => simp
  | succ k ih => rw [Int.pow_succ, Int.pow_succ, Int.mul_emod, ih, ← Int.mul_emod, Int.mul_emod, Int.emod_emod_of_dvd _ (Int.dvd_refl m), ← Int.mul_emod]
theorem mulpow_emod {o p x m : Int} (k : Nat) (h : p % m = x % m) : o * p ^ k % m = o * x ^ k % m := by
  rw [Int.mul_emod, ← pow_emod p, h, pow_emod, ← Int.mul_emod]
theorem emod_mul_l {o p m : Int} : (o % m) * p % m = o * p % m := by
  rw [Int.mul_emod, Int.emod_emod_of_dvd _ (Int.dvd_refl m), ← Int.mul_emod]

/-- raise: one round -/
theorem raise_odd {o p m : Int} {k : Nat} (h : k % 2 = 1) : (o * p % m) * ((p * p) % m) ^ (k / 2) % m = o * p ^ k % m := by
  rw [emod_mul_l, mulpow_emod (x := p * p) _ (by rw [Int.emod_emod_of_dvd _ (Int.dvd_refl m)])]
  have e : p ^ k = p * (p * p) ^ (k / 2) := by
    have : k = 2 * (k / 2) + 1 := by omega
    generalize k / 2 = z at *
    subst this
    rw [Int.pow_succ, Int.pow_mul, show p ^ 2 = p * p from by rw [Int.pow_succ, Int.pow_succ, Int.pow_zero, Int.one_mul], Int.mul_comm]
  rw [e, Int.mul_assoc]
theorem raise_even {o p m : Int} {k : Nat} (h : k % 2 = 0) : o * ((p * p) % m) ^ (k / 2) % m = o * p ^ k % m := by
  rw [mulpow_emod (x := p * p) _ (by rw [Int.emod_emod_of_dvd _ (Int.dvd_refl m)])]
  have e : p ^ k = (p * p) ^ (k / 2) := by
    have : k = 2 * (k / 2) := by omega
    generalize k / 2 = z at *
    subst this
    rw [Int.pow_mul, show p ^ 2 = p * p from by rw [Int.pow_succ, Int.pow_succ, Int.pow_zero, Int.one_mul]]
  rw [e]

set_option maxRecDepth 100000 in
set_option maxHeartbeats 800000 in
theorem raise_any (a m : Int) (n : Nat) (w : World) (hm : 0 < m) (hm2 : m ≤ 9223372036854775807) (ha : -9223372036854775808 ≤ a) (ha2 : a ≤ 9223372036854775807) (hn : n ≤ 9223372036854775807) :
    Calls Tryd.prog 21 #[.int .i64 a, .int .i64 n, .int .i64 m] w fun e w' => e = .returned (.int .i64 (a ^ n % m)) ∧ ∃ k, w' = w.drewN k := by
  have C1 := fun W => hide (mod_any a m W hm hm2 ha ha2)
  have p0 := Int.emod_nonneg a (b := m) (by omega)
  have p1 := Int.emod_lt_of_pos a hm
  have o0 := Int.emod_nonneg 1 (b := m) (by omega)
  have o1 := Int.emod_lt_of_pos 1 hm
  have e1 : (1 : Int).tmod m = 1 % m := Int.tmod_eq_emod_of_nonneg (by omega)
  have HM : Hid (0 < m ∧ m ≤ 9223372036854775807) := ⟨hm, hm2⟩
  have hm0 : ¬ m = 0 := by omega
  have R0 : Hid ((1 % m) * (a % m) ^ n % m = a ^ n % m) := by
    unfold Hid
    rw [emod_mul_l, Int.one_mul, pow_emod]
  obtain ⟨p, hp⟩ : ∃ p, a % m = p := ⟨_, rfl⟩
  obtain ⟨o, ho⟩ : ∃ o, 1 % m = o := ⟨_, rfl⟩
  rw [hp] at p0 p1 C1 R0
  rw [ho] at o0 o1 e1 R0
  have HP : Hid (0 ≤ p ∧ p < m ∧ 0 ≤ o ∧ o < m) := ⟨p0, p1, o0, o1⟩
  have e2 : IntKind.i64.wrap o = o := by rw [IntKind.wrap_i64]; omega
  clear hm hm2 ha ha2 p0 p1 o0 o1 hp ho
  go_enter Tryd.func21, Tryd.ntmps21
  go_wp2_with fail
  refine (C1 _).out.mono ?_
  rintro e w1 ⟨rfl, rfl⟩
  go_wp2_with fail
  clear e1 e2
  go_loopw [0, 1, 7] (fun x y z wr => ∃ (p o : Int) (k j : Nat), x = .int .i64 p ∧ y = .int .i64 k ∧ z = .int .i64 o ∧ Hid (0 ≤ p ∧ p < m ∧ 0 ≤ o ∧ o < m) ∧ k ≤ n ∧ Hid (o * p ^ k % m = a ^ n % m) ∧ wr = w.drewN j) (fun _ y _ _ => (intOf y).toNat)
  case atStart => exact ⟨p, o, n, 0, rfl, rfl, rfl, HP, by omega, R0, rfl⟩
  case round =>
    clear HP R0
    obtain ⟨p, o, k, j, rfl, rfl, rfl, HP, hk, HR, rfl⟩ := hrel
    obtain ⟨b0, b1, b2, b3⟩ := HP.out
    have T1 := fun W => hide (times_any o p m W HM.out.1 HM.out.2 (by have := HM.out; omega) (by have := HM.out; omega) (by have := HM.out; omega) (by have := HM.out; omega))
    have T2 := fun W => hide (times_any p p m W HM.out.1 HM.out.2 (by have := HM.out; omega) (by have := HM.out; omega) (by have := HM.out; omega) (by have := HM.out; omega))
    have x0 := Int.emod_nonneg (o * p) hm0
    have x1 := Int.emod_lt_of_pos (o * p) HM.out.1
    have y0 := Int.emod_nonneg (p * p) hm0
    have y1 := Int.emod_lt_of_pos (p * p) HM.out.1
    have hand := and_one k (by omega)
    by_cases hk0 : k = 0
    · subst hk0
      have HE : Hid (o = a ^ n % m) := by
        have := HR.out
        rw [Int.pow_zero, Int.mul_one, Int.emod_eq_of_lt b2 b3] at this
        exact this
      clear b0 b1 b2 b3 T1 T2 x0 x1 y0 y1 hand
      go_wp2_with fail
      go_ret
      exact ⟨by rw [← HE.out]; rfl, j, rfl⟩
    · have h1 : decide (0 < k) = true := by rw [decide_eq_true_eq]; omega
      by_cases hodd : k % 2 = 1
      · have HR2 := hide ((raise_odd (o := o) (p := p) (m := m) hodd).trans HR.out)
        have hand : bits BinOp.and IntKind.i64 (k : Int) 1 = 1 := by rw [hand, hodd]; rfl
        obtain ⟨x, hx⟩ : ∃ x, o * p % m = x := ⟨_, rfl⟩
        obtain ⟨y, hy⟩ : ∃ y, p * p % m = y := ⟨_, rfl⟩
        rw [hx] at HR2 T1 x0 x1
        rw [hy] at HR2 T2 y0 y1
        have HP2 : Hid (0 ≤ y ∧ y < m ∧ 0 ≤ x ∧ x < m) := ⟨y0, y1, x0, x1⟩
        clear b0 b1 b2 b3 x0 x1 y0 y1 hx hy hodd hk0
        go_wp2_with fail
        refine (T1 _).out.mono ?_
        rintro e w2 ⟨rfl, i, rfl⟩
        go_wp2_with fail
        refine (T2 _).out.mono ?_
        rintro e w2 ⟨rfl, i2, rfl⟩
        go_wp2_with fail
        go_roundw
        case rel => exact ⟨y, x, k / 2, _, rfl, by simp, rfl, HP2, by omega, HR2, rfl⟩
        case measure => have := of_decide_eq_true h1; simp [intOf]; omega
      · have HR2 := hide ((raise_even (o := o) (p := p) (m := m) (k := k) (by omega)).trans HR.out)
        have hand : bits BinOp.and IntKind.i64 (k : Int) 1 = 0 := by rw [hand, show k % 2 = 0 from by omega]; rfl
        obtain ⟨y, hy⟩ : ∃ y, p * p % m = y := ⟨_, rfl⟩
        rw [hy] at HR2 T2 y0 y1
        have HP2 : Hid (0 ≤ y ∧ y < m ∧ 0 ≤ o ∧ o < m) := ⟨y0, y1, b2, b3⟩
        clear b0 b1 b2 b3 x0 x1 y0 y1 hy hodd hk0
        go_wp2_with fail
        refine (T2 _).out.mono ?_
        rintro e w2 ⟨rfl, i2, rfl⟩
        go_wp2_with fail
        go_roundw
        case rel => exact ⟨y, o, k / 2, _, rfl, by simp, rfl, HP2, by omega, HR2, rfl⟩
        case measure => have := of_decide_eq_true h1; simp [intOf]; omega
end Go.Proofs.YtpppnaljndhjcaaDoor
