/- The walk of the law WholeLaws. -/
import Derived.Test.YtddnchjnbgdocaaWholeC
import Derived.Test.YtddnchjnbgdocaaRefC
import Derived.Test.YtddnchjnbgdocaaBegunW
import Derived.Test.YtddnchjnbgdocaaDividesW
import Derived.Test.YtddnchjnbgdocaaPowersH
namespace Go.Proofs.Ytddnchjnbgdocaa
open Go.RowKit

theorem powF_zero {a n m : Int} (ha : okB a = true) (hn : okB n = true) (hm : okB m = true) (h0 : 0 ≤ n) (h1 : 1 ≤ m) : powF a n m = (0, 0) := by
  unfold powF
  have e : lookK 0 [a, n, m] = (0, 0) := by
    rw [lookK, if_pos ha, lookK, if_pos hn, lookK, if_pos hm, lookK]
  rw [e, if_neg (by decide), if_neg (by omega), if_neg (by omega)]
theorem okB_of {n : Int} (h : -1000000000000000000 ≤ n ∧ n ≤ 1000000000000000000) : okB n = true := by unfold okB; simpa using h
theorem powF_eq {a n m : Int} (h : (powF a n m).1 = 0) : powF a n m = (0, 0) := by
  have hb := powF_ok h
  exact powF_zero (okB_of (by omega)) (okB_of (by omega)) (okB_of (by omega)) (by omega) (by omega)
theorem invF_zero {a m : Int} (ha : okB a = true) (hm : okB m = true) (h1 : 1 ≤ m) (hg : Int.gcd a m = 1) : invF a m = (0, 0) := by
  unfold invF
  have e : lookK 0 [a, m] = (0, 0) := by
    rw [lookK, if_pos ha, lookK, if_pos hm, lookK]
  rw [e, if_neg (by decide), if_neg (by omega), if_neg (by omega)]
theorem inv_gcd {a m i : Int} (h : m ∣ a * i - 1) : Int.gcd i m = 1 := by
  have h1 : (Int.gcd i m : Int) ∣ a * i := Int.dvd_mul_of_dvd_right (Int.gcd_dvd_left i m)
  have h2 : (Int.gcd i m : Int) ∣ a * i - 1 := Int.dvd_trans (Int.gcd_dvd_right i m) h
  have h3 := Int.dvd_sub h1 h2
  rw [show a * i - (a * i - 1) = 1 from by omega] at h3
  have := Int.eq_one_of_dvd_one (by omega) h3
  omega
theorem inv_back {a m i b : Int} (_hm : 1 ≤ m) (h : m ∣ a * i - 1) (h2 : InvOk i m b) : b = a % m := by
  obtain ⟨b0, b1, hb⟩ := h2
  have h3 : m ∣ a - b := by
    have e1 := Int.dvd_mul_of_dvd_left (c := b) h
    have e2 := Int.dvd_mul_of_dvd_right (b := a) hb
    have := Int.dvd_sub e2 e1
    rwa [show a * (i * b - 1) - (a * i - 1) * b = b - a from by grind, ← Int.dvd_neg, show -(b - a) = a - b from by omega] at this
  obtain ⟨x, hx⟩ := h3
  rw [show a = b + m * x from by omega, Int.add_mul_emod_self_left, Int.emod_eq_of_lt b0 b1]
theorem pow_sum (a m : Int) (n k : Nat) : (a ^ n % m) * (a ^ k % m) % m = a ^ (n + k) % m := by
  rw [← Int.mul_emod, Int.pow_add]

set_option maxRecDepth 100000 in
set_option maxHeartbeats 3200000 in
theorem laws_out (a n k m : Int) (w : World) (h : n < 0 ∨ k < 0 ∨ 1000000000 < n ∨ 1000000000 < k) :
    Calls Try.prog 5 #[.int .i64 a, .int .i64 n, .int .i64 k, .int .i64 m] w fun e w' => e = .returned (.bool true) ∧ Below w.heap.size w w' := by
  have CW := fun W => hide (begun_any W)
  have hh : decide (n < 0) = true ∨ (decide (n < 0) = false ∧ decide (k < 0) = true) ∨ (decide (n < 0) = false ∧ decide (k < 0) = false ∧ decide (1000000000 < n) = true) ∨ (decide (n < 0) = false ∧ decide (k < 0) = false ∧ decide (1000000000 < n) = false ∧ decide (1000000000 < k) = true) := by
    simp only [decide_eq_true_eq, decide_eq_false_iff_not]; omega
  clear h
  rcases hh with h | ⟨h1, h⟩ | ⟨h1, h2, h⟩ | ⟨h1, h2, h3, h⟩
  all_goals
    go_enter Try.func5, Try.ntmps5
    go_wp2_with fail
    refine (CW _).out.mono ?_
    rintro e w1 ⟨rfl, hb⟩
    have HB := hide hb
    clear hb
    go_wp2_with fail
    go_ret
    exact ⟨rfl, HB.out⟩

set_option maxRecDepth 100000 in
set_option maxHeartbeats 6400000 in
theorem laws_in (a m : Int) (n k : Nat) (w : World) (hn : n ≤ 1000000000) (hk : k ≤ 1000000000) :
    Calls Try.prog 5 #[.int .i64 a, .int .i64 n, .int .i64 k, .int .i64 m] w fun e w' => e = .returned (.bool true) ∧ Below w.heap.size w w' := by
  have CW := fun W => hide (begun_any W)
  have P1 := fun W => hide (power_any a n m W)
  have P2 := fun W => hide (power_any a k m W)
  have P3 := fun W => hide (power_any a ((n : Int) + (k : Int)) m W)
  unfold RetNF at P1 P2 P3
  have q1 : decide ((n : Int) < 0) = false := by simp
  have q2 : decide ((k : Int) < 0) = false := by simp
  have q3 : decide ((1000000000 : Int) < (n : Int)) = false := by rw [decide_eq_false_iff_not]; omega
  have q4 : decide ((1000000000 : Int) < (k : Int)) = false := by rw [decide_eq_false_iff_not]; omega
  obtain ⟨⟨c, i⟩, hF⟩ : ∃ F, powF a n m = F := ⟨_, rfl⟩
  rw [hF] at P1
  by_cases hc : c = 0
  · subst hc
    have e1 := powF_eq (a := a) (n := n) (m := m) (by rw [hF])
    rw [e1] at hF
    injection hF with _ hi
    subst hi
    have hbd := powF_ok (a := a) (n := n) (m := m) (by rw [e1])
    have e2 : powF a k m = (0, 0) := powF_zero (okB_of (by omega)) (okB_of (by omega)) (okB_of (by omega)) (by omega) (by omega)
    have e3 : powF a ((n : Int) + (k : Int)) m = (0, 0) := powF_zero (okB_of (by omega)) (okB_of (by omega)) (okB_of (by omega)) (by omega) (by omega)
    rw [e2] at P2
    rw [e3] at P3
    have KA := fun W => hide (number_any a W)
    have KM := fun W => hide (number_any m W)
    rw [okB_of (by omega)] at KA KM
    have q5 : decide (m < 1) = false := by simp; omega
    have HBD : Hid (-1000000000000000000 ≤ a ∧ a ≤ 1000000000000000000 ∧ 1 ≤ m ∧ m ≤ 1000000000000000000) := by unfold Hid; omega
    have HSUM := hide (pow_sum a m n k)
    have HT : Hid (((n : Int)).toNat = n ∧ ((k : Int)).toNat = k ∧ ((n : Int) + (k : Int)).toNat = n + k) := by unfold Hid; omega
    clear e1 e2 e3 hbd
    go_enter Try.func5, Try.ntmps5
    go_wp2_with fail
    refine (CW _).out.mono ?_
    rintro e w1 ⟨rfl, hb⟩
    have HB := hide hb
    clear hb
    go_wp2_with fail
    refine (P1 _).out.mono ?_
    rintro e w2 ⟨x, rfl, hx, _, hb⟩
    have HX := hide (hx trivial)
    have HB2 := hide (HB.out.trans (hb.mono HB.out.size))
    simp only [fv]
    have F2 := hide (FC.made w2 0 0)
    have hlt2 : w.heap.size ≤ w2.heap.size := HB2.out.size
    clear hx hb
    go_wp2_with fail
    refine (P2 _).out.mono ?_
    rintro e w3 ⟨y, rfl, hy, _, hb⟩
    have HY := hide (hy trivial)
    have F3 := hide (F2.out.below hb)
    have HB3 := hide ((HB2.out.alloc HB2.out.size (.cells #[.int .i64 0, .int .i64 0] 24)).trans (hb.mono (Nat.le_trans HB2.out.size (by simp))))
    have hl3 : w2.heap.size < w3.heap.size := F3.out.lt
    simp only [fv]
    have G3 := hide (FC.made w3 0 0)
    have F3' := hide (F3.out.below (bel_new w3 (.cells #[.int .i64 0, .int .i64 0] 24)))
    clear hy hb
    go_wp2_with fail
    refine (P3 _).out.mono ?_
    rintro e w4 ⟨z, rfl, hz, _, hb⟩
    have HZ := hide (hz trivial)
    have F4 := hide (F3'.out.below hb)
    have G4 := hide (G3.out.below hb)
    have HB4 := hide ((HB3.out.alloc HB3.out.size (.cells #[.int .i64 0, .int .i64 0] 24)).trans (hb.mono (Nat.le_trans HB3.out.size (by simp))))
    have hl4 : w3.heap.size < w4.heap.size := G4.out.lt
    simp only [fv]
    have K4 := hide (FC.made w4 0 0)
    have F4' := hide (F4.out.below (bel_new w4 (.cells #[.int .i64 0, .int .i64 0] 24)))
    have G4' := hide (G4.out.below (bel_new w4 (.cells #[.int .i64 0, .int .i64 0] 24)))
    have HB5 := hide (HB4.out.alloc HB4.out.size (.cells #[.int .i64 0, .int .i64 0] 24))
    obtain ⟨x0, x1, x2, x3⟩ := F4.out.cells
    obtain ⟨y0, y1, y2, y3⟩ := G4.out.cells
    have hzz : (x * y) % m = z := by
      have h1 := HX.out; have h2 := HY.out; have h3 := HZ.out
      simp only [HT.out.1, HT.out.2.1, HT.out.2.2] at h1 h2 h3
      rw [h1, h2, h3]; exact HSUM.out
    have hx1 : 0 ≤ x ∧ x < m := by
      have h1 := HX.out
      rw [h1]; exact ⟨Int.emod_nonneg _ (by have := HBD.out; omega), Int.emod_lt_of_pos _ (by have := HBD.out; omega)⟩
    have hy1 : 0 ≤ y ∧ y < m := by
      have h1 := HY.out
      rw [h1]; exact ⟨Int.emod_nonneg _ (by have := HBD.out; omega), Int.emod_lt_of_pos _ (by have := HBD.out; omega)⟩
    have hz1 : 0 ≤ z ∧ z < m := by
      rw [← hzz]; exact ⟨Int.emod_nonneg _ (by have := HBD.out; omega), Int.emod_lt_of_pos _ (by have := HBD.out; omega)⟩
    have hmul := mul_i64 (x := x) (y := y) (by have := HBD.out; omega) (by have := HBD.out; omega)
    have hl24 : w2.heap.size < w4.heap.size := by omega
    have HL : Hid (x.natAbs < lim ∧ y.natAbs < lim ∧ z.natAbs < lim ∧ m.natAbs < lim ∧ (x * y).natAbs + 1 < lim ∧ m ≠ 0) := by
      have := HBD.out
      exact ⟨lim_256 (by omega), lim_256 (by omega), lim_256 (by omega), lim_256 (by omega), lim_256 (by omega), by omega⟩
    have HR : Hid ((0 ≤ x ∧ x < m) ∧ (0 ≤ y ∧ y < m) ∧ (0 ≤ z ∧ z < m)) := ⟨hx1, hy1, hz1⟩
    have HZZ := hide hzz
    have O0 := hide ((Own.start (w4.alloc (.cells #[.int .i64 0, .int .i64 0] 24))).new.new)
    clear hz hb hzz hx1 hy1 hz1 hmul
    go_wp2_with fail
    refine (KA _).out.mono ?_
    rintro e w5 ⟨rfl, rfl⟩
    go_wp2_with fail
    refine (KM _).out.mono ?_
    rintro e w5 ⟨rfl, rfl⟩
    go_wp2_with fail
    refine (b_own O0.out x (by have := HR.out; have := HBD.out; omega) (by have := HR.out; have := HBD.out; omega)).mono ?_
    rintro e w5 ⟨g5, rfl, O⟩
    simp only [World.size_alloc] at O
    have O5 := hide O
    clear O
    go_wp2_with fail
    refine (b_own O5.out y (by have := HR.out; have := HBD.out; omega) (by have := HR.out; have := HBD.out; omega)).mono ?_
    rintro e w6 ⟨g6, rfl, O⟩
    have O6 := hide O
    clear O
    go_wp2_with fail
    refine (mul_own O6.out 2 1 0 rfl rfl rfl HL.out.1 HL.out.2.1 (by have := HL.out.2.2.2.2.1; omega)).mono ?_
    rintro e w7 ⟨rfl, O⟩
    simp only [List.set] at O
    have O7 := hide O
    clear O
    go_wp2_with fail
    refine (b_own O7.out m (by have := HBD.out; omega) (by have := HBD.out; omega)).mono ?_
    rintro e w8 ⟨g8, rfl, O⟩
    have O8 := hide O
    clear O
    go_wp2_with fail
    refine (mod_own O8.out 4 3 0 rfl rfl rfl HL.out.2.2.2.2.1 HL.out.2.2.2.1 HL.out.2.2.2.2.2).mono ?_
    rintro e w9 ⟨rfl, O⟩
    simp only [List.set] at O
    rw [HZZ.out] at O
    have O9 := hide O
    clear O
    go_wp2_with fail
    refine (b_own O9.out z (by have := HR.out; have := HBD.out; omega) (by have := HR.out; have := HBD.out; omega)).mono ?_
    rintro e w10 ⟨g10, rfl, O⟩
    have O10 := hide O
    clear O
    go_wp2_with fail
    refine (cmp_own O10.out 5 0 rfl rfl HL.out.2.2.1 HL.out.2.2.1).mono ?_
    rintro e w11 ⟨rfl, O⟩
    rw [show icmp z z = 0 from by unfold icmp; rw [if_neg (by omega), if_neg (by omega)]]
    have B11 := hide O.bel
    have F11 := hide (F4'.out.below O.bel)
    have HB11 := hide (HB5.out.trans (O.bel.mono HB5.out.size))
    have hl11 : w2.heap.size < w11.heap.size := F11.out.lt
    have CI := fun W => hide (inverse_any a m W)
    unfold RetNF at CI
    clear O x0 x1 x2 x3 y0 y1 y2 y3
    obtain ⟨⟨c, i⟩, hF⟩ : ∃ F, invF a m = F := ⟨_, rfl⟩
    rw [hF] at CI
    have HFI := hide hF
    clear hF
    go_wp2_with fail
    refine (CI _).out.mono ?_
    rintro e w12 ⟨i1, rfl, hi1, hi0, hb⟩
    simp only [fv]
    have F12 := F11.out.below hb
    have HB12 := hide (HB11.out.trans (hb.mono HB11.out.size))
    obtain ⟨x0, x1, x2, x3⟩ := F12.cells
    obtain ⟨y0, y1⟩ := F12.put c i
    have HI := hide hi1
    have F12' := hide ((F12.set0 c).set1 i)
    have HB12' : Hid (Below w.heap.size w ((w12.setCell ⟨w2.heap.size, 0, none⟩ (.int .i64 c)).setCell ⟨w2.heap.size, 1, none⟩ (.int .i64 i))) := below_fault HB12.out hlt2
    clear hi1 hi0 hb F12
    by_cases hc : c = 0
    · subst hc
      have hio := HI.out rfl
      have CI2 := fun W => hide (inverse_any i1 m W)
      unfold RetNF at CI2
      rw [invF_zero (a := i1) (m := m) (okB_of (by have := HBD.out; have := hio.1; have := hio.2.1; omega)) (okB_of (by have := HBD.out; omega)) HBD.out.2.2.1 (inv_gcd hio.2.2)] at CI2
      have CL := fun W => hide (left_ref a m W (by have := HBD.out; omega) (by have := HBD.out; omega) (by have := HBD.out; omega) (by have := HBD.out; omega))
      have HIO := hide hio
      clear hio HI
      go_wp2_with fail
      refine (CI2 _).out.mono ?_
      rintro e w13 ⟨b, rfl, hb1, _, hb⟩
      simp only [fv]
      have hba := inv_back HBD.out.2.2.1 HIO.out.2.2 (hb1 trivial)
      subst hba
      have F13 := F12'.out.below hb
      have HB13 := hide (HB12'.out.trans (hb.mono HB12'.out.size))
      obtain ⟨z0, z1, z2, z3⟩ := F13.cells
      obtain ⟨z4, z5⟩ := F13.put 0 0
      have HB14 : Hid (Below w.heap.size w ((w13.setCell ⟨w2.heap.size, 0, none⟩ (.int .i64 0)).setCell ⟨w2.heap.size, 1, none⟩ (.int .i64 0))) := below_fault HB13.out hlt2
      obtain ⟨am, ham⟩ : ∃ am, a % m = am := ⟨_, rfl⟩
      rw [ham] at CL ⊢
      clear hb1 hb F13 ham
      go_wp2_with fail
      refine (CL _).out.mono ?_
      rintro e w14 ⟨rfl, rfl⟩
      go_wp2_with fail
      go_ret
      exact ⟨by simp, HB14.out⟩
    · have q6 : (c != 0) = true := by simpa using hc
      clear hc
      go_wp2_with fail
      go_ret
      exact ⟨rfl, HB12'.out⟩
  · have q6 : (c != 0) = true := by simpa using hc
    clear hc hF
    go_enter Try.func5, Try.ntmps5
    go_wp2_with fail
    refine (CW _).out.mono ?_
    rintro e w1 ⟨rfl, hb⟩
    have HB := hide hb
    clear hb
    go_wp2_with fail
    refine (P1 _).out.mono ?_
    rintro e w2 ⟨x, rfl, _, _, hb⟩
    have HB2 := hide (HB.out.trans (hb.mono HB.out.size))
    simp only [fv]
    have F2 := hide (FC.made w2 c i)
    clear hb
    go_wp2_with fail
    refine (P2 _).out.mono ?_
    rintro e w3 ⟨y, rfl, _, _, hb⟩
    have F3 := hide (F2.out.below hb)
    have HB3 := hide ((HB2.out.alloc HB2.out.size (.cells #[.int .i64 c, .int .i64 i] 24)).trans (hb.mono (Nat.le_trans HB2.out.size (by simp))))
    have hl3 : w2.heap.size < w3.heap.size := F3.out.lt
    obtain ⟨⟨c2, i2⟩, hF2⟩ : ∃ F, powF a k m = F := ⟨_, rfl⟩
    rw [hF2]
    simp only [fv]
    have F3' := hide (F3.out.below (bel_new w3 (.cells #[.int .i64 c2, .int .i64 i2] 24)))
    clear hb hF2
    go_wp2_with fail
    refine (P3 _).out.mono ?_
    rintro e w4 ⟨z, rfl, _, _, hb⟩
    have F4 := hide (F3'.out.below hb)
    have HB4 := hide ((HB3.out.alloc HB3.out.size (.cells #[.int .i64 c2, .int .i64 i2] 24)).trans (hb.mono (Nat.le_trans HB3.out.size (by simp))))
    have hl4 : w2.heap.size < w4.heap.size := F4.out.lt
    obtain ⟨⟨c3, i3⟩, hF3⟩ : ∃ F, powF a ((n : Int) + (k : Int)) m = F := ⟨_, rfl⟩
    rw [hF3]
    simp only [fv]
    have HB5 := hide (HB4.out.alloc HB4.out.size (.cells #[.int .i64 c3, .int .i64 i3] 24))
    obtain ⟨x0, x1, x2, x3⟩ := F4.out.cells
    clear hb hF3
    go_wp2_with fail
    go_ret
    exact ⟨rfl, HB5.out⟩

theorem laws_any (a n k m : Int) (w : World) :
    Calls Try.prog 5 #[.int .i64 a, .int .i64 n, .int .i64 k, .int .i64 m] w fun e w' => e = .returned (.bool true) ∧ Below w.heap.size w w' := by
  by_cases h : n < 0 ∨ k < 0 ∨ 1000000000 < n ∨ 1000000000 < k
  · exact laws_out a n k m w h
  · obtain ⟨N, rfl⟩ : ∃ N : Nat, n = N := ⟨n.toNat, by omega⟩
    obtain ⟨K, rfl⟩ : ∃ K : Nat, k = K := ⟨k.toNat, by omega⟩
    exact laws_in a m N K w (by omega) (by omega)
end Go.Proofs.Ytddnchjnbgdocaa
