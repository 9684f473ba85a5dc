/- The walks of the answers' CurveFault and OnCurve. -/
import Derived.Test.YtofjmnodfabohaaGreatDoorKCurvV
import Derived.Test.YtofjmnodfabohaaGreatDoorKPadB
namespace Go.Proofs.YtofjmnodfabohaaGreatDoor
open Go.RowKit
open CV

set_option maxRecDepth 100000 in
set_option maxHeartbeats 3200000 in
theorem rcf_range (p a b : Int) (w : World) (h : p < 5 ∨ 2000 < p) :
    Calls Tryz.prog 5 #[.int .i64 p, .int .i64 a, .int .i64 b] w fun e w' => e = .returned (.agg #[.int .i64 3, .int .i64 0]) ∧ Below w.heap.size w w' := by
  have hh : decide (p < 5) = true ∨ (decide (p < 5) = false ∧ decide (2000 < p) = true) := by
    simp only [decide_eq_true_eq, decide_eq_false_iff_not]; omega
  have C := fun W => hide (refF_any 3 0 W)
  clear h
  rcases hh with h | ⟨h, h2⟩
  all_goals
    go_enter Tryz.func5, Tryz.ntmps5
    go_wp2_with fail
    refine (C _).out.mono ?_
    rintro e w2 ⟨rfl, hb⟩
    have F1 := (FC.fresh w).below hb
    obtain ⟨d0, d1, f0, f1⟩ := F1.cells
    obtain ⟨p0, p1⟩ := F1.put 3 0
    have HB2 := hide (below_fault (u := .int .i64 3) (v := .int .i64 0) (below_new hb) (Nat.le_refl w.heap.size))
    clear hb F1
    go_wp2_with fail
    exact bodyPost_ret (v := .agg #[.int .i64 3, .int .i64 0]) (by simp [results, Tryz.results5, go_sem, p0, p1]) rfl ⟨rfl, HB2.out⟩

set_option maxRecDepth 100000 in
set_option maxHeartbeats 3200000 in
theorem rcf_kind (p a b : Int) (w : World) (h : 5 ≤ p ∧ p ≤ 2000) (hpr : prB p.toNat = false) :
    Calls Tryz.prog 5 #[.int .i64 p, .int .i64 a, .int .i64 b] w fun e w' => e = .returned (.agg #[.int .i64 7, .int .i64 0]) ∧ Below w.heap.size w w' := by
  obtain ⟨P, rfl⟩ : ∃ P : Nat, p = P := ⟨p.toNat, by omega⟩
  have q1 : decide ((P : Int) < 5) = false := by rw [decide_eq_false_iff_not]; omega
  have q2 : decide (2000 < (P : Int)) = false := by rw [decide_eq_false_iff_not]; omega
  have CI := fun W => hide (isPrime_ref (P : Int) W (by omega) (by omega))
  rw [hpr] at CI
  have C := fun W => hide (refF_any 7 0 W)
  clear hpr h
  go_enter Tryz.func5, Tryz.ntmps5
  go_wp2_with fail
  refine (CI _).out.mono ?_
  rintro e w1 ⟨rfl, rfl⟩
  go_wp2_with fail
  refine (C _).out.mono ?_
  rintro e w2 ⟨rfl, hb⟩
  have F1 := (FC.fresh w).below hb
  obtain ⟨d0, d1, f0, f1⟩ := F1.cells
  obtain ⟨p0, p1⟩ := F1.put 7 0
  have HB2 := hide (below_fault (u := .int .i64 7) (v := .int .i64 0) (below_new hb) (Nat.le_refl w.heap.size))
  clear hb F1
  go_wp2_with fail
  exact bodyPost_ret (v := .agg #[.int .i64 7, .int .i64 0]) (by simp [results, Tryz.results5, go_sem, p0, p1]) rfl ⟨rfl, HB2.out⟩

set_option maxRecDepth 100000 in
set_option maxHeartbeats 3200000 in
theorem rcf_a (p a b : Int) (w : World) (h : 5 ≤ p ∧ p ≤ 2000) (hpr : prB p.toNat = true) (hv : a < 0 ∨ p ≤ a) :
    Calls Tryz.prog 5 #[.int .i64 p, .int .i64 a, .int .i64 b] w fun e w' => e = .returned (.agg #[.int .i64 3, .int .i64 1]) ∧ Below w.heap.size w w' := by
  obtain ⟨P, rfl⟩ : ∃ P : Nat, p = P := ⟨p.toNat, by omega⟩
  have q1 : decide ((P : Int) < 5) = false := by rw [decide_eq_false_iff_not]; omega
  have q2 : decide (2000 < (P : Int)) = false := by rw [decide_eq_false_iff_not]; omega
  have CI := fun W => hide (isPrime_ref (P : Int) W (by omega) (by omega))
  rw [hpr] at CI
  have hh : decide (a < 0) = true ∨ (decide (a < 0) = false ∧ decide ((P : Int) ≤ a) = true) := by
    simp only [decide_eq_true_eq, decide_eq_false_iff_not]; omega
  clear hv
  have C := fun W => hide (refF_any 3 1 W)
  clear hpr h
  rcases hh with hh | ⟨hh, hh2⟩
  all_goals
    go_enter Tryz.func5, Tryz.ntmps5
    go_wp2_with fail
    refine (CI _).out.mono ?_
    rintro e w1 ⟨rfl, rfl⟩
    go_wp2_with fail
    refine (C _).out.mono ?_
    rintro e w2 ⟨rfl, hb⟩
    have F1 := (FC.fresh w).below hb
    obtain ⟨d0, d1, f0, f1⟩ := F1.cells
    obtain ⟨p0, p1⟩ := F1.put 3 1
    have HB2 := hide (below_fault (u := .int .i64 3) (v := .int .i64 1) (below_new hb) (Nat.le_refl w.heap.size))
    clear hb F1
    go_wp2_with fail
    exact bodyPost_ret (v := .agg #[.int .i64 3, .int .i64 1]) (by simp [results, Tryz.results5, go_sem, p0, p1]) rfl ⟨rfl, HB2.out⟩

set_option maxRecDepth 100000 in
set_option maxHeartbeats 3200000 in
theorem rcf_b (p a b : Int) (w : World) (h : 5 ≤ p ∧ p ≤ 2000) (hpr : prB p.toNat = true) (ha : 0 ≤ a ∧ a < p) (hv : b < 0 ∨ p ≤ b) :
    Calls Tryz.prog 5 #[.int .i64 p, .int .i64 a, .int .i64 b] w fun e w' => e = .returned (.agg #[.int .i64 3, .int .i64 2]) ∧ Below w.heap.size w w' := by
  obtain ⟨P, rfl⟩ : ∃ P : Nat, p = P := ⟨p.toNat, by omega⟩
  have q1 : decide ((P : Int) < 5) = false := by rw [decide_eq_false_iff_not]; omega
  have q2 : decide (2000 < (P : Int)) = false := by rw [decide_eq_false_iff_not]; omega
  have CI := fun W => hide (isPrime_ref (P : Int) W (by omega) (by omega))
  rw [hpr] at CI
  have qa1 : decide (a < 0) = false := by rw [decide_eq_false_iff_not]; omega
  have qa2 : decide ((P : Int) ≤ a) = false := by rw [decide_eq_false_iff_not]; omega
  clear ha
  have hh : decide (b < 0) = true ∨ (decide (b < 0) = false ∧ decide ((P : Int) ≤ b) = true) := by
    simp only [decide_eq_true_eq, decide_eq_false_iff_not]; omega
  clear hv
  have C := fun W => hide (refF_any 3 2 W)
  clear hpr h
  rcases hh with hh | ⟨hh, hh2⟩
  all_goals
    go_enter Tryz.func5, Tryz.ntmps5
    go_wp2_with fail
    refine (CI _).out.mono ?_
    rintro e w1 ⟨rfl, rfl⟩
    go_wp2_with fail
    refine (C _).out.mono ?_
    rintro e w2 ⟨rfl, hb⟩
    have F1 := (FC.fresh w).below hb
    obtain ⟨d0, d1, f0, f1⟩ := F1.cells
    obtain ⟨p0, p1⟩ := F1.put 3 2
    have HB2 := hide (below_fault (u := .int .i64 3) (v := .int .i64 2) (below_new hb) (Nat.le_refl w.heap.size))
    clear hb F1
    go_wp2_with fail
    exact bodyPost_ret (v := .agg #[.int .i64 3, .int .i64 2]) (by simp [results, Tryz.results5, go_sem, p0, p1]) rfl ⟨rfl, HB2.out⟩

set_option maxRecDepth 100000 in
set_option maxHeartbeats 3200000 in
theorem rcf_form (p a b : Int) (w : World) (h : 5 ≤ p ∧ p ≤ 2000) (hpr : prB p.toNat = true) (ha : 0 ≤ a ∧ a < p) (hb : 0 ≤ b ∧ b < p) (hd : (4 * a * a * a + 27 * b * b) % p = 0) :
    Calls Tryz.prog 5 #[.int .i64 p, .int .i64 a, .int .i64 b] w fun e w' => e = .returned (.agg #[.int .i64 6, .int .i64 0]) ∧ Below w.heap.size w w' := by
  obtain ⟨P, rfl⟩ : ∃ P : Nat, p = P := ⟨p.toNat, by omega⟩
  have q1 : decide ((P : Int) < 5) = false := by rw [decide_eq_false_iff_not]; omega
  have q2 : decide (2000 < (P : Int)) = false := by rw [decide_eq_false_iff_not]; omega
  have CI := fun W => hide (isPrime_ref (P : Int) W (by omega) (by omega))
  rw [hpr] at CI
  have qa1 : decide (a < 0) = false := by rw [decide_eq_false_iff_not]; omega
  have qa2 : decide ((P : Int) ≤ a) = false := by rw [decide_eq_false_iff_not]; omega
  have qb1 : decide (b < 0) = false := by rw [decide_eq_false_iff_not]; omega
  have qb2 : decide ((P : Int) ≤ b) = false := by rw [decide_eq_false_iff_not]; omega
  obtain ⟨v1, v2, v3, v4, v5, v6, v7, v8⟩ := cv_wraps h.2 ha hb
  obtain ⟨D, hD⟩ : ∃ D, 4 * a * a * a + 27 * b * b = D := ⟨_, rfl⟩
  have v6' := v6.trans hD
  clear v6
  rw [hD] at hd v7
  have hr : D.tmod (P : Int) = D % (P : Int) := tmod_emod v7
  have hP0 : (P : Int) ≠ 0 := by omega
  have C := fun W => hide (refF_any 6 0 W)
  rw [hd] at hr
  clear hd hD v7 v8 ha hb hpr h
  go_enter Tryz.func5, Tryz.ntmps5
  go_wp2_with fail
  refine (CI _).out.mono ?_
  rintro e w1 ⟨rfl, rfl⟩
  go_wp2_with fail
  refine (C _).out.mono ?_
  rintro e w2 ⟨rfl, hb⟩
  have F1 := (FC.fresh w).below hb
  obtain ⟨d0, d1, f0, f1⟩ := F1.cells
  obtain ⟨p0, p1⟩ := F1.put 6 0
  have HB2 := hide (below_fault (u := .int .i64 6) (v := .int .i64 0) (below_new hb) (Nat.le_refl w.heap.size))
  clear hb F1
  go_wp2_with fail
  exact bodyPost_ret (v := .agg #[.int .i64 6, .int .i64 0]) (by simp [results, Tryz.results5, go_sem, p0, p1]) rfl ⟨rfl, HB2.out⟩

set_option maxRecDepth 100000 in
set_option maxHeartbeats 3200000 in
theorem rcf_ok (p a b : Int) (w : World) (h : 5 ≤ p ∧ p ≤ 2000) (hpr : prB p.toNat = true) (ha : 0 ≤ a ∧ a < p) (hb : 0 ≤ b ∧ b < p) (hd : (4 * a * a * a + 27 * b * b) % p ≠ 0) :
    Calls Tryz.prog 5 #[.int .i64 p, .int .i64 a, .int .i64 b] w fun e w' => e = .returned (.agg #[.int .i64 0, .int .i64 0]) ∧ Below w.heap.size w w' := by
  obtain ⟨P, rfl⟩ : ∃ P : Nat, p = P := ⟨p.toNat, by omega⟩
  have q1 : decide ((P : Int) < 5) = false := by rw [decide_eq_false_iff_not]; omega
  have q2 : decide (2000 < (P : Int)) = false := by rw [decide_eq_false_iff_not]; omega
  have CI := fun W => hide (isPrime_ref (P : Int) W (by omega) (by omega))
  rw [hpr] at CI
  have qa1 : decide (a < 0) = false := by rw [decide_eq_false_iff_not]; omega
  have qa2 : decide ((P : Int) ≤ a) = false := by rw [decide_eq_false_iff_not]; omega
  have qb1 : decide (b < 0) = false := by rw [decide_eq_false_iff_not]; omega
  have qb2 : decide ((P : Int) ≤ b) = false := by rw [decide_eq_false_iff_not]; omega
  obtain ⟨v1, v2, v3, v4, v5, v6, v7, v8⟩ := cv_wraps h.2 ha hb
  obtain ⟨D, hD⟩ : ∃ D, 4 * a * a * a + 27 * b * b = D := ⟨_, rfl⟩
  have v6' := v6.trans hD
  clear v6
  rw [hD] at hd v7
  have hr : D.tmod (P : Int) = D % (P : Int) := tmod_emod v7
  have hP0 : (P : Int) ≠ 0 := by omega
  obtain ⟨r, hrr⟩ : ∃ r, D % (P : Int) = r := ⟨_, rfl⟩
  rw [hrr] at hr hd
  have hr0 : (r == 0) = false := by simpa using hd
  clear hd hD v7 v8 ha hb hrr hpr h
  go_enter Tryz.func5, Tryz.ntmps5
  go_wp2_with fail
  refine (CI _).out.mono ?_
  rintro e w1 ⟨rfl, rfl⟩
  go_wp2_with fail
  exact bodyPost_ret (v := .agg #[.int .i64 0, .int .i64 0]) (by simp [results, Tryz.results5, go_sem]) rfl ⟨rfl, bel_x _ _⟩

theorem rcf_any (p a b : Int) (w : World) :
    Calls Tryz.prog 5 #[.int .i64 p, .int .i64 a, .int .i64 b] w fun e w' => e = .returned (fv (chkC p a b)) ∧ Below w.heap.size w w' := by
  unfold chkC
  split
  · exact rcf_range p a b w (by assumption)
  · split
    · exact rcf_kind p a b w (by omega) (by assumption)
    · have hpr : prB p.toNat = true := by simpa using ‹¬ prB p.toNat = false›
      split
      · exact rcf_a p a b w (by omega) hpr (by assumption)
      · split
        · exact rcf_b p a b w (by omega) hpr (by omega) (by assumption)
        · split
          · exact rcf_form p a b w (by omega) hpr (by omega) (by omega) (by assumption)
          · exact rcf_ok p a b w (by omega) hpr (by omega) (by omega) (by assumption)

end Go.Proofs.YtofjmnodfabohaaGreatDoor
