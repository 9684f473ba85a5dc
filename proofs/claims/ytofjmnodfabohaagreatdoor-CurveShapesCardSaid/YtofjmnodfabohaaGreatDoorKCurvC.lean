/- The walks of curve.fault, prime.Is (at small numbers), curve.Check and of the answers' CurveFault. -/
import Derived.Test.YtofjmnodfabohaaGreatDoorKIsW
import Derived.Test.YtofjmnodfabohaaGreatDoorK1
import Derived.Deep.QuietTactic
namespace Go.Proofs.YtofjmnodfabohaaGreatDoor
open Go.RowKit

theorem lookK_oneC {n : Int} (h : okB n = true) : lookK 0 [n] = (0, 0) := by rw [lookK, if_pos h, lookK]

set_option maxRecDepth 100000 in
set_option maxHeartbeats 3200000 in
theorem cIs_any (n : Nat) (w : World) (h2 : 2 ≤ n) (hn : n ≤ 1000000) (hT : TabW w) :
    Calls Tryz.prog 25 #[.int .i64 n] w fun e w' => e = .returned (.tuple #[.bool (prB n), fv (0, 0)]) ∧ Below w.heap.size w w' := by
  have L : ∀ (W : World) (g : Nat), g = W.heap.size → Hid (Calls Tryz.prog 40 #[.slice (some ⟨g, 0, none⟩) 1 1] (W.alloc (.cells #[.int .i64 n] 3)) (RetFault (W.alloc (.cells #[.int .i64 n] 3)) (lookK 0 [(n : Int)]))) := fun W g hg => hg ▸ look_any _ 1 1 [(n : Int)] _ rfl (by omega) (ints_new W [(n : Int)] _)
  rw [lookK_oneC (show okB (n : Int) = true by unfold okB; simp; omega)] at L
  have CI := fun W (hW : TabW W) => hide (is_any n W h2 (by omega) hW)
  rw [isB_small h2 hn] at CI
  have HT := hide hT
  have q1 : decide (1 < (n : Int)) = true := by rw [decide_eq_true_eq]; omega
  clear hT h2 hn
  go_enter Tryz.func25, Tryz.ntmps25
  go_wp2_with fail
  refine (L _ _ (by simp)).out.mono ?_
  rintro e w1 ⟨rfl, hb⟩
  simp only [fv]
  have F1 := (((FC.fresh w).below ((Below.refl _ _).alloc (Nat.le_refl _) (.cells #[.int .i64 n] 3))).below hb)
  have hlt := F1.lt
  have HB := hide (below_new (below_new2 hb))
  have HF := hide (F1.below ((Below.refl _ _).alloc (Nat.le_refl _) (.cells #[.int .i64 0, .int .i64 0] 23)))
  have HT2 := hide ((HT.out.below HB.out).alloc (.cells #[.int .i64 0, .int .i64 0] 23))
  have HB1 := hide (HB.out.alloc HB.out.size (.cells #[.int .i64 0, .int .i64 0] 23))
  clear hb F1
  go_wp2_with fail
  refine (CI _ HT2.out).out.mono ?_
  rintro e w2 ⟨rfl, hb⟩
  have F2 := HF.out.below hb
  obtain ⟨d0, d1, f0, f1⟩ := F2.cells
  obtain ⟨p0, p1⟩ := F2.put 0 0
  have HB2 := hide (below_fault (u := .int .i64 0) (v := .int .i64 0) (HB1.out.trans (hb.mono HB1.out.size)) (Nat.le_refl w.heap.size))
  clear hb F2
  go_wp2_with fail
  exact bodyPost_ret (v := .tuple #[.bool (prB n), fv (0, 0)]) (by simp [results, Tryz.results25, go_sem, fv, p0, p1]) rfl ⟨by simp [fv], HB2.out⟩
set_option maxRecDepth 100000 in
set_option maxHeartbeats 400000 in
theorem cfault_any (c n : Int) (w : World) :
    Calls Tryz.prog 17 #[.int .i64 c, .int .i64 n] w fun e w' => e = .returned (.agg #[.int .i64 c, .int .i64 n]) ∧ Below w.heap.size w w' := by
  go_enter Tryz.func17, Tryz.ntmps17
  go_wp2
  exact bodyPost_ret (v := .agg #[.int .i64 c, .int .i64 n]) (by simp [results, Tryz.results17, go_sem]) rfl ⟨rfl, (Below.refl _ _).alloc (Nat.le_refl _) _⟩

theorem mul_le2 {x y p q : Int} (hx : 0 ≤ x) (hx2 : x ≤ p) (hy : 0 ≤ y) (hy2 : y ≤ q) : 0 ≤ x * y ∧ x * y ≤ p * q :=
  ⟨Int.mul_nonneg hx hy, Int.mul_le_mul hx2 hy2 hy (Int.le_trans hx hx2)⟩
theorem bel_x (w : World) (o : Obj) : Below w.heap.size w (w.alloc o) := (Below.refl _ _).alloc (Nat.le_refl _) _
/-- a curve's fault -/
noncomputable def chkC (p a b : Int) : Int × Int :=
  if p < 5 ∨ 2000 < p then (3, 0) else if prB p.toNat = false then (7, 0) else if a < 0 ∨ p ≤ a then (3, 1) else if b < 0 ∨ p ≤ b then (3, 2) else if (4 * a * a * a + 27 * b * b) % p = 0 then (6, 0) else (0, 0)
/-- a curve -/
structure OkCv (p a b : Int) : Prop where
  p1 : 5 ≤ p
  p2 : p ≤ 2000
  pr : prB p.toNat = true
  a1 : 0 ≤ a
  a2 : a < p
  b1 : 0 ≤ b
  b2 : b < p
  d : (4 * a * a * a + 27 * b * b) % p ≠ 0
theorem OkCv.chk {p a b : Int} (h : OkCv p a b) : chkC p a b = (0, 0) := by
  obtain ⟨h1, h2, h3, h4, h5, h6, h7, h8⟩ := h
  unfold chkC
  rw [if_neg (by omega), if_neg (by rw [h3]; simp), if_neg (by omega), if_neg (by omega), if_neg h8]
theorem chk_zero {p a b : Int} (h : (chkC p a b).1 = 0) : OkCv p a b := by
  unfold chkC at h
  split at h
  · simp at h
  · split at h
    · simp at h
    · split at h
      · simp at h
      · split at h
        · simp at h
        · split at h
          · simp at h
          · rename_i h1 h2 h3 h4 h5
            exact ⟨by omega, by omega, by simpa using h2, by omega, by omega, by omega, by omega, h5⟩
theorem chk_cases (p a b : Int) : OkCv p a b ∨ ∃ c k, chkC p a b = (c, k) ∧ c ≠ 0 := by
  by_cases h : (chkC p a b).1 = 0
  · exact .inl (chk_zero h)
  · exact .inr ⟨_, _, rfl, h⟩
/-- the sums and products of a curve's number -/
theorem cv_wraps {p a b : Int} (hp : p ≤ 2000) (ha : 0 ≤ a ∧ a < p) (hb : 0 ≤ b ∧ b < p) :
    IntKind.i64.wrap (4 * a) = 4 * a ∧ IntKind.i64.wrap (4 * a * a) = 4 * a * a ∧ IntKind.i64.wrap (4 * a * a * a) = 4 * a * a * a ∧ IntKind.i64.wrap (27 * b) = 27 * b ∧ IntKind.i64.wrap (27 * b * b) = 27 * b * b ∧ IntKind.i64.wrap (4 * a * a * a + 27 * b * b) = 4 * a * a * a + 27 * b * b ∧ (0 ≤ 4 * a * a * a + 27 * b * b ∧ 4 * a * a * a + 27 * b * b ≤ 100000000000) := by
  have e1 := mul_le2 (x := 4 * a) (y := a) (p := 8000) (q := 2000) (by omega) (by omega) (by omega) (by omega)
  have e2 := mul_le2 (x := 4 * a * a) (y := a) (p := 16000000) (q := 2000) (by omega) (by omega) (by omega) (by omega)
  have e3 := mul_le2 (x := 27 * b) (y := b) (p := 54000) (q := 2000) (by omega) (by omega) (by omega) (by omega)
  simp only [IntKind.wrap_i64]
  refine ⟨by omega, by omega, by omega, by omega, by omega, by omega, by omega, by omega⟩
theorem tmod_emod {x p : Int} (hx : 0 ≤ x) : x.tmod p = x % p := Int.tmod_eq_emod_of_nonneg hx

set_option maxRecDepth 100000 in
set_option maxHeartbeats 3200000 in
theorem check_range (p a b : Int) (w : World) (_hT : TabW w) (h : p < 5 ∨ 2000 < p) :
    Calls Tryz.prog 15 #[.int .i64 p, .int .i64 a, .int .i64 b] w fun e w' => e = .returned (.agg #[.int .i64 3, .int .i64 0]) ∧ Below w.heap.size w w' := by
  have hh : decide (p < 5) = true ∨ (decide (p < 5) = false ∧ decide (2000 < p) = true) := by
    simp only [decide_eq_true_eq, decide_eq_false_iff_not]; omega
  have C := fun W => hide (cfault_any 3 0 W)
  clear _hT h
  rcases hh with h | ⟨h, h2⟩
  all_goals
    go_enter Tryz.func15, Tryz.ntmps15
    go_wp2_with fail
    refine (C _).out.mono ?_
    rintro e w1 ⟨rfl, hb⟩
    have F1 := (FC.fresh w).below hb
    obtain ⟨d0, d1, f0, f1⟩ := F1.cells
    obtain ⟨p0, p1⟩ := F1.put 3 0
    have HB2 := hide (below_fault (u := .int .i64 3) (v := .int .i64 0) (below_new hb) (Nat.le_refl w.heap.size))
    clear hb F1
    go_wp2_with fail
    exact bodyPost_ret (v := .agg #[.int .i64 3, .int .i64 0]) (by simp [results, Tryz.results15, go_sem, p0, p1]) rfl ⟨rfl, HB2.out⟩

set_option maxRecDepth 100000 in
set_option maxHeartbeats 3200000 in
theorem check_kind (p a b : Int) (w : World) (hT : TabW w) (h : 5 ≤ p ∧ p ≤ 2000) (hpr : prB p.toNat = false) :
    Calls Tryz.prog 15 #[.int .i64 p, .int .i64 a, .int .i64 b] w fun e w' => e = .returned (.agg #[.int .i64 7, .int .i64 0]) ∧ Below w.heap.size w w' := by
  obtain ⟨P, rfl⟩ : ∃ P : Nat, p = P := ⟨p.toNat, by omega⟩
  have q1 : decide ((P : Int) < 5) = false := by rw [decide_eq_false_iff_not]; omega
  have q2 : decide (2000 < (P : Int)) = false := by rw [decide_eq_false_iff_not]; omega
  have CI := fun W (hW : TabW W) => hide (cIs_any P W (by omega) (by omega) hW)
  rw [show ((P : Int)).toNat = P from rfl] at hpr
  rw [hpr] at CI
  simp only [fv] at CI
  have HT := hide (hT.alloc (.cells #[.int .i64 0, .int .i64 0] 23))
  have C := fun W => hide (cfault_any 7 0 W)
  clear hT hpr h
  go_enter Tryz.func15, Tryz.ntmps15
  go_wp2_with fail
  refine (CI _ HT.out).out.mono ?_
  rintro e w1 ⟨rfl, hb⟩
  have F0 := hide (((FC.fresh w).below hb).below (bel_fz w1))
  have HB := hide ((below_new hb).trans ((bel_fz w1).mono (below_new hb).size))
  clear hb
  go_wp2_with fail
  refine (C _).out.mono ?_
  rintro e w2 ⟨rfl, hb⟩
  have F1 := F0.out.below hb
  obtain ⟨d0, d1, f0, f1⟩ := F1.cells
  obtain ⟨p0, p1⟩ := F1.put 7 0
  have HB2 := hide (below_fault (u := .int .i64 7) (v := .int .i64 0) (HB.out.trans (hb.mono HB.out.size)) (Nat.le_refl w.heap.size))
  clear hb F1
  go_wp2_with fail
  exact bodyPost_ret (v := .agg #[.int .i64 7, .int .i64 0]) (by simp [results, Tryz.results15, go_sem, p0, p1]) rfl ⟨rfl, HB2.out⟩

set_option maxRecDepth 100000 in
set_option maxHeartbeats 3200000 in
theorem check_a (p a b : Int) (w : World) (hT : TabW w) (h : 5 ≤ p ∧ p ≤ 2000) (hpr : prB p.toNat = true) (hv : a < 0 ∨ p ≤ a) :
    Calls Tryz.prog 15 #[.int .i64 p, .int .i64 a, .int .i64 b] w fun e w' => e = .returned (.agg #[.int .i64 3, .int .i64 1]) ∧ Below w.heap.size w w' := by
  obtain ⟨P, rfl⟩ : ∃ P : Nat, p = P := ⟨p.toNat, by omega⟩
  have q1 : decide ((P : Int) < 5) = false := by rw [decide_eq_false_iff_not]; omega
  have q2 : decide (2000 < (P : Int)) = false := by rw [decide_eq_false_iff_not]; omega
  have CI := fun W (hW : TabW W) => hide (cIs_any P W (by omega) (by omega) hW)
  rw [show ((P : Int)).toNat = P from rfl] at hpr
  rw [hpr] at CI
  simp only [fv] at CI
  have HT := hide (hT.alloc (.cells #[.int .i64 0, .int .i64 0] 23))
  have hh : decide (a < 0) = true ∨ (decide (a < 0) = false ∧ decide ((P : Int) ≤ a) = true) := by
    simp only [decide_eq_true_eq, decide_eq_false_iff_not]; omega
  clear hv
  have C := fun W => hide (cfault_any 3 1 W)
  clear hT hpr h
  rcases hh with hh | ⟨hh, hh2⟩
  all_goals
    go_enter Tryz.func15, Tryz.ntmps15
    go_wp2_with fail
    refine (CI _ HT.out).out.mono ?_
    rintro e w1 ⟨rfl, hb⟩
    have F0 := hide (((FC.fresh w).below hb).below (bel_fz w1))
    have HB := hide ((below_new hb).trans ((bel_fz w1).mono (below_new hb).size))
    clear hb
    go_wp2_with fail
    have F2 := hide (F0.out.below (bel_x _ (.cells #[.int .i64 a, .int .i64 b] 3)))
    have HB2' := hide (HB.out.trans ((bel_x _ (.cells #[.int .i64 a, .int .i64 b] 3)).mono HB.out.size))
    refine wp_loop_rounds 3 ?_
    rw [rounds_succ]
    go_wp2_with fail
    refine (C _).out.mono ?_
    rintro e w2 ⟨rfl, hb⟩
    have F1 := F2.out.below hb
    obtain ⟨d0, d1, f0, f1⟩ := F1.cells
    obtain ⟨p0, p1⟩ := F1.put 3 1
    have HB2 := hide (below_fault (u := .int .i64 3) (v := .int .i64 1) (HB2'.out.trans (hb.mono HB2'.out.size)) (Nat.le_refl w.heap.size))
    clear hb F1
    go_wp2_with fail
    exact bodyPost_ret (v := .agg #[.int .i64 3, .int .i64 1]) (by simp [results, Tryz.results15, go_sem, p0, p1]) rfl ⟨rfl, HB2.out⟩

set_option maxRecDepth 100000 in
set_option maxHeartbeats 3200000 in
theorem check_b (p a b : Int) (w : World) (hT : TabW w) (h : 5 ≤ p ∧ p ≤ 2000) (hpr : prB p.toNat = true) (ha : 0 ≤ a ∧ a < p) (hv : b < 0 ∨ p ≤ b) :
    Calls Tryz.prog 15 #[.int .i64 p, .int .i64 a, .int .i64 b] w fun e w' => e = .returned (.agg #[.int .i64 3, .int .i64 2]) ∧ Below w.heap.size w w' := by
  obtain ⟨P, rfl⟩ : ∃ P : Nat, p = P := ⟨p.toNat, by omega⟩
  have q1 : decide ((P : Int) < 5) = false := by rw [decide_eq_false_iff_not]; omega
  have q2 : decide (2000 < (P : Int)) = false := by rw [decide_eq_false_iff_not]; omega
  have CI := fun W (hW : TabW W) => hide (cIs_any P W (by omega) (by omega) hW)
  rw [show ((P : Int)).toNat = P from rfl] at hpr
  rw [hpr] at CI
  simp only [fv] at CI
  have HT := hide (hT.alloc (.cells #[.int .i64 0, .int .i64 0] 23))
  have qa1 : decide (a < 0) = false := by rw [decide_eq_false_iff_not]; omega
  have qa2 : decide ((P : Int) ≤ a) = false := by rw [decide_eq_false_iff_not]; omega
  clear ha
  have hh : decide (b < 0) = true ∨ (decide (b < 0) = false ∧ decide ((P : Int) ≤ b) = true) := by
    simp only [decide_eq_true_eq, decide_eq_false_iff_not]; omega
  clear hv
  have C := fun W => hide (cfault_any 3 2 W)
  clear hT hpr h
  rcases hh with hh | ⟨hh, hh2⟩
  all_goals
    go_enter Tryz.func15, Tryz.ntmps15
    go_wp2_with fail
    refine (CI _ HT.out).out.mono ?_
    rintro e w1 ⟨rfl, hb⟩
    have F0 := hide (((FC.fresh w).below hb).below (bel_fz w1))
    have HB := hide ((below_new hb).trans ((bel_fz w1).mono (below_new hb).size))
    clear hb
    go_wp2_with fail
    have F2 := hide (F0.out.below (bel_x _ (.cells #[.int .i64 a, .int .i64 b] 3)))
    have HB2' := hide (HB.out.trans ((bel_x _ (.cells #[.int .i64 a, .int .i64 b] 3)).mono HB.out.size))
    refine wp_loop_rounds 3 ?_
    rw [rounds_succ]
    go_wp2_with fail
    rw [rounds_succ]
    go_wp2_with fail
    refine (C _).out.mono ?_
    rintro e w2 ⟨rfl, hb⟩
    have F1 := F2.out.below hb
    obtain ⟨d0, d1, f0, f1⟩ := F1.cells
    obtain ⟨p0, p1⟩ := F1.put 3 2
    have HB2 := hide (below_fault (u := .int .i64 3) (v := .int .i64 2) (HB2'.out.trans (hb.mono HB2'.out.size)) (Nat.le_refl w.heap.size))
    clear hb F1
    go_wp2_with fail
    exact bodyPost_ret (v := .agg #[.int .i64 3, .int .i64 2]) (by simp [results, Tryz.results15, go_sem, p0, p1]) rfl ⟨rfl, HB2.out⟩

set_option maxRecDepth 100000 in
set_option maxHeartbeats 3200000 in
theorem check_form (p a b : Int) (w : World) (hT : TabW w) (h : 5 ≤ p ∧ p ≤ 2000) (hpr : prB p.toNat = true) (ha : 0 ≤ a ∧ a < p) (hb : 0 ≤ b ∧ b < p) (hd : (4 * a * a * a + 27 * b * b) % p = 0) :
    Calls Tryz.prog 15 #[.int .i64 p, .int .i64 a, .int .i64 b] w fun e w' => e = .returned (.agg #[.int .i64 6, .int .i64 0]) ∧ Below w.heap.size w w' := by
  obtain ⟨P, rfl⟩ : ∃ P : Nat, p = P := ⟨p.toNat, by omega⟩
  have q1 : decide ((P : Int) < 5) = false := by rw [decide_eq_false_iff_not]; omega
  have q2 : decide (2000 < (P : Int)) = false := by rw [decide_eq_false_iff_not]; omega
  have CI := fun W (hW : TabW W) => hide (cIs_any P W (by omega) (by omega) hW)
  rw [show ((P : Int)).toNat = P from rfl] at hpr
  rw [hpr] at CI
  simp only [fv] at CI
  have HT := hide (hT.alloc (.cells #[.int .i64 0, .int .i64 0] 23))
  have qa1 : decide (a < 0) = false := by rw [decide_eq_false_iff_not]; omega
  have qa2 : decide ((P : Int) ≤ a) = false := by rw [decide_eq_false_iff_not]; omega
  have qb1 : decide (b < 0) = false := by rw [decide_eq_false_iff_not]; omega
  have qb2 : decide ((P : Int) ≤ b) = false := by rw [decide_eq_false_iff_not]; omega
  obtain ⟨v1, v2, v3, v4, v5, v6, v7, v8⟩ := cv_wraps h.2 ha hb
  obtain ⟨D, hD⟩ : ∃ D, 4 * a * a * a + 27 * b * b = D := ⟨_, rfl⟩
  have v6' := v6.trans hD
  clear v6
  rw [hD] at hd v7
  have hr : D.tmod (P : Int) = D % (P : Int) := tmod_emod v7
  have hP0 : (P : Int) ≠ 0 := by omega
  rw [hd] at hr
  clear hd hD v7 v8 ha hb
  have C := fun W => hide (cfault_any 6 0 W)
  clear hT hpr h
  go_enter Tryz.func15, Tryz.ntmps15
  go_wp2_with fail
  refine (CI _ HT.out).out.mono ?_
  rintro e w1 ⟨rfl, hb⟩
  have F0 := hide (((FC.fresh w).below hb).below (bel_fz w1))
  have HB := hide ((below_new hb).trans ((bel_fz w1).mono (below_new hb).size))
  clear hb
  go_wp2_with fail
  have F2 := hide (F0.out.below (bel_x _ (.cells #[.int .i64 a, .int .i64 b] 3)))
  have HB2' := hide (HB.out.trans ((bel_x _ (.cells #[.int .i64 a, .int .i64 b] 3)).mono HB.out.size))
  refine wp_loop_rounds 3 ?_
  rw [rounds_succ]
  go_wp2_with fail
  rw [rounds_succ]
  go_wp2_with fail
  rw [rounds_succ]
  go_wp2_with fail
  refine (C _).out.mono ?_
  rintro e w2 ⟨rfl, hb⟩
  have F1 := F2.out.below hb
  obtain ⟨d0, d1, f0, f1⟩ := F1.cells
  obtain ⟨p0, p1⟩ := F1.put 6 0
  have HB2 := hide (below_fault (u := .int .i64 6) (v := .int .i64 0) (HB2'.out.trans (hb.mono HB2'.out.size)) (Nat.le_refl w.heap.size))
  clear hb F1
  go_wp2_with fail
  exact bodyPost_ret (v := .agg #[.int .i64 6, .int .i64 0]) (by simp [results, Tryz.results15, go_sem, p0, p1]) rfl ⟨rfl, HB2.out⟩

set_option maxRecDepth 100000 in
set_option maxHeartbeats 3200000 in
theorem check_ok (p a b : Int) (w : World) (hT : TabW w) (h : 5 ≤ p ∧ p ≤ 2000) (hpr : prB p.toNat = true) (ha : 0 ≤ a ∧ a < p) (hb : 0 ≤ b ∧ b < p) (hd : (4 * a * a * a + 27 * b * b) % p ≠ 0) :
    Calls Tryz.prog 15 #[.int .i64 p, .int .i64 a, .int .i64 b] w fun e w' => e = .returned (.agg #[.int .i64 0, .int .i64 0]) ∧ Below w.heap.size w w' := by
  obtain ⟨P, rfl⟩ : ∃ P : Nat, p = P := ⟨p.toNat, by omega⟩
  have q1 : decide ((P : Int) < 5) = false := by rw [decide_eq_false_iff_not]; omega
  have q2 : decide (2000 < (P : Int)) = false := by rw [decide_eq_false_iff_not]; omega
  have CI := fun W (hW : TabW W) => hide (cIs_any P W (by omega) (by omega) hW)
  rw [show ((P : Int)).toNat = P from rfl] at hpr
  rw [hpr] at CI
  simp only [fv] at CI
  have HT := hide (hT.alloc (.cells #[.int .i64 0, .int .i64 0] 23))
  have qa1 : decide (a < 0) = false := by rw [decide_eq_false_iff_not]; omega
  have qa2 : decide ((P : Int) ≤ a) = false := by rw [decide_eq_false_iff_not]; omega
  have qb1 : decide (b < 0) = false := by rw [decide_eq_false_iff_not]; omega
  have qb2 : decide ((P : Int) ≤ b) = false := by rw [decide_eq_false_iff_not]; omega
  obtain ⟨v1, v2, v3, v4, v5, v6, v7, v8⟩ := cv_wraps h.2 ha hb
  obtain ⟨D, hD⟩ : ∃ D, 4 * a * a * a + 27 * b * b = D := ⟨_, rfl⟩
  have v6' := v6.trans hD
  clear v6
  rw [hD] at hd v7
  have hr : D.tmod (P : Int) = D % (P : Int) := tmod_emod v7
  have hP0 : (P : Int) ≠ 0 := by omega
  obtain ⟨r, hrr⟩ : ∃ r, D % (P : Int) = r := ⟨_, rfl⟩
  rw [hrr] at hr hd
  have hr0 : (r == 0) = false := by simpa using hd
  clear hd hD v7 v8 ha hb hrr
  clear hT hpr h
  go_enter Tryz.func15, Tryz.ntmps15
  go_wp2_with fail
  refine (CI _ HT.out).out.mono ?_
  rintro e w1 ⟨rfl, hb⟩
  have F0 := hide (((FC.fresh w).below hb).below (bel_fz w1))
  have HB := hide ((below_new hb).trans ((bel_fz w1).mono (below_new hb).size))
  clear hb
  go_wp2_with fail
  have F2 := hide (F0.out.below (bel_x _ (.cells #[.int .i64 a, .int .i64 b] 3)))
  have HB2' := hide (HB.out.trans ((bel_x _ (.cells #[.int .i64 a, .int .i64 b] 3)).mono HB.out.size))
  refine wp_loop_rounds 3 ?_
  rw [rounds_succ]
  go_wp2_with fail
  rw [rounds_succ]
  go_wp2_with fail
  rw [rounds_succ]
  obtain ⟨d0, d1, f0, f1⟩ := F2.out.cells
  obtain ⟨p0, p1⟩ := F2.out.put 0 0
  have HB3 := hide (below_fault (u := .int .i64 0) (v := .int .i64 0) HB2'.out (Nat.le_refl w.heap.size))
  go_wp2_with fail
  exact bodyPost_ret (v := .agg #[.int .i64 0, .int .i64 0]) (by simp [results, Tryz.results15, go_sem, p0, p1]) rfl ⟨rfl, HB3.out⟩

theorem check_any (p a b : Int) (w : World) (hT : TabW w) :
    Calls Tryz.prog 15 #[.int .i64 p, .int .i64 a, .int .i64 b] w fun e w' => e = .returned (fv (chkC p a b)) ∧ Below w.heap.size w w' := by
  unfold chkC
  split
  · exact check_range p a b w hT (by assumption)
  · split
    · exact check_kind p a b w hT (by omega) (by assumption)
    · have hpr : prB p.toNat = true := by simpa using ‹¬ prB p.toNat = false›
      split
      · exact check_a p a b w hT (by omega) hpr (by assumption)
      · split
        · exact check_b p a b w hT (by omega) hpr (by omega) (by assumption)
        · split
          · exact check_form p a b w hT (by omega) hpr (by omega) (by omega) (by assumption)
          · exact check_ok p a b w hT (by omega) hpr (by omega) (by omega) (by assumption)
end Go.Proofs.YtofjmnodfabohaaGreatDoor
