/- The walk of padic.Teich. -/
import Derived.Test.YticgnjapgbjfiaaDoorPadA
namespace Go.Proofs.YticgnjapgbjfiaaDoor
open Go.RowKit

/-- Teich's word -/
noncomputable def teiF (p k a : Int) : Int × Int := if (padF p k).1 ≠ 0 then padF p k else if a < 0 ∨ p ≤ a then (3, 2) else (0, 0)
theorem teiF_bad {p k a : Int} (h : (padF p k).1 ≠ 0) : teiF p k a = padF p k := by unfold teiF; rw [if_pos h]
theorem teiF_out {p k a : Int} (h : (padF p k).1 = 0) (h2 : a < 0 ∨ p ≤ a) : teiF p k a = (3, 2) := by unfold teiF; rw [if_neg (by simp [h]), if_pos h2]
theorem teiF_ok {p k a : Int} (h : (padF p k).1 = 0) (h2 : ¬ (a < 0 ∨ p ≤ a)) : teiF p k a = (0, 0) := by unfold teiF; rw [if_neg (by simp [h]), if_neg h2]

theorem bel_cells (w : World) (o : Obj) : Below w.heap.size w (w.alloc o) := (Below.refl _ _).alloc (Nat.le_refl _) _
theorem teich_next {a m X : Int} {P j : Nat} (h : X % m = a ^ (P ^ j) % m) : X ^ P % m = a ^ (P ^ (j + 1)) % m := by
  rw [Nat.pow_succ, Int.pow_mul, ← pow_emod X, h, pow_emod]

set_option maxRecDepth 100000 in
set_option maxHeartbeats 3200000 in
theorem teich_any (p k a : Int) (w : World) (hT : TabW w) :
    Calls Tryd.prog 20 #[.int .i64 p, .int .i64 k, .int .i64 a] w (RetNF w (teiF p k a) (fun x => x = a ^ (p.toNat ^ k.toNat) % p ^ k.toNat)) := by
  have CL := fun W (hW : TabW W) => hide (plook_any p k W hW)
  unfold RetLook at CL
  have HT := hide (hT.alloc (.cells #[.int .i64 0, .int .i64 0] 24))
  clear hT
  by_cases hc : (padF p k).1 = 0
  · obtain ⟨hz, hp1, hp2, hpr, hk1, hk2, hm⟩ := padF_ok hc
    rw [if_pos hc, hz] at CL
    simp only [fv] at CL
    obtain ⟨P, rfl⟩ : ∃ P : Nat, p = P := ⟨p.toNat, by omega⟩
    obtain ⟨K, rfl⟩ : ∃ K : Nat, k = K := ⟨k.toNat, by omega⟩
    have HPK : Hid (((P : Int)).toNat = P ∧ ((K : Int)).toNat = K) := ⟨rfl, rfl⟩
    have hm0 : 0 < (P : Int) ^ K := Int.pow_pos (by omega)
    rw [show ((K : Int)).toNat = K from rfl] at CL hm
    obtain ⟨M, hM⟩ : ∃ M, (P : Int) ^ K = M := ⟨_, rfl⟩
    rw [hM] at CL hm hm0
    have HM := hide hM
    have HC := hide hc
    clear hz hpr hM hc
    by_cases ha : a < 0 ∨ (P : Int) ≤ a
    · have HE := hide (teiF_out HC.out ha)
      have C := fun W => hide (pfault_any 3 2 W)
      have hh : decide (a < 0) = true ∨ (decide (a < 0) = false ∧ decide ((P : Int) ≤ a) = true) := by
        simp only [decide_eq_true_eq, decide_eq_false_iff_not]; omega
      clear ha
      rcases hh with h | ⟨h, h2⟩
      all_goals
        go_enter Tryd.func20, Tryd.ntmps20
        go_wp2_with fail
        refine (CL _ HT.out).out.mono ?_
        rintro e w1 ⟨rfl, hb⟩
        have F0 := hide (((FC.fresh w).below hb).below (bel_fz w1))
        have HB := hide ((below_new hb).trans ((bel_fz w1).mono (below_new hb).size))
        clear hb
        go_wp2_with fail
        refine (C _).out.mono ?_
        rintro e w2 ⟨rfl, hb⟩
        have F1 := F0.out.below hb
        obtain ⟨d0, d1, f0, f1⟩ := F1.cells
        obtain ⟨p0, p1⟩ := F1.put 3 2
        have HB2 := hide (below_fault (u := .int .i64 3) (v := .int .i64 2) (HB.out.trans (hb.mono HB.out.size)) (Nat.le_refl w.heap.size))
        clear hb F1
        go_wp2_with fail
        exact bodyPost_ret (v := .tuple #[.int .i64 0, fv (3, 2)]) (by simp [results, Tryd.results20, go_sem, fv, p0, p1]) rfl ⟨0, by rw [HE.out], fun h => by rw [HE.out] at h; simp at h, fun _ => rfl, HB2.out⟩
    · have HE := hide (teiF_ok HC.out ha)
      have q1 : decide (a < 0) = false := by rw [decide_eq_false_iff_not]; omega
      have q2 : decide ((P : Int) ≤ a) = false := by rw [decide_eq_false_iff_not]; omega
      have hab : 0 ≤ a ∧ a ≤ 1000000 := by omega
      have hpb : P ≤ 1000000 := by omega
      clear ha hp1 hp2
      go_enter Tryd.func20, Tryd.ntmps20
      go_wp2_with fail
      refine (CL _ HT.out).out.mono ?_
      rintro e w1 ⟨rfl, hb⟩
      have F0 := hide (((FC.fresh w).below hb).below (bel_fz w1))
      have HB := hide ((below_new hb).trans ((bel_fz w1).mono (below_new hb).size))
      clear hb
      go_wp2_with fail
      go_loopw [2, 29] (fun x i wr => ∃ (j n : Nat) (X : Int), i = .int .i64 j ∧ x = .int .i64 X ∧ j ≤ K ∧ 0 ≤ X ∧ X ≤ 1000000000000000000 ∧ wr = (w1.alloc (.cells #[.int .i64 0, .int .i64 0] 24)).drewN n ∧ Hid (X % M = a ^ (P ^ j) % M) ∧ Hid (0 < j → X < M)) (fun _ i _ => K - (intOf i).toNat)
      case atStart => exact ⟨0, 0, a, rfl, rfl, by omega, by omega, by omega, rfl, by unfold Hid; rw [Nat.pow_zero, Int.pow_succ, Int.pow_zero, Int.one_mul], fun h => by omega⟩
      case round =>
        obtain ⟨j, n, X, rfl, rfl, hj, hX0, hX1, rfl, HX, HXM⟩ := hrel
        by_cases hjK : j < K
        · have CR := fun W => hide (raise_any X M P W hm0 (by omega) (by omega) (by omega) (by omega))
          have HXN := hide (teich_next HX.out)
          have y0 := Int.emod_nonneg (X ^ P) (b := M) (by omega)
          have y1 := Int.emod_lt_of_pos (X ^ P) hm0
          obtain ⟨Y, hY⟩ : ∃ Y, X ^ P % M = Y := ⟨_, rfl⟩
          rw [hY] at CR HXN y0 y1
          have HYM : Hid (Y % M = a ^ (P ^ (j + 1)) % M) := by unfold Hid; rw [Int.emod_eq_of_lt y0 y1]; exact HXN.out
          clear hY
          go_wp2_with fail
          refine (CR _).out.mono ?_
          rintro e w2 ⟨rfl, n2, rfl⟩
          go_wp2_with fail
          exact ⟨⟨j + 1, _, Y, by simp, rfl, by omega, y0, by omega, rfl, HYM, fun _ => y1⟩, by simp [intOf]; omega⟩
        · obtain rfl : j = K := by omega
          have HR : Hid (X = a ^ (P ^ j) % M) := by
            unfold Hid
            rw [← HX.out, Int.emod_eq_of_lt hX0 (HXM.out (by omega))]
          have F1 := F0.out.below (below_drewN (Below.refl _ _) n)
          obtain ⟨d0, d1, f0, f1⟩ := F1.cells
          obtain ⟨p0, p1⟩ := F1.put 0 0
          have HB2 := hide (below_fault (u := .int .i64 0) (v := .int .i64 0) (below_drewN HB.out n) (Nat.le_refl w.heap.size))
          clear F1
          go_wp2_with fail
          exact bodyPost_ret (v := .tuple #[.int .i64 X, fv (0, 0)]) (by simp [results, Tryd.results20, go_sem, fv, p0, p1]) rfl ⟨X, by rw [HE.out], fun _ => by rw [HPK.out.1, HPK.out.2, HM.out]; exact HR.out, fun h => by rw [HE.out] at h; simp at h, HB2.out⟩
  · have HE := hide (teiF_bad (a := a) hc)
    have HC := hide hc
    obtain ⟨⟨x, y⟩, hF⟩ : ∃ F, padF p k = F := ⟨_, rfl⟩
    rw [hF] at CL HE HC
    rw [if_neg (by rw [hF] at hc; exact hc)] at CL
    have qx : (x != 0) = true := by have := HC.out; simpa using this
    simp only [fv] at CL
    clear hF hc
    go_enter Tryd.func20, Tryd.ntmps20
    go_wp2_with fail
    refine (CL _ HT.out).out.mono ?_
    rintro e w1 ⟨rfl, hb⟩
    have F1 := (((FC.fresh w).below hb).below (bel_cells w1 (.cells #[.int .i64 x, .int .i64 y] 24)))
    have HB := hide ((below_new hb).trans ((bel_cells w1 (.cells #[.int .i64 x, .int .i64 y] 24)).mono (below_new hb).size))
    obtain ⟨d0, d1, f0, f1⟩ := F1.cells
    have HF := hide F1
    clear hb F1
    go_wp2_with fail
    go_region
    obtain ⟨p0, p1⟩ := HF.out.put x y
    have HB2 := hide (below_drewN (below_fault (u := .int .i64 x) (v := .int .i64 y) HB.out (Nat.le_refl w.heap.size)) 1)
    go_wp2_with fail
    exact bodyPost_ret (v := .tuple #[.int .i64 0, fv (x, y)]) (by simp [results, Tryd.results20, go_sem, fv, p0, p1]) rfl ⟨0, by rw [HE.out], fun h => by rw [HE.out] at h; exact absurd h HC.out, fun _ => rfl, HB2.out⟩
end Go.Proofs.YticgnjapgbjfiaaDoor
