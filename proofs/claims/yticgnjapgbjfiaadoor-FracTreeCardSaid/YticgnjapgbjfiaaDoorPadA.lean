/- The walks of prime.Is (at small numbers), padic.fault and padic.look. -/
import Derived.Test.YticgnjapgbjfiaaDoorIsW
import Derived.Test.YticgnjapgbjfiaaDoorWholeB
import Derived.Test.YticgnjapgbjfiaaDoorPolyLaw
namespace Go.Proofs.YticgnjapgbjfiaaDoor
open Go.RowKit

theorem lookK_one {n : Int} (h : okB n = true) : lookK 0 [n] = (0, 0) := by rw [lookK, if_pos h, lookK]

set_option maxRecDepth 100000 in
set_option maxHeartbeats 3200000 in
theorem Is_small (n : Nat) (w : World) (h2 : 2 ≤ n) (hn : n ≤ 1000000) (hT : TabW w) :
    Calls Tryd.prog 81 #[.int .i64 n] w fun e w' => e = .returned (.tuple #[.bool (prB n), fv (0, 0)]) ∧ Below w.heap.size w w' := by
  have L : ∀ (W : World) (g : Nat), g = W.heap.size → Hid (Calls Tryd.prog 66 #[.slice (some ⟨g, 0, none⟩) 1 1] (W.alloc (.cells #[.int .i64 n] 3)) (RetFault (W.alloc (.cells #[.int .i64 n] 3)) (lookK 0 [(n : Int)]))) := fun W g hg => hg ▸ look_any _ 1 1 [(n : Int)] _ rfl (by omega) (ints_new W [(n : Int)] _)
  rw [lookK_one (show okB (n : Int) = true by unfold okB; simp; omega)] at L
  have CI := fun W (hW : TabW W) => hide (is_any n W h2 (by omega) hW)
  rw [isB_small h2 hn] at CI
  have HT := hide hT
  have q1 : decide (1 < (n : Int)) = true := by rw [decide_eq_true_eq]; omega
  clear hT h2 hn
  go_enter Tryd.func81, Tryd.ntmps81
  go_wp2_with fail
  refine (L _ _ (by simp)).out.mono ?_
  rintro e w1 ⟨rfl, hb⟩
  simp only [fv]
  have F1 := (((FC.fresh w).below ((Below.refl _ _).alloc (Nat.le_refl _) (.cells #[.int .i64 n] 3))).below hb)
  have hlt := F1.lt
  have HB := hide (below_new (below_new2 hb))
  have HF := hide (F1.below ((Below.refl _ _).alloc (Nat.le_refl _) (.cells #[.int .i64 0, .int .i64 0] 24)))
  have HT2 := hide ((HT.out.below HB.out).alloc (.cells #[.int .i64 0, .int .i64 0] 24))
  have HB1 := hide (HB.out.alloc HB.out.size (.cells #[.int .i64 0, .int .i64 0] 24))
  clear hb F1
  go_wp2_with fail
  refine (CI _ HT2.out).out.mono ?_
  rintro e w2 ⟨rfl, hb⟩
  have F2 := HF.out.below hb
  obtain ⟨d0, d1, f0, f1⟩ := F2.cells
  obtain ⟨p0, p1⟩ := F2.put 0 0
  have HB2 := hide (below_fault (u := .int .i64 0) (v := .int .i64 0) (HB1.out.trans (hb.mono HB1.out.size)) (Nat.le_refl w.heap.size))
  clear hb F2
  go_wp2_with fail
  exact bodyPost_ret (v := .tuple #[.bool (prB n), fv (0, 0)]) (by simp [results, Tryd.results81, go_sem, fv, p0, p1]) rfl ⟨by simp [fv], HB2.out⟩

set_option maxHeartbeats 400000 in
theorem pfault_any (c n : Int) (w : World) :
    Calls Tryd.prog 46 #[.int .i64 c, .int .i64 n] w fun e w' => e = .returned (.agg #[.int .i64 c, .int .i64 n]) ∧ Below w.heap.size w w' := by
  go_enter Tryd.func46, Tryd.ntmps46
  go_wp2
  exact bodyPost_ret (v := .agg #[.int .i64 c, .int .i64 n]) (by simp [results, Tryd.results46, go_sem]) rfl ⟨rfl, (Below.refl _ _).alloc (Nat.le_refl _) _⟩

/-- look's word -/
def RetLook (w : World) (p k : Int) : Ending → World → Prop := fun e w' => e = .returned (.tuple #[.int .i64 (if (padF p k).1 = 0 then p ^ k.toNat else 0), fv (padF p k)]) ∧ Below w.heap.size w w'
theorem padF_range {p k : Int} (h : p < 2 ∨ 1000000 < p) : padF p k = (3, 0) := by unfold padF; rw [if_pos h]
theorem padF_kind {p k : Int} (h : ¬ (p < 2 ∨ 1000000 < p)) (h2 : prB p.toNat = false) : padF p k = (7, 0) := by unfold padF; rw [if_neg h, if_pos h2]
theorem padF_places {p k : Int} (h : ¬ (p < 2 ∨ 1000000 < p)) (h2 : prB p.toNat = true) (h3 : k < 1 ∨ 60 < k) : padF p k = (3, 1) := by unfold padF; rw [if_neg h, if_neg (by rw [h2]; simp), if_pos h3]
theorem padF_much {p k : Int} (h : ¬ (p < 2 ∨ 1000000 < p)) (h2 : prB p.toNat = true) (h3 : ¬ (k < 1 ∨ 60 < k)) (h4 : 1000000000000000000 < p ^ k.toNat) : padF p k = (9, 1) := by unfold padF; rw [if_neg h, if_neg (by rw [h2]; simp), if_neg h3, if_pos h4]
theorem padF_none {p k : Int} (h : ¬ (p < 2 ∨ 1000000 < p)) (h2 : prB p.toNat = true) (h3 : ¬ (k < 1 ∨ 60 < k)) (h4 : ¬ 1000000000000000000 < p ^ k.toNat) : padF p k = (0, 0) := by unfold padF; rw [if_neg h, if_neg (by rw [h2]; simp), if_neg h3, if_neg h4]

set_option maxRecDepth 100000 in
set_option maxHeartbeats 3200000 in
theorem plook_any (p k : Int) (w : World) (hT : TabW w) : Calls Tryd.prog 44 #[.int .i64 p, .int .i64 k] w (RetLook w p k) := by
  by_cases h : p < 2 ∨ 1000000 < p
  · have HE := hide (padF_range (k := k) h)
    have C := fun W => hide (pfault_any 3 0 W)
    have hh : decide (p < 2) = true ∨ (decide (p < 2) = false ∧ decide (1000000 < p) = true) := by
      simp only [decide_eq_true_eq, decide_eq_false_iff_not]; omega
    clear h
    rcases hh with h | ⟨h, h2⟩
    all_goals
      go_enter Tryd.func44, Tryd.ntmps44
      go_wp2_with fail
      refine (C _).out.mono ?_
      rintro e w1 ⟨rfl, hb⟩
      have F1 := (FC.fresh w).below hb
      obtain ⟨d0, d1, f0, f1⟩ := F1.cells
      obtain ⟨p0, p1⟩ := F1.put 3 0
      have HB2 := hide (below_fault (u := .int .i64 3) (v := .int .i64 0) (below_new hb) (Nat.le_refl w.heap.size))
      clear hb F1
      go_wp2_with fail
      exact bodyPost_ret (v := .tuple #[.int .i64 0, fv (3, 0)]) (by simp [results, Tryd.results44, go_sem, fv, p0, p1]) rfl ⟨by rw [HE.out]; simp, HB2.out⟩
  · obtain ⟨P, rfl⟩ : ∃ P : Nat, p = P := ⟨p.toNat, by omega⟩
    have CI := fun W (hW : TabW W) => hide (Is_small P W (by omega) (by omega) hW)
    simp only [fv] at CI
    have q1 : decide ((P : Int) < 2) = false := by rw [decide_eq_false_iff_not]; omega
    have q2 : decide (1000000 < (P : Int)) = false := by rw [decide_eq_false_iff_not]; omega
    have HT := hide (hT.alloc (.cells #[.int .i64 0, .int .i64 0] 24))
    have HP : Hid (2 ≤ P ∧ P ≤ 1000000) := by unfold Hid; omega
    have HPN := hide (show ((P : Int)).toNat = P from rfl)
    have HH := hide h
    clear hT h
    obtain ⟨b, hb0⟩ : ∃ b, prB P = b := ⟨_, rfl⟩
    rw [hb0] at CI
    cases b
    · have HE := hide (padF_kind (k := k) HH.out hb0)
      have C := fun W => hide (pfault_any 7 0 W)
      clear hb0
      go_enter Tryd.func44, Tryd.ntmps44
      go_wp2_with fail
      refine (CI _ HT.out).out.mono ?_
      rintro e w1 ⟨rfl, hb⟩
      have F0 := hide (((FC.fresh w).below hb).below (bel_fz w1))
      have HB := hide ((below_new hb).trans ((bel_fz w1).mono (below_new hb).size))
      clear hb
      go_wp2_with fail
      refine (C _).out.mono ?_
      rintro e w2 ⟨rfl, hb⟩
      have F1 := F0.out.below hb
      obtain ⟨d0, d1, f0, f1⟩ := F1.cells
      obtain ⟨p0, p1⟩ := F1.put 7 0
      have HB2 := hide (below_fault (u := .int .i64 7) (v := .int .i64 0) (HB.out.trans (hb.mono HB.out.size)) (Nat.le_refl w.heap.size))
      clear hb F1
      go_wp2_with fail
      exact bodyPost_ret (v := .tuple #[.int .i64 0, fv (7, 0)]) (by simp [results, Tryd.results44, go_sem, fv, p0, p1]) rfl ⟨by rw [HE.out]; simp, HB2.out⟩
    · by_cases h3 : k < 1 ∨ 60 < k
      · have HE := hide (padF_places (k := k) HH.out hb0 h3)
        have C := fun W => hide (pfault_any 3 1 W)
        have hh : decide (k < 1) = true ∨ (decide (k < 1) = false ∧ decide (60 < k) = true) := by
          simp only [decide_eq_true_eq, decide_eq_false_iff_not]; omega
        clear hb0 h3
        rcases hh with h | ⟨h, h2⟩
        all_goals
          go_enter Tryd.func44, Tryd.ntmps44
          go_wp2_with fail
          refine (CI _ HT.out).out.mono ?_
          rintro e w1 ⟨rfl, hb⟩
          have F0 := hide (((FC.fresh w).below hb).below (bel_fz w1))
          have HB := hide ((below_new hb).trans ((bel_fz w1).mono (below_new hb).size))
          clear hb
          go_wp2_with fail
          refine (C _).out.mono ?_
          rintro e w2 ⟨rfl, hb⟩
          have F1 := F0.out.below hb
          obtain ⟨d0, d1, f0, f1⟩ := F1.cells
          obtain ⟨p0, p1⟩ := F1.put 3 1
          have HB2 := hide (below_fault (u := .int .i64 3) (v := .int .i64 1) (HB.out.trans (hb.mono HB.out.size)) (Nat.le_refl w.heap.size))
          clear hb F1
          go_wp2_with fail
          exact bodyPost_ret (v := .tuple #[.int .i64 0, fv (3, 1)]) (by simp [results, Tryd.results44, go_sem, fv, p0, p1]) rfl ⟨by rw [HE.out]; simp, HB2.out⟩
      · obtain ⟨K, rfl⟩ : ∃ K : Nat, k = K := ⟨k.toNat, by omega⟩
        have q3 : decide ((K : Int) < 1) = false := by rw [decide_eq_false_iff_not]; omega
        have q4 : decide (60 < (K : Int)) = false := by rw [decide_eq_false_iff_not]; omega
        have HE1 := hide (fun h4 => padF_much (k := (K : Int)) HH.out hb0 h3 h4)
        have HE2 := hide (fun h4 => padF_none (k := (K : Int)) HH.out hb0 h3 h4)
        have C := fun W => hide (pfault_any 9 1 W)
        have hK : K ≤ 60 := by omega
        have hP : 2 ≤ P ∧ P ≤ 1000000 := HP.out
        clear hb0 h3
        go_enter Tryd.func44, Tryd.ntmps44
        go_wp2_with fail
        refine (CI _ HT.out).out.mono ?_
        rintro e w1 ⟨rfl, hb⟩
        have F0 := hide (((FC.fresh w).below hb).below (bel_fz w1))
        have HB := hide ((below_new hb).trans ((bel_fz w1).mono (below_new hb).size))
        clear hb
        go_wp2_with fail
        go_loop [8, 32] (fun m i => ∃ (j : Nat) (M : Int), i = .int .i64 j ∧ j ≤ K ∧ m = .int .i64 M ∧ 1 ≤ M ∧ M ≤ 1000000000000000000 ∧ Hid (M = (P : Int) ^ j)) (fun _ i => K - (intOf i).toNat)
        case atStart => exact ⟨0, 1, rfl, by omega, rfl, by omega, by omega, by unfold Hid; simp⟩
        case round =>
          obtain ⟨j, M, rfl, hj, rfl, hM1, hM2, HM⟩ := hrel
          by_cases hjK : j < K
          · have hab := above_iff (m := M) (p := (P : Int)) (N := 1000000000000000000) (by omega)
            have e1 : (1000000000000000000 : Int).tdiv (P : Int) = 1000000000000000000 / (P : Int) := Int.tdiv_eq_ediv_of_nonneg (by omega)
            have hP0 : ¬ (P : Int) = 0 := by omega
            have hMP : M * (P : Int) = (P : Int) ^ (j + 1) := by rw [HM.out, Int.pow_succ]
            have HMP := hide hMP
            obtain ⟨Q, hQ⟩ : ∃ Q, 1000000000000000000 / (P : Int) = Q := ⟨_, rfl⟩
            have hQ0 : 0 ≤ Q := by rw [← hQ]; exact Int.ediv_nonneg (by omega) (by omega)
            have hQ1 : Q ≤ 1000000000000000000 := by rw [← hQ]; exact Int.ediv_le_self _ (by omega)
            rw [hQ] at hab e1
            clear hQ
            by_cases h5 : Q < M
            · have HE : Hid (padF (P : Int) (K : Int) = (9, 1)) := by
                refine HE1.out ?_
                have h6 := hab.1 h5
                have h7 := pow_le_next (p := (P : Int)) (by omega) (show j + 1 ≤ K by omega)
                rw [hMP] at h6
                rw [show ((K : Int)).toNat = K from rfl]
                omega
              have q5 : decide (Q < M) = true := by simpa using h5
              clear hab h5 hMP
              go_wp2_with fail
              refine (C _).out.mono ?_
              rintro e w2 ⟨rfl, hb⟩
              have F1 := F0.out.below hb
              obtain ⟨d0, d1, f0, f1⟩ := F1.cells
              obtain ⟨p0, p1⟩ := F1.put 9 1
              have HB2 := hide (below_fault (u := .int .i64 9) (v := .int .i64 1) (HB.out.trans (hb.mono HB.out.size)) (Nat.le_refl w.heap.size))
              clear hb F1
              go_wp2_with fail
              exact bodyPost_ret (v := .tuple #[.int .i64 0, fv (9, 1)]) (by simp [results, Tryd.results44, go_sem, fv, p0, p1]) rfl ⟨by rw [HE.out]; simp, HB2.out⟩
            · have q5 : decide (Q < M) = false := by simpa using h5
              have h6 : M * (P : Int) ≤ 1000000000000000000 := by
                rcases Int.lt_or_le 1000000000000000000 (M * (P : Int)) with h7 | h7
                · exact (h5 (hab.2 h7)).elim
                · exact h7
              have h7 : 1 ≤ M * (P : Int) := by
                have := Int.mul_le_mul hM1 (show (1 : Int) ≤ P by omega) (by omega) (by omega)
                omega
              clear hab h5 hMP
              go_wp2_with fail
              exact ⟨⟨j + 1, M * P, by simp, by omega, rfl, h7, h6, HMP⟩, by simp [intOf]; omega⟩
          · obtain rfl : j = K := by omega
            have HE : Hid (padF (P : Int) (j : Int) = (0, 0)) := by
              refine HE2.out ?_
              rw [show ((j : Int)).toNat = j from rfl, ← HM.out]
              omega
            have HM2 : Hid ((P : Int) ^ ((j : Int)).toNat = M) := by unfold Hid; rw [show ((j : Int)).toNat = j from rfl, HM.out]
            obtain ⟨d0, d1, f0, f1⟩ := F0.out.cells
            obtain ⟨p0, p1⟩ := F0.out.put 0 0
            have HB2 := hide (below_fault (u := .int .i64 0) (v := .int .i64 0) HB.out (Nat.le_refl w.heap.size))
            go_wp2_with fail
            exact bodyPost_ret (v := .tuple #[.int .i64 M, fv (0, 0)]) (by simp [results, Tryd.results44, go_sem, fv, p0, p1]) rfl ⟨by rw [HE.out, HM2.out]; simp, HB2.out⟩
end Go.Proofs.YticgnjapgbjfiaaDoor
