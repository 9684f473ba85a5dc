/- The walks of the answers' IsPrime (below 10^8) and PadicFault. -/
import Derived.Test.YticgnjapgbjfiaaDoorPadLaw
import Derived.Test.YticgnjapgbjfiaaDoorRefC
import Derived.Test.YticgnjapgbjfiaaDoorWholeB
namespace Go.Proofs.YticgnjapgbjfiaaDoor
open Go.RowKit

theorem prB_low {n : Nat} (h : n < 2) : prB n = false := prB_false fun hp => by have := hp.1; omega

set_option maxRecDepth 100000 in
set_option maxHeartbeats 1600000 in
theorem isPrime_ref (n : Int) (w : World) (hn : n ≤ 100000000) (hn0 : -9223372036854775808 ≤ n) :
    Calls Tryd.prog 52 #[.int .i64 n] w fun e w' => e = .returned (.bool (prB n.toNat)) ∧ w = w' := by
  by_cases h2 : n < 2
  · have HE := hide (prB_low (n := n.toNat) (by omega))
    go_enter Tryd.func52, Tryd.ntmps52
    go_wp2_with fail
    go_ret
    exact ⟨by rw [HE.out]; rfl, rfl⟩
  · obtain ⟨N, rfl⟩ : ∃ N : Nat, n = N := ⟨n.toNat, by omega⟩
    have HN : Hid (((N : Int)).toNat = N) := rfl
    have q1 : decide ((N : Int) < 2) = false := by rw [decide_eq_false_iff_not]; omega
    have q2 : decide (100000000 < (N : Int)) = false := by rw [decide_eq_false_iff_not]; omega
    have hb : 2 ≤ N ∧ N ≤ 100000000 := by omega
    clear h2 hn hn0
    go_enter Tryd.func52, Tryd.ntmps52
    go_wp2_with fail
    go_loop [2, 3] (fun _ x => ∃ p : Nat, x = .int .i64 p ∧ 2 ≤ p ∧ p ≤ 10001 ∧ Hid (noDiv N p)) (fun _ x => 20000 - (intOf x).toNat)
    case atStart => exact ⟨2, rfl, by omega, by omega, noDiv_two N⟩
    case round =>
      obtain ⟨p, rfl, hp1, hp2, HP⟩ := hrel
      have hpp : (p : Int) * (p : Int) = ((p * p : Nat) : Int) := by simp
      have hpb : p * p ≤ 10001 * 10001 := Nat.mul_le_mul hp2 hp2
      have hb1 : (p : Int) * (p : Int) ≤ 100020001 := by omega
      have hb2 : 0 ≤ (p : Int) * (p : Int) := by omega
      have e1 : (N : Int) % (p : Int) = ((N % p : Nat) : Int) := by simp
      have hp0 : ¬ (p : Int) = 0 := by omega
      by_cases h1 : p * p ≤ N
      · have hp3 : p ≤ 10000 := by
          rcases Nat.lt_or_ge 10000 p with h | h
          · have := Nat.mul_le_mul (show 10001 ≤ p from h) (show 10001 ≤ p from h); omega
          · exact h
        have q3 : decide ((p : Int) * (p : Int) ≤ (N : Int)) = true := by rw [decide_eq_true_eq]; omega
        by_cases h3 : N % p = 0
        · have HE : Hid (prB N = false) := prB_false (not_Pr_of_dvd hp1 (by have := Nat.mul_le_mul hp1 (Nat.le_refl p); omega) (Nat.dvd_of_mod_eq_zero h3))
          have q4 : (N : Int) % (p : Int) = 0 := by omega
          clear hpp hpb h1 h3 e1 hp2
          go_wp2_with fail
          go_ret
          exact ⟨by rw [HE.out]; rfl, rfl⟩
        · have HN2 := hide (noDiv_next HP.out h3)
          have q4 : ((N : Int) % (p : Int) == 0) = false := by rw [beq_eq_false_iff_ne]; omega
          clear hpp hpb h1 h3 e1 hp2
          go_wp2_with fail
          exact ⟨⟨p + 1, by simp, by omega, by omega, HN2⟩, by simp [intOf]; omega⟩
      · have HE : Hid (prB N = true) := prB_true (Pr.of_noDiv hb.1 HP.out (by omega))
        have q3 : decide ((p : Int) * (p : Int) ≤ (N : Int)) = false := by rw [decide_eq_false_iff_not]; omega
        clear hpp hpb h1 e1
        go_wp2_with fail
        go_ret
        exact ⟨by rw [HE.out]; rfl, rfl⟩
theorem padF_range' {p k : Int} (h : p < 2 ∨ 1000000 < p) : padF p k = (3, 0) := by unfold padF; rw [if_pos h]
theorem padF_kind' {p k : Int} (h : ¬ (p < 2 ∨ 1000000 < p)) (h2 : prB p.toNat = false) : padF p k = (7, 0) := by unfold padF; rw [if_neg h, if_pos h2]
theorem padF_places' {p k : Int} (h : ¬ (p < 2 ∨ 1000000 < p)) (h2 : prB p.toNat = true) (h3 : k < 1 ∨ 60 < k) : padF p k = (3, 1) := by unfold padF; rw [if_neg h, if_neg (by rw [h2]; simp), if_pos h3]
theorem padF_rest {p k : Int} (h : ¬ (p < 2 ∨ 1000000 < p)) (h2 : prB p.toNat = true) (h3 : ¬ (k < 1 ∨ 60 < k)) : padF p k = if 1000000000000000000 < p ^ k.toNat then (9, 1) else (0, 0) := by unfold padF; rw [if_neg h, if_neg (by rw [h2]; simp), if_neg h3]

def RetPF (w : World) (p k : Int) : Ending → World → Prop := fun e w' => e = .returned (.tuple #[.int .i64 (if (padF p k).1 = 0 then p ^ k.toNat else 0), fv (padF p k)]) ∧ Below w.heap.size w w'

set_option maxRecDepth 100000 in
set_option maxHeartbeats 3200000 in
theorem padicFault_any (p k : Int) (w : World) (hp0 : -9223372036854775808 ≤ p) : Calls Tryd.prog 12 #[.int .i64 p, .int .i64 k] w (RetPF w p k) := by
  by_cases h : p < 2 ∨ 1000000 < p
  · have HE := hide (padF_range' (k := k) h)
    have C := fun W => hide (refF_any 3 0 W)
    have hh : decide (p < 2) = true ∨ (decide (p < 2) = false ∧ decide (1000000 < p) = true) := by
      simp only [decide_eq_true_eq, decide_eq_false_iff_not]; omega
    clear h hp0
    rcases hh with h | ⟨h, h2⟩
    all_goals
      go_enter Tryd.func12, Tryd.ntmps12
      go_wp2_with fail
      refine (C _).out.mono ?_
      rintro e w1 ⟨rfl, hb⟩
      have F1 := (FC.fresh w).below hb
      obtain ⟨d0, d1, f0, f1⟩ := F1.cells
      obtain ⟨p0, p1⟩ := F1.put 3 0
      have HB2 := hide (below_fault (u := .int .i64 3) (v := .int .i64 0) (below_new hb) (Nat.le_refl w.heap.size))
      clear hb F1
      go_wp2_with fail
      exact bodyPost_ret (v := .tuple #[.int .i64 0, fv (3, 0)]) (by simp [results, Tryd.results12, go_sem, fv, p0, p1]) rfl ⟨by rw [HE.out]; simp, HB2.out⟩
  · have CI := fun W => hide (isPrime_ref p W (by omega) (by omega))
    have q1 : decide (p < 2) = false := by rw [decide_eq_false_iff_not]; omega
    have q2 : decide (1000000 < p) = false := by rw [decide_eq_false_iff_not]; omega
    have HH := hide h
    obtain ⟨b, hb0⟩ : ∃ b, prB p.toNat = b := ⟨_, rfl⟩
    rw [hb0] at CI
    cases b
    · have HE := hide (padF_kind' (k := k) HH.out hb0)
      have C := fun W => hide (refF_any 7 0 W)
      clear hb0 h hp0
      go_enter Tryd.func12, Tryd.ntmps12
      go_wp2_with fail
      refine (CI _).out.mono ?_
      rintro e w1 ⟨rfl, rfl⟩
      go_wp2_with fail
      refine (C _).out.mono ?_
      rintro e w2 ⟨rfl, hb⟩
      have F1 := (FC.fresh w).below hb
      obtain ⟨d0, d1, f0, f1⟩ := F1.cells
      obtain ⟨p0, p1⟩ := F1.put 7 0
      have HB2 := hide (below_fault (u := .int .i64 7) (v := .int .i64 0) (below_new hb) (Nat.le_refl w.heap.size))
      clear hb F1
      go_wp2_with fail
      exact bodyPost_ret (v := .tuple #[.int .i64 0, fv (7, 0)]) (by simp [results, Tryd.results12, go_sem, fv, p0, p1]) rfl ⟨by rw [HE.out]; simp, HB2.out⟩
    · by_cases h3 : k < 1 ∨ 60 < k
      · have HE := hide (padF_places' (k := k) HH.out hb0 h3)
        have C := fun W => hide (refF_any 3 1 W)
        have hh : decide (k < 1) = true ∨ (decide (k < 1) = false ∧ decide (60 < k) = true) := by
          simp only [decide_eq_true_eq, decide_eq_false_iff_not]; omega
        clear hb0 h3 h hp0
        rcases hh with h | ⟨h, h2⟩
        all_goals
          go_enter Tryd.func12, Tryd.ntmps12
          go_wp2_with fail
          refine (CI _).out.mono ?_
          rintro e w1 ⟨rfl, rfl⟩
          go_wp2_with fail
          refine (C _).out.mono ?_
          rintro e w2 ⟨rfl, hb⟩
          have F1 := (FC.fresh w).below hb
          obtain ⟨d0, d1, f0, f1⟩ := F1.cells
          obtain ⟨p0, p1⟩ := F1.put 3 1
          have HB2 := hide (below_fault (u := .int .i64 3) (v := .int .i64 1) (below_new hb) (Nat.le_refl w.heap.size))
          clear hb F1
          go_wp2_with fail
          exact bodyPost_ret (v := .tuple #[.int .i64 0, fv (3, 1)]) (by simp [results, Tryd.results12, go_sem, fv, p0, p1]) rfl ⟨by rw [HE.out]; simp, HB2.out⟩
      · obtain ⟨K, rfl⟩ : ∃ K : Nat, k = K := ⟨k.toNat, by omega⟩
        obtain ⟨P, rfl⟩ : ∃ P : Nat, p = P := ⟨p.toNat, by omega⟩
        have q3 : decide ((K : Int) < 1) = false := by rw [decide_eq_false_iff_not]; omega
        have q4 : decide (60 < (K : Int)) = false := by rw [decide_eq_false_iff_not]; omega
        have HE := hide (padF_rest (k := (K : Int)) HH.out hb0 h3)
        have C := fun W => hide (refF_any 9 1 W)
        have HK : Hid (∀ j, j ≤ K → ((P : Int) ^ j).natAbs < lim) := fun j hj => pow_lim (by omega) hj (by omega)
        have HL : Hid ((P : Int).natAbs < lim ∧ K < lim ∧ Int.natAbs 1000000000000000000 < lim) := ⟨lim_256 (by omega), lim_256 (by omega), lim_256 (by omega)⟩
        have HB : Hid (-9223372036854775808 ≤ (P : Int) ∧ (P : Int) ≤ 9223372036854775807 ∧ -9223372036854775808 ≤ (K : Int) ∧ (K : Int) ≤ 9223372036854775807) := by unfold Hid; omega
        have O0 : Hid (Own (w.alloc (.cells #[.int .i64 0, .int .i64 0] 24)) ((w.alloc (.cells #[.int .i64 0, .int .i64 0] 24)).alloc (.cells #[.bool false, .slice none 0 0] 69)) [(w.heap.size + 1, 0)]) := by
          have := (Own.start (w.alloc (.cells #[.int .i64 0, .int .i64 0] 24))).new
          rwa [World.size_alloc] at this
        have hpos : 0 < (P : Int) ^ K := Int.pow_pos (by omega)
        have HKK : Hid (((K : Int)).toNat = K) := rfl
        clear hb0 h3 h hp0
        go_enter Tryd.func12, Tryd.ntmps12
        go_wp2_with fail
        refine (CI _).out.mono ?_
        rintro e w1 ⟨rfl, rfl⟩
        go_wp2_with fail
        refine (b_own O0.out (P : Int) HB.out.1 HB.out.2.1).mono ?_
        rintro e w1 ⟨g1, rfl, O⟩
        have O1 := hide O
        clear O
        go_wp2_with fail
        refine (b_own O1.out (K : Int) HB.out.2.2.1 HB.out.2.2.2).mono ?_
        rintro e w2 ⟨g2, rfl, O⟩
        have O2 := hide O
        clear O
        go_wp2_with fail
        refine (exp_nil (w.heap.size + 1) g1 g2 (P : Int) K w2 (O2.out.blk (i := 2) rfl) (O2.out.at_ 1 _ _ rfl) (O2.out.at_ 0 _ _ rfl) HL.out.2.1 HK.out HL.out.1).mono ?_
        rintro e w3 hr
        obtain ⟨rfl, O⟩ := RetInt.own O2.out (i := 2) rfl hr
        simp only [List.set] at O
        have O3 := hide O
        clear O hr
        go_wp2_with fail
        refine (b_own O3.out 1000000000000000000 (by omega) (by omega)).mono ?_
        rintro e w4 ⟨g4, rfl, O⟩
        have O4 := hide O
        clear O
        go_wp2_with fail
        refine (cmp_own O4.out 3 0 rfl rfl (HK.out K (Nat.le_refl _)) HL.out.2.2).mono ?_
        rintro e w5 ⟨rfl, O⟩
        have O5 := hide O
        have HC := hide (icmp_gt ((P : Int) ^ K) 1000000000000000000)
        clear O
        rw [HKK.out] at HE
        obtain ⟨M, hM⟩ : ∃ M, (P : Int) ^ K = M := ⟨_, rfl⟩
        rw [hM] at HE HC hpos O5
        have HMM := hide hM
        obtain ⟨x, hx⟩ : ∃ x, icmp M 1000000000000000000 = x := ⟨_, rfl⟩
        rw [hM, hx]
        rw [hx] at HC
        have F0 := hide ((FC.fresh w).below O5.out.bel)
        have HB5 := hide (below_new O5.out.bel)
        clear hM hx
        by_cases h5 : 1000000000000000000 < M
        · have HE2 : Hid (padF (P : Int) (K : Int) = (9, 1)) := by unfold Hid; rw [HE.out, if_pos h5]
          have q5 : decide (0 < x) = true := by rw [decide_eq_true_eq]; exact HC.out.2 h5
          clear h5 hpos
          go_wp2_with fail
          refine (C _).out.mono ?_
          rintro e w6 ⟨rfl, hb⟩
          have F1 := F0.out.below hb
          obtain ⟨d0, d1, f0, f1⟩ := F1.cells
          obtain ⟨p0, p1⟩ := F1.put 9 1
          have HB2 := hide (below_fault (u := .int .i64 9) (v := .int .i64 1) (HB5.out.trans (hb.mono HB5.out.size)) (Nat.le_refl w.heap.size))
          clear hb F1
          go_wp2_with fail
          exact bodyPost_ret (v := .tuple #[.int .i64 0, fv (9, 1)]) (by simp [results, Tryd.results12, go_sem, fv, p0, p1]) rfl ⟨by rw [HE2.out]; simp, HB2.out⟩
        · have HE2 : Hid (padF (P : Int) (K : Int) = (0, 0)) := by unfold Hid; rw [HE.out, if_neg h5]
          have q5 : decide (0 < x) = false := by rw [decide_eq_false_iff_not]; exact fun h => h5 (HC.out.1 h)
          have CM := hide (int64_own O5.out 3 rfl (by omega) (by omega))
          have hMb : 0 < M ∧ M ≤ 1000000000000000000 := by omega
          clear h5 hpos
          go_wp2_with fail
          refine CM.out.mono ?_
          rintro e w6 ⟨rfl, rfl⟩
          obtain ⟨d0, d1, f0, f1⟩ := F0.out.cells
          obtain ⟨p0, p1⟩ := F0.out.put 0 0
          have HB2 := hide (below_fault (u := .int .i64 0) (v := .int .i64 0) HB5.out (Nat.le_refl w.heap.size))
          go_wp2_with fail
          exact bodyPost_ret (v := .tuple #[.int .i64 M, fv (0, 0)]) (by simp [results, Tryd.results12, go_sem, fv, p0, p1]) rfl ⟨by rw [HE2.out, HKK.out, HMM.out]; simp, HB2.out⟩
end Go.Proofs.YticgnjapgbjfiaaDoor
