/- The walk of the law ResidueGauss. -/
import Derived.Test.YtgocnjklpafabaaDoorResE
import Derived.Test.YtgocnjklpafabaaDoorJacW
import Derived.Test.YtgocnjklpafabaaDoorRefG
import Derived.Test.YtgocnjklpafabaaDoorSlices
import Derived.Deep.DeepCutAuto
namespace Go.Proofs.YtgocnjklpafabaaDoor
open Go.RowKit

theorem jac_215 : jac (((2 : Int) % ((15 : Nat) : Int)).toNat) 15 = 1 := by
  rw [show (((2 : Int) % ((15 : Nat) : Int)).toNat) = 2 % 15 from rfl, jac_two (by decide)]; decide
set_option maxRecDepth 100000 in
set_option maxHeartbeats 1600000 in
theorem resBegun_any (w : World) (hT : TabW w) :
    Calls Tryd.prog 5 #[] w fun e w' => e = .returned (.bool true) ∧ Below w.heap.size w w' := by
  have CJ := hide (jacobi_ok 2 15 w (by decide) (by decide) (by decide) (by decide))
  rw [jac_215] at CJ
  have CR := fun W (hT : TabW W) => hide (roots_any W hT)
  have HT := hide hT
  clear hT
  go_enter Tryd.func5, Tryd.ntmps5
  go_wp2_with fail
  refine CJ.out.mono ?_
  rintro e w1 ⟨rfl, hb⟩
  simp only [fv]
  have F1 := hide (FC.made w1 0 0)
  have HB1 := hide (hb.alloc hb.size (.cells #[.int .i64 0, .int .i64 0] 25))
  clear hb CJ
  go_wp2_with fail
  refine (CR _ (HT.out.below HB1.out)).out.mono ?_
  rintro e w2 ⟨v, rfl, hr, hb⟩
  simp only [fv]
  have F2 := hide ((F1.out.below hb).below (bel_o w2 (.cells #[.int .i64 0, .int .i64 0] 25)))
  have G2 := hide (FC.made w2 0 0)
  have HB2 := hide ((HB1.out.trans (hb.mono HB1.out.size)).alloc (HB1.out.trans (hb.mono HB1.out.size)).size (.cells #[.int .i64 0, .int .i64 0] 25))
  obtain ⟨x0, x1, x2, x3⟩ := F2.out.cells
  obtain ⟨y0, y1, y2, y3⟩ := G2.out.cells
  obtain ⟨g, c, rfl, hg1, hg2, hgc⟩ := row_form hr rfl (by decide)
  have CI : ∀ (W : World), Below w2.heap.size w2 W → ∀ gg, gg = W.heap.size → Hid (Calls Tryd.prog 15 #[.slice (some ⟨g, 0, none⟩) [2, 7, 8, 13].length c, .slice (some ⟨gg, 0, none⟩) 4 4] (W.alloc (.cells #[.int .i64 2, .int .i64 7, .int .i64 8, .int .i64 13] 3)) fun e w' => e = .returned (.bool true) ∧ ∃ k, w' = (W.alloc (.cells #[.int .i64 2, .int .i64 7, .int .i64 8, .int .i64 13] 3)).drewN k) := fun W hW gg hgg => by
    subst hgg
    refine hide (ints_same (some ⟨g, 0, none⟩) (some ⟨W.heap.size, 0, none⟩) 4 c 4 [2, 7, 8, 13] _ rfl (by decide) ?_ ?_)
    · have := (hr.below hW).below (bel_o W (.cells #[.int .i64 2, .int .i64 7, .int .i64 8, .int .i64 13] 3))
      unfold Row at this
      rw [map_cast] at this
      obtain ⟨A', c', e, hI⟩ := Ints.of_own this rfl
      injection e with e _ _
      subst e
      exact hI
    · exact ints_new W [2, 7, 8, 13] _
  clear hb hr F1 HB1 CR hgc
  go_wp2_with fail
  refine (CI _ (bel_o w2 _) _ (by simp)).out.mono ?_
  rintro e w3 ⟨rfl, k, rfl⟩
  go_wp2_with fail
  go_ret
  exact ⟨rfl, below_drewN (HB2.out.alloc HB2.out.size _) _⟩
theorem odd_sq {A : Int} (h : A * A = 1) : A = 1 ∨ A = -1 := by
  have := Int.natAbs_mul_self (a := A)
  have h1 : A.natAbs * A.natAbs = 1 := by omega
  have h2 : A.natAbs = 1 := Nat.eq_one_of_mul_eq_one_left h1
  omega
/-- what the law asks of the four symbols -/
theorem four_jac (M N : Nat) (hM : M % 2 = 1) (hN : N % 2 = 1) :
    jac (((2 : Int) % (N : Int)).toNat) N = (if N % 8 = 1 ∨ N % 8 = 7 then 1 else -1) ∧ jac (((-1 : Int) % (N : Int)).toNat) N = (if N % 4 = 1 then 1 else -1) ∧
    (Nat.gcd M N = 1 → (jac (((M : Int) % (N : Int)).toNat) N = 1 ∨ jac (((M : Int) % (N : Int)).toNat) N = -1) ∧ jac (((N : Int) % (M : Int)).toNat) M = (if M % 4 = 3 ∧ N % 4 = 3 then -1 else 1) * jac (((M : Int) % (N : Int)).toNat) N) ∧
    (Nat.gcd M N ≠ 1 → jac (((M : Int) % (N : Int)).toNat) N = 0 ∧ jac (((N : Int) % (M : Int)).toNat) M = 0) := by
  have e1 : ((2 : Int) % (N : Int)).toNat = 2 % N := by
    rw [show (2 : Int) = ((2 : Nat) : Int) from rfl, ← Int.natCast_emod]; rfl
  have e2 : ((-1 : Int) % (N : Int)).toNat = N - 1 := by
    by_cases h1 : N = 1
    · subst h1; decide
    · have : (-1 : Int) % (N : Int) = N - 1 := by
        rw [show (-1 : Int) = (N - 1 : Int) + (N : Int) * (-1) from by omega, Int.add_mul_emod_self_left, Int.emod_eq_of_lt (by omega) (by omega)]
      rw [this]; omega
  have e3 : ∀ a b : Nat, ((a : Int) % (b : Int)).toNat = a % b := fun a b => by rw [← Int.natCast_emod]; rfl
  rw [e1, e2, e3, e3]
  refine ⟨jac_two hN, jac_less hN, fun hg => ?_, fun hg => ?_⟩
  · have hg1 : Nat.gcd (M % N) N = 1 := by rw [← Nat.gcd_rec, Nat.gcd_comm]; exact hg
    have h1 := (jac_sq (M % N) N hN).1 hg1
    refine ⟨odd_sq h1, ?_⟩
    rcases jac_turn hN hM with h | ⟨rfl, h⟩
    · rw [h]
      congr 1
      split <;> split <;> first | rfl | omega
    · rw [Nat.gcd_self] at hg; exact absurd hg h
  · have hg1 : Nat.gcd (M % N) N ≠ 1 := by rw [← Nat.gcd_rec, Nat.gcd_comm]; exact hg
    have hg2 : Nat.gcd (N % M) M ≠ 1 := by rw [← Nat.gcd_rec]; exact hg
    exact ⟨(jac_sq (M % N) N hN).2 hg1, (jac_sq (N % M) M hM).2 hg2⟩

set_option maxRecDepth 100000 in
set_option maxHeartbeats 6400000 in
theorem gauss_any (m n : Int) (w : World) (hT : TabW w) (hm1 : -9223372036854775808 ≤ m) (hm2 : m ≤ 9223372036854775807) (hn1 : -9223372036854775808 ≤ n) (hn2 : n ≤ 9223372036854775807) :
    Calls Tryd.prog 3 #[.int .i64 m, .int .i64 n] w fun e w' => e = .returned (.bool true) ∧ Below w.heap.size w w' := by
  have CB := hide (resBegun_any w hT)
  have CM := fun W => hide (number_any m W)
  have CN := fun W => hide (number_any n W)
  clear hT
  go_enter Tryd.func3, Tryd.ntmps3
  go_wp2_with fail
  refine CB.out.mono ?_
  rintro e w1 ⟨rfl, hb⟩
  have HB := hide hb
  clear hb CB
  by_cases h1 : m < 1
  · as_aux_lemma =>
    clear CM CN
    go_wp2_with fail
    go_ret
    exact ⟨rfl, HB.out⟩
  by_cases h2 : n < 1
  · as_aux_lemma =>
    clear CM CN
    go_wp2_with fail
    go_ret
    exact ⟨rfl, HB.out⟩
  obtain ⟨M, rfl⟩ : ∃ N : Nat, m = N := ⟨m.toNat, by omega⟩
  obtain ⟨N, rfl⟩ : ∃ N : Nat, n = N := ⟨n.toNat, by omega⟩
  rcases Nat.mod_two_eq_zero_or_one M with h3 | h3
  · as_aux_lemma =>
    have q1 : ((M : Int) % 2) = 0 := by omega
    clear CM CN h3
    go_wp2_with fail
    go_ret
    exact ⟨rfl, HB.out⟩
  rcases Nat.mod_two_eq_zero_or_one N with h4 | h4
  · as_aux_lemma =>
    have q1 : ((M : Int) % 2) = 1 := by omega
    have q2 : ((N : Int) % 2) = 0 := by omega
    clear CM CN h3 h4
    go_wp2_with fail
    go_ret
    exact ⟨rfl, HB.out⟩
  by_cases h5 : 1000000000000000000 < M
  · as_aux_lemma =>
    have q1 : ((M : Int) % 2) = 1 := by omega
    have q2 : ((N : Int) % 2) = 1 := by omega
    have e5 : okB (M : Int) = false := by unfold okB; simp; omega
    rw [e5] at CM
    clear CN h3 h4 h5 e5
    go_wp2_with fail
    refine (CM _).out.mono ?_
    rintro e w2 ⟨rfl, rfl⟩
    go_wp2_with fail
    go_ret
    exact ⟨rfl, HB.out⟩
  replace h5 : M ≤ 1000000000000000000 := by omega
  have e5 : okB (M : Int) = true := by unfold okB; simp; omega
  rw [e5] at CM
  by_cases h6 : 1000000000000000000 < N
  · as_aux_lemma =>
    have q1 : ((M : Int) % 2) = 1 := by omega
    have q2 : ((N : Int) % 2) = 1 := by omega
    have e6 : okB (N : Int) = false := by unfold okB; simp; omega
    rw [e6] at CN
    clear h3 h4 h5 h6 e5 e6
    go_wp2_with fail
    refine (CM _).out.mono ?_
    rintro e w2 ⟨rfl, rfl⟩
    go_wp2_with fail
    refine (CN _).out.mono ?_
    rintro e w2 ⟨rfl, rfl⟩
    go_wp2_with fail
    go_ret
    exact ⟨rfl, HB.out⟩
  replace h6 : N ≤ 1000000000000000000 := by omega
  have e6 : okB (N : Int) = true := by unfold okB; simp; omega
  rw [e6] at CN
  have CG := fun W => hide (refGcd_any (M : Int) N W (by omega) (by omega) (by omega) (by omega))
  rw [show Int.gcd (M : Int) N = Nat.gcd M N from rfl] at CG
  have C1 := fun W => hide (jacobi_ok (M : Int) N W h4 h6 (by omega) (by omega))
  have C2 := fun W => hide (jacobi_ok (N : Int) M W h3 h5 (by omega) (by omega))
  have C3 := fun W => hide (jacobi_ok 2 N W h4 h6 (by omega) (by omega))
  have C4 := fun W => hide (jacobi_ok (-1) N W h4 h6 (by omega) (by omega))
  obtain ⟨j1, j2, j3, j4⟩ := four_jac M N h3 h4
  rw [j1] at C3
  rw [j2] at C4
  have q1 : ((M : Int) % 2) = 1 := by omega
  have q2 : ((N : Int) % 2) = 1 := by omega
  generalize jac (((M : Int) % (N : Int)).toNat) N = A at C1 j3 j4
  generalize jac (((N : Int) % (M : Int)).toNat) M = B at C2 j3 j4
  have J := hide (And.intro j3 j4)
  clear j1 j2 j3 j4 e5 e6
  have h8 : N % 8 = 1 ∨ N % 8 = 3 ∨ N % 8 = 5 ∨ N % 8 = 7 := by omega
  have key : Hid (∃ T L : Int, (if N % 8 = 1 ∨ N % 8 = 7 then (1 : Int) else -1) = T ∧ (if N % 4 = 1 then (1 : Int) else -1) = L ∧ ∃ r8 r4 : Int, (N : Int) % 8 = r8 ∧ (N : Int) % 4 = r4 ∧ ((T = 1 ∧ L = 1 ∧ r8 = 1 ∧ r4 = 1) ∨ (T = -1 ∧ L = -1 ∧ r8 = 3 ∧ r4 = 3) ∨ (T = -1 ∧ L = 1 ∧ r8 = 5 ∧ r4 = 1) ∨ (T = 1 ∧ L = -1 ∧ r8 = 7 ∧ r4 = 3))) := by
    refine hide ⟨_, _, rfl, rfl, _, _, rfl, rfl, ?_⟩
    rcases h8 with h | h | h | h
    · rw [if_pos (by omega), if_pos (by omega)]; exact .inl ⟨rfl, rfl, by omega, by omega⟩
    · rw [if_neg (by omega), if_neg (by omega)]; exact .inr (.inl ⟨rfl, rfl, by omega, by omega⟩)
    · rw [if_neg (by omega), if_pos (by omega)]; exact .inr (.inr (.inl ⟨rfl, rfl, by omega, by omega⟩))
    · rw [if_pos (by omega), if_neg (by omega)]; exact .inr (.inr (.inr ⟨rfl, rfl, by omega, by omega⟩))
  clear h8 h3 h4
  obtain ⟨T, L, eT, eL, r8, r4, q3, q4, hc⟩ := key.out
  rw [eT] at C3
  rw [eL] at C4
  clear eT eL key
  go_wp2_with fail
  refine (CM _).out.mono ?_
  rintro e w2 ⟨rfl, rfl⟩
  go_wp2_with fail
  refine (CN _).out.mono ?_
  rintro e w2 ⟨rfl, rfl⟩
  clear CM CN
  have HC := hide hc
  clear hc
  go_wp2_with fail
  refine (C1 _).out.mono ?_
  rintro e w2 ⟨rfl, hb⟩
  simp only [fv]
  have F1 := hide (FC.made w2 0 0)
  have HB2 := hide ((HB.out.trans (hb.mono HB.out.size)).alloc (HB.out.trans (hb.mono HB.out.size)).size (.cells #[.int .i64 0, .int .i64 0] 25))
  clear hb HB
  go_wp2_with fail
  refine (C2 _).out.mono ?_
  rintro e w3 ⟨rfl, hb⟩
  simp only [fv]
  have F2 := hide (FC.made w3 0 0)
  have FA := hide ((F1.out.below hb).below (bel_o w3 (.cells #[.int .i64 0, .int .i64 0] 25)))
  have HB3 := hide ((HB2.out.trans (hb.mono HB2.out.size)).alloc (HB2.out.trans (hb.mono HB2.out.size)).size (.cells #[.int .i64 0, .int .i64 0] 25))
  clear hb HB2 F1
  go_wp2_with fail
  refine (C3 _).out.mono ?_
  rintro e w4 ⟨rfl, hb⟩
  simp only [fv]
  have F3 := hide (FC.made w4 0 0)
  have FA2 := hide ((FA.out.below hb).below (bel_o w4 (.cells #[.int .i64 0, .int .i64 0] 25)))
  have FB := hide ((F2.out.below hb).below (bel_o w4 (.cells #[.int .i64 0, .int .i64 0] 25)))
  have HB4 := hide ((HB3.out.trans (hb.mono HB3.out.size)).alloc (HB3.out.trans (hb.mono HB3.out.size)).size (.cells #[.int .i64 0, .int .i64 0] 25))
  clear hb HB3 F2 FA
  go_wp2_with fail
  refine (C4 _).out.mono ?_
  rintro e w5 ⟨rfl, hb⟩
  simp only [fv]
  have F4 := hide (FC.made w5 0 0)
  have FA3 := hide ((FA2.out.below hb).below (bel_o w5 (.cells #[.int .i64 0, .int .i64 0] 25)))
  have FB3 := hide ((FB.out.below hb).below (bel_o w5 (.cells #[.int .i64 0, .int .i64 0] 25)))
  have FC3 := hide ((F3.out.below hb).below (bel_o w5 (.cells #[.int .i64 0, .int .i64 0] 25)))
  have HB5 := hide ((HB4.out.trans (hb.mono HB4.out.size)).alloc (HB4.out.trans (hb.mono HB4.out.size)).size (.cells #[.int .i64 0, .int .i64 0] 25))
  clear hb HB4 F3 FA2 FB C1 C2 C3 C4
  obtain ⟨x0, x1, _, _⟩ := FA3.out.cells
  obtain ⟨y0, y1, _, _⟩ := FB3.out.cells
  obtain ⟨z0, z1, _, _⟩ := FC3.out.cells
  obtain ⟨u0, u1, _, _⟩ := F4.out.cells
  go_upto_region 11 with (fail)
  rcases HC.out with ⟨rfl, rfl, rfl, rfl⟩ | ⟨rfl, rfl, rfl, rfl⟩ | ⟨rfl, rfl, rfl, rfl⟩ | ⟨rfl, rfl, rfl, rfl⟩
  all_goals as_aux_lemma =>
    go_wp2_with fail
    refine (CG _).out.mono ?_
    rintro e w6 ⟨rfl, rfl⟩
    by_cases hg : Nat.gcd M N = 1
    · obtain ⟨ha, hb⟩ := J.out.1 hg
      have q5 : ((Nat.gcd M N : Nat) : Int) = 1 := by omega
      clear hg
      have h4 : M % 4 = 1 ∨ M % 4 = 3 := by omega
      rcases h4 with h4 | h4
      · have q6 : (M : Int) % 4 = 1 := by omega
        rw [if_neg (by omega)] at hb
        rcases ha with rfl | rfl
        all_goals
          obtain rfl := hb
          clear h4 J
          go_wp2_with fail
          go_ret
          exact ⟨rfl, HB5.out⟩
      · have q6 : (M : Int) % 4 = 3 := by omega
        first | rw [if_pos (by omega)] at hb | rw [if_neg (by omega)] at hb
        rcases ha with rfl | rfl
        all_goals
          obtain rfl := hb
          clear h4 J
          go_wp2_with fail
          go_ret
          exact ⟨rfl, HB5.out⟩
    · obtain ⟨rfl, rfl⟩ := J.out.2 hg
      have q5 : decide (((Nat.gcd M N : Nat) : Int) = 1) = false := by rw [decide_eq_false_iff_not]; omega
      have q7 : (((Nat.gcd M N : Nat) : Int) != 1) = true := by simp; omega
      clear J hg
      go_wp2_with fail
      go_ret
      exact ⟨rfl, HB5.out⟩

theorem wfg {n : Int} (h : (Lit.int .i64 n).wf = true) : -9223372036854775808 ≤ n ∧ n ≤ 9223372036854775807 := by
  have h1 : IntKind.i64.min = -9223372036854775808 := rfl
  have h2 : IntKind.i64.max = 9223372036854775807 := rfl
  simp only [Lit.wf, Bool.and_eq_true, decide_eq_true_eq] at h
  omega
theorem gauss_row (m n : Int) (w : World) (hT : TabW w) (w0 : (Lit.int .i64 m).wf = true) (w1 : (Lit.int .i64 n).wf = true) :
    Calls Tryd.prog 3 #[.int .i64 m, .int .i64 n] w fun e w' => e = .returned (.bool true) ∧ Below w.heap.size w w' :=
  gauss_any m n w hT (wfg w0).1 (wfg w0).2 (wfg w1).1 (wfg w1).2
end Go.Proofs.YtgocnjklpafabaaDoor
