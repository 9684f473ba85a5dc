/- The walk of equation.Linear: for all ints. -/
import Derived.Test.YtgocnjklpafabaaBezout
import Derived.Test.YtgocnjklpafabaaTimes
import Derived.Deep.DeepCutAuto
namespace Go.Proofs.Ytgocnjklpafabaa
open Go.RowKit

theorem efault_any (c n : Int) (w : World) :
    Calls Try.prog 26 #[.int .i64 c, .int .i64 n] w fun e w' => e = .returned (.agg #[.int .i64 c, .int .i64 n]) ∧ Below w.heap.size w w' := by
  go_enter Try.func26, Try.ntmps26
  go_wp2
  exact bodyPost_ret (v := .agg #[.int .i64 c, .int .i64 n]) (by simp [results, Try.results26, go_sem]) rfl ⟨rfl, (Below.refl _ _).alloc (Nat.le_refl _) _⟩
theorem bel_e (w : World) (o : Obj) : Below w.heap.size w (w.alloc o) := (Below.refl _ _).alloc (Nat.le_refl _) _
/-- the first number that is too great -/
def bigK : Nat → List Int → Int × Int
  | _, [] => (0, 0)
  | k, x :: r => if -1000000000 ≤ x ∧ x ≤ 1000000000 then bigK (k + 1) r else (3, k)
/-- what is wrong with an equation -/
def linF (a b c : Int) : Int × Int :=
  if bigK 0 [a, b, c] ≠ (0, 0) then bigK 0 [a, b, c] else if b = 0 then (4, 1) else if c % (Int.gcd a b : Int) ≠ 0 then (5, 0) else (0, 0)
theorem bigK_cases (a b c : Int) : (bigK 0 [a, b, c] = (0, 0) ∧ (-1000000000 ≤ a ∧ a ≤ 1000000000) ∧ (-1000000000 ≤ b ∧ b ≤ 1000000000) ∧ (-1000000000 ≤ c ∧ c ≤ 1000000000)) ∨ ∃ k : Nat, k < 3 ∧ bigK 0 [a, b, c] = (3, (k : Int)) ∧ (∀ j x, j < k → [a, b, c][j]? = some x → -1000000000 ≤ x ∧ x ≤ 1000000000) ∧ ∃ x, [a, b, c][k]? = some x ∧ (x < -1000000000 ∨ 1000000000 < x) := by
  unfold bigK bigK bigK bigK
  by_cases h1 : -1000000000 ≤ a ∧ a ≤ 1000000000
  · by_cases h2 : -1000000000 ≤ b ∧ b ≤ 1000000000
    · by_cases h3 : -1000000000 ≤ c ∧ c ≤ 1000000000
      · rw [if_pos h1, if_pos h2, if_pos h3]; exact .inl ⟨rfl, h1, h2, h3⟩
      · rw [if_pos h1, if_pos h2, if_neg h3]
        refine .inr ⟨2, by omega, rfl, fun j x hj hx => ?_, c, rfl, by omega⟩
        match j, hj with
        | 0, _ => injection hx with hx; subst hx; exact h1
        | 1, _ => injection hx with hx; subst hx; exact h2
    · rw [if_pos h1, if_neg h2]
      refine .inr ⟨1, by omega, rfl, fun j x hj hx => ?_, b, rfl, by omega⟩
      match j, hj with
      | 0, _ => injection hx with hx; subst hx; exact h1
  · rw [if_neg h1]
    exact .inr ⟨0, by omega, rfl, fun j x hj => absurd hj (by omega), a, rfl, by omega⟩
/-- what Linear answers -/
structure LinOk (a b c x y : Int) (f : Int × Int) : Prop where
  fault : f = linF a b c
  none : f.1 ≠ 0 → x = 0 ∧ y = 0
  some : f.1 = 0 → 0 ≤ x ∧ x < ((b.natAbs / Int.gcd a b : Nat) : Int) ∧ a * x + b * y = c ∧ x.natAbs ≤ 1000000000 ∧ y.natAbs ≤ 1000000000000000001
def RetLin (w : World) (a b c : Int) : Ending → World → Prop := fun e w' => ∃ x y : Int, ∃ f, e = .returned (.tuple #[.int .i64 x, .int .i64 y, fv f]) ∧ LinOk a b c x y f ∧ Below w.heap.size w w'

/-- the plain law: u a + v b = g, then x = u (c / g) left by |b| / g solves -/
theorem lin_solve {a b c u v : Int} {g : Nat} (hb : b ≠ 0) (hg : Int.gcd a b = g) (he : u * a + v * b = g) (hc : c % (g : Int) = 0) : b ∣ c - a * (u * (c / g) % ((b.natAbs / g : Nat) : Int)) := by
  have hg0 : 0 < g := by rw [← hg]; exact Int.gcd_pos_of_ne_zero_right _ hb
  obtain ⟨p, hp⟩ : (g : Int) ∣ a := hg ▸ Int.gcd_dvd_left ..
  obtain ⟨q, hq⟩ : (g : Int) ∣ b := hg ▸ Int.gcd_dvd_right ..
  obtain ⟨t, ht⟩ : (g : Int) ∣ c := Int.dvd_of_emod_eq_zero hc
  have hcg : c / g = t := by rw [ht]; exact Int.mul_ediv_cancel_left _ (by omega)
  have hm : ((b.natAbs / g : Nat) : Int) = (q.natAbs : Int) := by
    rw [hq, Int.natAbs_mul, Int.natAbs_natCast, Nat.mul_div_cancel_left _ hg0]
  rw [hcg, hm]
  have hdm := Int.emod_add_mul_ediv (u * t) (q.natAbs : Int)
  generalize u * t / (q.natAbs : Int) = k at hdm
  have hx : u * t % (q.natAbs : Int) = u * t - (q.natAbs : Int) * k := by omega
  rw [hx]
  obtain ⟨s, hs⟩ : ∃ s : Int, (q.natAbs : Int) = s * q := by
    rcases Int.natAbs_eq q with h | h
    · exact ⟨1, by omega⟩
    · exact ⟨-1, by omega⟩
  rw [hs]
  refine ⟨v * t + p * s * k, ?_⟩
  have e1 : (g : Int) * t = u * a * t + v * b * t := by rw [← Int.add_mul, he]
  rw [ht, e1, hp, hq]
  grind

theorem no_big {x : Int} (h : -1000000000 ≤ x ∧ x ≤ 1000000000) : decide (x < -1000000000) = false ∧ decide (1000000000 < x) = false := by
  rw [decide_eq_false_iff_not, decide_eq_false_iff_not]; omega
theorem yes_low {x : Int} (h : x < -1000000000) : decide (x < -1000000000) = true := by rw [decide_eq_true_eq]; exact h
theorem yes_high {x : Int} (h : 1000000000 < x) : decide (x < -1000000000) = false ∧ decide (1000000000 < x) = true := by
  rw [decide_eq_false_iff_not, decide_eq_true_eq]; omega
theorem lin_mem {g : Int} {M : Nat} {x : Int} (h : x = g % (M : Int)) (hM : 0 < M) : 0 ≤ x ∧ x < M := by
  subst h; exact ⟨Int.emod_nonneg _ (by omega), Int.emod_lt_of_pos _ (by omega)⟩

theorem cell_three {W : World} {g : Nat} {a b c y : Int} {j : Nat} {T : TypeId} {fr : Nat × Nat} (h : W.heap[g]? = some (.cells #[.int .i64 a, .int .i64 b, .int .i64 c] T fr)) (hy : [a, b, c][j]? = some y) : W.cell? ⟨g, j, none⟩ = some (.int .i64 y) := by
  have e : W.cell? ⟨g, j, none⟩ = (#[Value.int .i64 a, .int .i64 b, .int .i64 c] : Array Value)[j]? := by simp [World.cell?, h]
  rw [e]
  match j, hy with
  | 0, hy => injection hy with hy; subst hy; rfl
  | 1, hy => injection hy with hy; subst hy; rfl
  | 2, hy => injection hy with hy; subst hy; rfl
set_option maxRecDepth 100000 in
set_option maxHeartbeats 3200000 in
/-- a number that is too great -/
theorem linear_big (a b c : Int) (k : Nat) (w : World) (hk : k < 3) (hlow : ∀ j x, j < k → [a, b, c][j]? = some x → -1000000000 ≤ x ∧ x ≤ 1000000000) (x : Int) (hx : [a, b, c][k]? = some x) (hbad : x < -1000000000 ∨ 1000000000 < x) :
    Calls Try.prog 12 #[.int .i64 a, .int .i64 b, .int .i64 c] w fun e w' => e = .returned (.tuple #[.int .i64 0, .int .i64 0, fv (3, (k : Int))]) ∧ Below w.heap.size w w' := by
  have C := fun W => hide (efault_any 3 k W)
  have HL := hide hlow
  have HX := hide hx
  clear hlow hx
  go_enter Try.func12, Try.ntmps12
  go_wp2_with fail
  go_loop [21] (fun iv => ∃ j : Nat, iv = .int .i64 j ∧ j ≤ k) (fun iv => 3 - (intOf iv).toNat)
  case atStart => exact ⟨0, rfl, by omega⟩
  case round =>
    obtain ⟨j, rfl, hj⟩ := hrel
    have hj3 : j < 3 := by omega
    obtain ⟨y, hy⟩ : ∃ y, [a, b, c][j]? = some y := ⟨_, List.getElem?_eq_getElem (by simpa using hj3)⟩
    have cy : ((w.alloc (.cells #[.int .i64 0, .int .i64 0] 24)).alloc (.cells #[.int .i64 a, .int .i64 b, .int .i64 c] 3)).cell? ⟨w.heap.size + 1, j, none⟩ = some (.int .i64 y) := by
      have h := heap_alloc_new (w.alloc (.cells #[.int .i64 0, .int .i64 0] 24)) (.cells #[.int .i64 a, .int .i64 b, .int .i64 c] 3)
      rw [World.size_alloc] at h
      exact cell_three h hy
    by_cases hjk : j < k
    · obtain ⟨q1, q2⟩ := no_big (HL.out j y hjk hy)
      clear hy
      go_wp2_with fail
      go_round
      case rel => exact ⟨j + 1, by go_num, by omega⟩
      case measure => simp [intOf]; omega
    · obtain rfl : j = k := by omega
      have e := HX.out
      rw [hy] at e
      injection e with e
      subst e
      clear hy hjk hj HL HX
      have FF := hide ((FC.fresh w).below ((Below.refl _ _).alloc (Nat.le_refl _) (.cells #[.int .i64 a, .int .i64 b, .int .i64 c] 3)))
      rcases hbad with hbad | hbad
      · have q1 := yes_low hbad
        clear hbad
        go_wp2_with fail
        refine (C _).out.mono ?_
        rintro e w1 ⟨rfl, hb⟩
        have F1 := FF.out.below hb
        have HB := hide (below_new (below_new hb))
        obtain ⟨d0, d1, f0, f1⟩ := F1.cells
        obtain ⟨p0, p1⟩ := F1.put 3 j
        have B6 := hide (below_fault (u := .int .i64 3) (v := .int .i64 j) HB.out (Nat.le_refl w.heap.size))
        clear hb F1
        go_wp2_with fail
        exact bodyPost_ret (v := .tuple #[.int .i64 0, .int .i64 0, fv (3, (j : Int))]) (by simp [results, Try.results12, go_sem, fv, p0, p1]) rfl ⟨rfl, B6.out⟩
      · obtain ⟨q1, q2⟩ := yes_high hbad
        clear hbad
        go_wp2_with fail
        refine (C _).out.mono ?_
        rintro e w1 ⟨rfl, hb⟩
        have F1 := FF.out.below hb
        have HB := hide (below_new (below_new hb))
        obtain ⟨d0, d1, f0, f1⟩ := F1.cells
        obtain ⟨p0, p1⟩ := F1.put 3 j
        have B6 := hide (below_fault (u := .int .i64 3) (v := .int .i64 j) HB.out (Nat.le_refl w.heap.size))
        clear hb F1
        go_wp2_with fail
        exact bodyPost_ret (v := .tuple #[.int .i64 0, .int .i64 0, fv (3, (j : Int))]) (by simp [results, Try.results12, go_sem, fv, p0, p1]) rfl ⟨rfl, B6.out⟩

set_option maxRecDepth 100000 in
set_option maxHeartbeats 3200000 in
/-- no number is too great -/
theorem linear_small (a b c : Int) (w : World) (ha : -1000000000 ≤ a ∧ a ≤ 1000000000) (hb : -1000000000 ≤ b ∧ b ≤ 1000000000) (hc : -1000000000 ≤ c ∧ c ≤ 1000000000) (h0 : bigK 0 [a, b, c] = (0, 0)) :
    Calls Try.prog 12 #[.int .i64 a, .int .i64 b, .int .i64 c] w (RetLin w a b c) := by
  have F4 := fun W => hide (efault_any 4 1 W)
  have F5 := fun W => hide (efault_any 5 0 W)
  have e0 : lookK 0 [a, b] = (0, 0) := by
    rw [lookK, if_pos (by unfold okB; simp; omega), lookK, if_pos (by unfold okB; simp; omega), lookK]
  have CB : ∀ W, Hid (Calls Try.prog 29 #[.int .i64 a, .int .i64 b] W fun e w' => ∃ g u v : Int, e = .returned (.tuple #[.int .i64 g, .int .i64 u, .int .i64 v, fv (0, 0)]) ∧ BezOk a b g u v ∧ Below W.heap.size W w') := fun W => hide ((bezout_any a b W).mono (by
    rintro e w' ⟨g, u, v, rfl, h1, _, h3⟩
    rw [e0] at h1 ⊢
    exact ⟨g, u, v, rfl, h1 rfl, h3⟩))
  obtain ⟨a1, a2⟩ := no_big ha
  obtain ⟨b1, b2⟩ := no_big hb
  obtain ⟨c1, c2⟩ := no_big hc
  have HA := hide ha
  have HB := hide hb
  have HC := hide hc
  have H0 := hide h0
  clear ha hb hc h0 e0
  go_enter Try.func12, Try.ntmps12
  go_wp2_with fail
  refine wp_loop_rounds 4 ?_
  rw [rounds_succ]
  go_wp2_with fail
  rw [rounds_succ]
  go_wp2_with fail
  rw [rounds_succ]
  go_wp2_with fail
  rw [rounds_succ]
  have FF := hide ((FC.fresh w).below ((Below.refl _ _).alloc (Nat.le_refl _) (.cells #[.int .i64 a, .int .i64 b, .int .i64 c] 3)))
  by_cases hb0 : b = 0
  · subst hb0
    go_wp2_with fail
    refine (F4 _).out.mono ?_
    rintro e w1 ⟨rfl, hb⟩
    have F1 := FF.out.below hb
    have HBB := hide (below_new (below_new hb))
    obtain ⟨d0, d1, f0, f1⟩ := F1.cells
    obtain ⟨p0, p1⟩ := F1.put 4 1
    have B6 := hide (below_fault (u := .int .i64 4) (v := .int .i64 1) HBB.out (Nat.le_refl w.heap.size))
    clear hb F1
    go_wp2_with fail
    exact bodyPost_ret (v := .tuple #[.int .i64 0, .int .i64 0, fv (4, 1)]) (by simp [results, Try.results12, go_sem, fv, p0, p1]) rfl ⟨0, 0, (4, 1), rfl, ⟨by unfold linF; rw [if_neg (fun h => h H0.out), if_pos rfl], fun _ => ⟨rfl, rfl⟩, fun h => by simp at h⟩, B6.out⟩
  · have hb1 : (b == 0) = false := by simpa using hb0
    have hb2 : decide (b = 0) = false := by simpa using hb0
    have HB0 := hide hb0
    clear hb0
    go_wp2_with fail
    refine (CB _).out.mono ?_
    rintro e w1 ⟨g, u, v, rfl, hbez, hb⟩
    simp only [fv]
    have F1 := hide ((FF.out.below hb).below (bel_e w1 (.cells #[.int .i64 0, .int .i64 0] 24)))
    have HBB := hide (below_new (below_new hb))
    have HB2 := hide (HBB.out.alloc HBB.out.size (.cells #[.int .i64 0, .int .i64 0] 24))
    obtain ⟨G, hG⟩ : ∃ G : Nat, Int.gcd a b = G := ⟨_, rfl⟩
    have hgG : g = (G : Int) := by rw [hbez.gcd, hG]
    subst hgG
    have hG0 : 0 < G := by rw [← hG]; exact Int.gcd_pos_of_ne_zero_right _ HB0.out
    have hGb : G ≤ b.natAbs := by rw [← hG]; exact Nat.le_of_dvd (by have := HB0.out; omega) (Int.natAbs_dvd_natAbs.2 (Int.gcd_dvd_right ..))
    have hG9 : G ≤ 1000000000 := by have := HB.out; omega
    have HBez := hide hbez
    have HGG := hide hG
    clear hb hbez hG FF CB F4 HBB
    by_cases hcg : c % (G : Int) = 0
    · obtain ⟨T, hT⟩ : (G : Int) ∣ c := Int.dvd_of_emod_eq_zero hcg
      have hTc : c.tmod (G : Int) = 0 := Int.tmod_eq_zero_of_dvd ⟨T, hT⟩
      have hTd : c.tdiv (G : Int) = T := by rw [hT]; exact Int.mul_tdiv_cancel_left _ (by omega)
      have hTe : c / (G : Int) = T := by rw [hT]; exact Int.mul_ediv_cancel_left _ (by omega)
      have hTl : T.natAbs ≤ c.natAbs := by
        have := Int.natAbs_mul (G : Int) T
        rw [← hT] at this
        rw [this]
        exact Nat.le_mul_of_pos_left _ (by omega)
      obtain ⟨B, hB⟩ : ∃ B : Nat, b.natAbs = B := ⟨_, rfl⟩
      have hmax : max b (-b) = (B : Int) := by omega
      obtain ⟨M, hM⟩ : ∃ M : Nat, B / G = M := ⟨_, rfl⟩
      have hM0 : 0 < M := by rw [← hM]; exact Nat.div_pos (by omega) hG0
      have hMB : M ≤ B := by rw [← hM]; exact Nat.div_le_self ..
      have hdiv : (B : Int) / (G : Int) = (M : Int) := by rw [← Int.natCast_ediv, hM]
      have hdiv2 : (B : Int).tdiv (G : Int) = (M : Int) := by rw [Int.tdiv_eq_ediv_of_nonneg (by omega), hdiv]
      have hB9 : B ≤ 1000000000 := by have := HB.out; omega
      have hus := HBez.out.us
      have hwr1 : IntKind.i64.wrap (-b) = -b := by rw [IntKind.wrap_i64]; have := HB.out; omega
      have CT := fun W => hide (times_any u T M W (by omega) (by omega) (by omega) (by omega) (by have := HC.out; omega) (by have := HC.out; omega))
      obtain ⟨X, hX⟩ : ∃ X, u * T % (M : Int) = X := ⟨_, rfl⟩
      rw [hX] at CT
      obtain ⟨X0, X1⟩ := lin_mem hX.symm hM0
      obtain ⟨Y, hY⟩ : ∃ Y, c - a * X = b * Y := by
        have := lin_solve (c := c) HB0.out HGG.out HBez.out.eq hcg
        rw [hTe, hB, hM, hX] at this
        exact this
      have hYd : (c - a * X).tdiv b = Y := by rw [hY]; exact Int.mul_tdiv_cancel_left _ HB0.out
      have haX : (a * X).natAbs ≤ 1000000000 * 999999999 := by
        rw [Int.natAbs_mul]
        exact Nat.mul_le_mul (by have := HA.out; omega) (by omega)
      have hYl : Y.natAbs ≤ 1000000000000000000 := by
        have h1 := Int.natAbs_mul b Y
        rw [← hY] at h1
        have h2 : Y.natAbs ≤ b.natAbs * Y.natAbs := Nat.le_mul_of_pos_left _ (by omega)
        have := HC.out
        omega
      have V1 : IntKind.i64.wrap (a * X) = a * X := by rw [IntKind.wrap_i64]; omega
      have V2 : IntKind.i64.wrap (c - a * X) = c - a * X := by rw [IntKind.wrap_i64]; have := HC.out; omega
      have V3 : IntKind.i64.wrap Y = Y := by rw [IntKind.wrap_i64]; omega
      have HOK : Hid (LinOk a b c X Y (0, 0)) := by
        refine hide ⟨?_, fun h => absurd rfl h, fun _ => ⟨X0, ?_, by omega, by omega, by omega⟩⟩
        · unfold linF
          rw [if_neg (fun h => h H0.out), if_neg HB0.out, HGG.out, if_neg (fun h => h hcg)]
        · rw [HGG.out, hB, hM]; exact X1
      have HW := hide (And.intro hmax (And.intro hdiv hdiv2))
      have HV := hide (And.intro V1 (And.intro V2 (And.intro hYd V3)))
      have hB1 : 1 ≤ B := by omega
      have hT1 : -1000000000 ≤ T := by have := HC.out; omega
      have hT2 : T ≤ 1000000000 := by have := HC.out; omega
      have hT3 : IntKind.i64.wrap T = T := by rw [IntKind.wrap_i64]; omega
      clear hT hTe hTl hB hM hX hY haX hYl hus hcg V1 V2 V3 hYd hGb
      obtain ⟨hmax, hdiv, hdiv2⟩ := HW.out
      clear HW
      go_wp2_with fail
      refine (CT _).out.mono ?_
      rintro e w2 ⟨rfl, nd, hw2⟩
      obtain ⟨V1, V2, hYd, V3⟩ := HV.out
      have F2 := F1.out.below (below_drewN (Below.refl _ _) nd)
      have HB3 := below_drewN HB2.out nd
      rw [← hw2] at F2 HB3
      obtain ⟨d0, d1, f0, f1⟩ := F2.cells
      obtain ⟨p0, p1⟩ := F2.put 0 0
      have B6 := hide (below_fault (u := .int .i64 0) (v := .int .i64 0) HB3 (Nat.le_refl w.heap.size))
      clear hw2 HB3
      clear HV F2 CT hmax hdiv hdiv2
      go_wp2_with fail
      go_region
      go_wp2_with fail
      exact bodyPost_ret (v := .tuple #[.int .i64 X, .int .i64 Y, fv (0, 0)]) (by simp [results, Try.results12, go_sem, fv, p0, p1]) rfl ⟨X, Y, (0, 0), rfl, HOK.out, B6.out.drew⟩
    · have hTc : (c.tmod (G : Int) == 0) = false := by
        rw [beq_eq_false_iff_ne]
        intro h
        exact hcg (Int.emod_eq_zero_of_dvd (Int.dvd_of_tmod_eq_zero h))
      have hTd : decide (c.tmod (G : Int) = 0) = false := by
        rw [decide_eq_false_iff_not]
        intro h
        exact hcg (Int.emod_eq_zero_of_dvd (Int.dvd_of_tmod_eq_zero h))
      have hTn : (c.tmod (G : Int) != 0) = true := by
        rw [bne_iff_ne]
        intro h
        exact hcg (Int.emod_eq_zero_of_dvd (Int.dvd_of_tmod_eq_zero h))
      have HCG := hide hcg
      clear hcg hGb
      go_wp2_with fail
      refine (F5 _).out.mono ?_
      rintro e w2 ⟨rfl, hb⟩
      have F2 := F1.out.below hb
      have HB3 := hide (HB2.out.trans (hb.mono HB2.out.size))
      obtain ⟨d0, d1, f0, f1⟩ := F2.cells
      obtain ⟨p0, p1⟩ := F2.put 5 0
      have B6 := hide (below_fault (u := .int .i64 5) (v := .int .i64 0) HB3.out (Nat.le_refl w.heap.size))
      clear hb F2
      go_wp2_with fail
      exact bodyPost_ret (v := .tuple #[.int .i64 0, .int .i64 0, fv (5, 0)]) (by simp [results, Try.results12, go_sem, fv, p0, p1]) rfl ⟨0, 0, (5, 0), rfl, ⟨by unfold linF; rw [if_neg (fun h => h H0.out), if_neg HB0.out, HGG.out, if_pos HCG.out], fun _ => ⟨rfl, rfl⟩, fun h => by simp at h⟩, B6.out⟩

theorem linear_any (a b c : Int) (w : World) :
    Calls Try.prog 12 #[.int .i64 a, .int .i64 b, .int .i64 c] w (RetLin w a b c) := by
  rcases bigK_cases a b c with ⟨h0, ha, hb, hc⟩ | ⟨k, hk, h0, hlow, x, hx, hbad⟩
  · exact linear_small a b c w ha hb hc h0
  · refine (linear_big a b c k w hk hlow x hx hbad).mono ?_
    rintro e w' ⟨rfl, hb⟩
    exact ⟨0, 0, (3, (k : Int)), rfl, ⟨by unfold linF; rw [h0, if_pos (by simp)], fun _ => ⟨rfl, rfl⟩, fun h => by simp at h⟩, hb⟩
end Go.Proofs.Ytgocnjklpafabaa
