/- The walk of frac.Next. -/
import Derived.Test.YtojehmmkdkfkjaaGreatDoorKNextW
import Derived.Test.YtojehmmkdkfkjaaGreatDoorKWholeC
import Derived.Test.YtojehmmkdkfkjaaGreatDoorK0
namespace Go.Proofs.YtojehmmkdkfkjaaGreatDoor
open Go.RowKit
open FA

/-- the fault of Next -/
def wA (u v n : Int) : Int × Int := if (fracF u v).1 = 0 ∧ (n < v ∨ 1000000 < n) then (3, 1) else fracF u v
def nextF (u v n : Int) : Int × Int := if (wA u v n).1 = 0 ∧ (1000000 < u ∨ u < -1000000) then (9, 0) else wA u v n
/-- what Next hands back -/
structure NextIs (u v n P Q : Int) : Prop where
  det : P * v - u * Q = 1
  lo : 1 ≤ Q
  hi : Q ≤ n
  far : n < Q + v
def RetNext (w : World) (u v n : Int) : Ending → World → Prop := fun e w' => ∃ P Q k m : Int, e = .returned (.tuple #[.agg #[.int .i64 P, .int .i64 Q], .agg #[.int .i64 k, .int .i64 m]]) ∧ (k, m) = nextF u v n ∧ (k ≠ 0 → P = 0 ∧ Q = 0) ∧ (k = 0 → NextIs u v n P Q) ∧ Below w.heap.size w w'
/-- Next's memory -/
structure NS (w W : World) (u v : Int) : Prop where
  f : QC W w.heap.size u v
  r : QC W (w.heap.size + 1) 0 0
  e : FC W (w.heap.size + 1 + 1) 0 0
  b : Below w.heap.size w W
theorem NS.below {w W W' : World} {u v : Int} (h : NS w W u v) (k : Below W.heap.size W W') : NS w W' u v := ⟨h.f.below k, h.r.below k, h.e.below k, h.b.trans (k.mono h.b.size)⟩
theorem NS.start (w : World) (u v : Int) : NS w (((w.alloc (.cells #[.int .i64 u, .int .i64 v] 23)).alloc (.cells #[.int .i64 0, .int .i64 0] 23)).alloc (.cells #[.int .i64 0, .int .i64 0] 25)) u v := by
  have h := NX.start w u v
  have F := FC.made ((w.alloc (.cells #[.int .i64 u, .int .i64 v] 23)).alloc (.cells #[.int .i64 0, .int .i64 0] 23)) 0 0
  rw [World.size_alloc, World.size_alloc] at F
  exact ⟨h.f.below (bel_new _ _), h.r.below (bel_new _ _), F, h.b.alloc h.b.size _⟩
theorem QC.other {w : World} {g : Nat} {a b : Int} (h : QC w g a b) {p : Addr} (hp : g ≠ p.block) (v : Value) : QC (w.setCell p v) g a b := (Below.heap_setCell _ _ _ _ hp).trans h
theorem QC.cell1 {w : World} {g k : Nat} {a b : Int} (h : QC w g a b) (hk : k ≠ g) (i : Nat) (v : Value) : QC (w.setCell ⟨k, i, none⟩ v) g a b := h.other (p := ⟨k, i, none⟩) (fun e => hk e.symm) v
theorem NS.fin {w W : World} {u v : Int} (h : NS w W u v) (P Q k m : Int) : (∀ X, X = (((W.setCell ⟨w.heap.size + 1, 0, none⟩ (.int .i64 P)).setCell ⟨w.heap.size + 1, 1, none⟩ (.int .i64 Q)).setCell ⟨w.heap.size + 1 + 1, 0, none⟩ (.int .i64 k)).setCell ⟨w.heap.size + 1 + 1, 1, none⟩ (.int .i64 m) → QC X (w.heap.size + 1) P Q ∧ FC X (w.heap.size + 1 + 1) k m ∧ Below w.heap.size w X) := by
  rintro X rfl
  refine ⟨((h.r.put P Q).cell1 (by omega) _ _).cell1 (by omega) _ _, ?_, (((h.b.setCell (p := ⟨w.heap.size + 1, 0, none⟩) (Nat.le_succ _) _).setCell (p := ⟨w.heap.size + 1, 1, none⟩) (Nat.le_succ _) _).setCell (p := ⟨w.heap.size + 1 + 1, 0, none⟩) (by simp; omega) _).setCell (p := ⟨w.heap.size + 1 + 1, 1, none⟩) (by simp; omega) _⟩
  have h1 : FC ((W.setCell ⟨w.heap.size + 1, 0, none⟩ (.int .i64 P)).setCell ⟨w.heap.size + 1, 1, none⟩ (.int .i64 Q)) (w.heap.size + 1 + 1) 0 0 :=
    (Below.heap_setCell _ ⟨w.heap.size + 1, 1, none⟩ _ _ (by simp)).trans ((Below.heap_setCell _ ⟨w.heap.size + 1, 0, none⟩ _ _ (by simp)).trans h.e)
  exact (h1.set0 k).set1 m

set_option maxRecDepth 100000 in
set_option maxHeartbeats 3200000 in
theorem next_f1 (u v n : Int) (w : World) (hF : (fracF u v).1 ≠ 0) : Calls Tryz.prog 4 #[.agg #[.int .i64 u, .int .i64 v], .int .i64 n] w (RetNext w u v n) := by
  obtain ⟨k, m, hkm⟩ : ∃ k m, fracF u v = (k, m) := ⟨_, _, rfl⟩
  have hk : k ≠ 0 := by rw [hkm] at hF; exact hF
  have CL := fun W => hide (flook_any u v W)
  unfold RetFault at CL
  rw [hkm] at CL
  simp only [fv] at CL
  have hN : nextF u v n = (k, m) := by
    have h1 : wA u v n = (k, m) := by unfold wA; rw [if_neg (fun h => hF h.1), hkm]
    unfold nextF
    rw [h1, if_neg (fun h => hk h.1)]
  have HNF := hide (And.intro hN.symm hk)
  have k1 : (k != 0) = true := by simpa using hk
  have k2 : decide (k = 0) = false := by simpa using hk
  have H0 := hide (NS.start w u v)
  clear hF hkm hk hN
  go_enter Tryz.func4, Tryz.ntmps4
  go_upto_region 1 with (fail)
  obtain ⟨W0, hW⟩ : ∃ Z, ((w.alloc (.cells #[.int .i64 u, .int .i64 v] 23)).alloc (.cells #[.int .i64 0, .int .i64 0] 23)).alloc (.cells #[.int .i64 0, .int .i64 0] 25) = Z := ⟨_, rfl⟩
  rw [hW] at H0
  (try rw [hW])
  clear hW
  obtain ⟨f0, f1, _, _⟩ := H0.out.f.cells
  go_wp2_with fail
  refine (CL _).out.mono ?_
  rintro e w1 ⟨rfl, hb⟩
  have H1 := hide ((H0.out.below hb).below (bel_new w1 (.cells #[.int .i64 k, .int .i64 m] 25)))
  have HF := hide (FC.made w1 k m)
  obtain ⟨g, hg⟩ : ∃ g, w1.heap.size = g := ⟨_, rfl⟩
  obtain ⟨W1, hW⟩ : ∃ Z, w1.alloc (.cells #[.int .i64 k, .int .i64 m] 25) = Z := ⟨_, rfl⟩
  have HG := hide (show w.heap.size + 1 + 1 < g from by rw [← hg]; exact (H0.out.below hb).e.lt)
  rw [hW] at H1 HF
  rw [hg] at HF
  clear hb H0 CL f0 f1
  go_upto_region 2 with (fail)
  (try rw [hW])
  (try rw [hg])
  clear hW hg
  have hgg : w.heap.size + 1 + 1 < g := HG.out
  obtain ⟨e0, e1, e2, e3⟩ := HF.out.cells
  obtain ⟨r0, r1, r2, r3⟩ := H1.out.r.cells
  obtain ⟨s0, s1, s2, s3⟩ := H1.out.e.cells
  go_upto_region 3 with (fail)
  go_region
  have FIN := H1.out.fin 0 0 k m
  generalize hX : World.setCell _ _ _ = X
  obtain ⟨F1, F2, F3⟩ := FIN X hX.symm
  clear FIN hX e0 e1 e2 e3 r0 r1 r2 r3 s0 s1 s2 s3
  obtain ⟨G0, G1, _, _⟩ := (show QC X.drew (w.heap.size + 1) 0 0 from F1).cells
  obtain ⟨G2, G3, _, _⟩ := (show FC X.drew (w.heap.size + 1 + 1) k m from F2).cells
  go_wp2_with fail
  exact bodyPost_ret (v := .tuple #[.agg #[.int .i64 0, .int .i64 0], .agg #[.int .i64 k, .int .i64 m]]) (by simp [results, Tryz.results4, go_sem, G0, G1, G2, G3]) rfl ⟨0, 0, k, m, rfl, HNF.out.1, fun _ => ⟨rfl, rfl⟩, fun h => absurd h HNF.out.2, F3.drew⟩

/-- the walk behind a fault of its own -/
theorem next_vals {u v n : Int} (hF : (fracF u v).1 = 0) : (n < v ∨ 1000000 < n → nextF u v n = (3, 1)) ∧ (¬ (n < v ∨ 1000000 < n) → (1000000 < u ∨ u < -1000000) → nextF u v n = (9, 0)) ∧ (¬ (n < v ∨ 1000000 < n) → ¬ (1000000 < u ∨ u < -1000000) → nextF u v n = (0, 0)) := by
  have h0 := (fracF_ok hF).1
  refine ⟨fun h => ?_, fun h h2 => ?_, fun h h2 => ?_⟩
  · have h1 : wA u v n = (3, 1) := by unfold wA; rw [if_pos ⟨hF, h⟩]
    unfold nextF
    rw [h1, if_neg (fun h => absurd h.1 (by decide))]
  · have h1 : wA u v n = (0, 0) := by unfold wA; rw [if_neg (fun k => h k.2), h0]
    unfold nextF
    rw [h1, if_pos ⟨rfl, h2⟩]
  · have h1 : wA u v n = (0, 0) := by unfold wA; rw [if_neg (fun k => h k.2), h0]
    unfold nextF
    rw [h1, if_neg (fun k => h2 k.2)]

set_option maxRecDepth 100000 in
set_option maxHeartbeats 3200000 in
theorem next_f2 (u v n : Int) (w : World) (hF : (fracF u v).1 = 0) (h : n < v ∨ 1000000 < n) : Calls Tryz.prog 4 #[.agg #[.int .i64 u, .int .i64 v], .int .i64 n] w (RetNext w u v n) := by
  have hok := fracF_ok hF
  have CL := fun W => hide (flook_any u v W)
  unfold RetFault at CL
  rw [hok.1] at CL
  simp only [fv] at CL
  have HNF := hide ((next_vals hF).1 h)
  have CE := fun W => hide (ffault_any 3 1 W)
  have hc : decide (n < v) = true ∨ (decide (n < v) = false ∧ decide (1000000 < n) = true) := by
    by_cases h0 : n < v
    · left; simpa using h0
    · right
      refine ⟨by simpa using h0, ?_⟩
      simp; omega
  clear hF h hok
  have H0 := hide (NS.start w u v)
  go_enter Tryz.func4, Tryz.ntmps4
  go_upto_region 1 with (fail)
  obtain ⟨W0, hW⟩ : ∃ Z, ((w.alloc (.cells #[.int .i64 u, .int .i64 v] 23)).alloc (.cells #[.int .i64 0, .int .i64 0] 23)).alloc (.cells #[.int .i64 0, .int .i64 0] 25) = Z := ⟨_, rfl⟩
  rw [hW] at H0
  (try rw [hW])
  clear hW
  obtain ⟨f0, f1, _, _⟩ := H0.out.f.cells
  go_wp2_with fail
  refine (CL _).out.mono ?_
  rintro e w1 ⟨rfl, hb⟩
  have H1 := hide ((H0.out.below hb).below (bel_new w1 (.cells #[.int .i64 0, .int .i64 0] 25)))
  have HF := hide (FC.made w1 0 0)
  clear hb H0 CL f0 f1
  go_upto_region 2 with (fail)
  obtain ⟨g, hg⟩ : ∃ g, w1.heap.size = g := ⟨_, rfl⟩
  obtain ⟨W1, hW⟩ : ∃ Z, w1.alloc (.cells #[.int .i64 0, .int .i64 0] 25) = Z := ⟨_, rfl⟩
  rw [hW] at H1 HF
  rw [hg] at HF
  (try rw [hW])
  (try rw [hg])
  clear hW hg
  obtain ⟨e0, _, _, _⟩ := HF.out.cells
  obtain ⟨f0, f1, _, _⟩ := H1.out.f.cells
  rcases hc with h0 | ⟨h0, h1⟩
  all_goals
    go_wp2_with fail
    refine (CE _).out.mono ?_
    rintro e w2 ⟨rfl, hb⟩
    have H2 := hide (H1.out.below hb)
    clear hb CE e0 f0 f1
    obtain ⟨r0, r1, r2, r3⟩ := H2.out.r.cells
    obtain ⟨s0, s1, s2, s3⟩ := H2.out.e.cells
    have FIN := H2.out.fin 0 0 3 1
    go_wp2_with fail
    generalize hX : World.setCell _ _ _ = X
    obtain ⟨F1, F2, F3⟩ := FIN X hX.symm
    obtain ⟨G0, G1, _, _⟩ := F1.cells
    obtain ⟨G2, G3, _, _⟩ := F2.cells
    exact bodyPost_ret (v := .tuple #[.agg #[.int .i64 0, .int .i64 0], .agg #[.int .i64 3, .int .i64 1]]) (by simp [results, Tryz.results4, go_sem, G0, G1, G2, G3]) rfl ⟨0, 0, 3, 1, rfl, HNF.out.symm, fun _ => ⟨rfl, rfl⟩, fun h => absurd h (by decide), F3⟩

set_option maxRecDepth 100000 in
set_option maxHeartbeats 3200000 in
theorem next_f3 (u v n : Int) (w : World) (hF : (fracF u v).1 = 0) (h : ¬ (n < v ∨ 1000000 < n)) (h2 : 1000000 < u ∨ u < -1000000) : Calls Tryz.prog 4 #[.agg #[.int .i64 u, .int .i64 v], .int .i64 n] w (RetNext w u v n) := by
  have hok := fracF_ok hF
  have CL := fun W => hide (flook_any u v W)
  unfold RetFault at CL
  rw [hok.1] at CL
  simp only [fv] at CL
  have HNF := hide ((next_vals hF).2.1 h h2)
  have CE := fun W => hide (ffault_any 9 0 W)
  have l1 := ok_lims hok.2.1
  have h0 : decide (n < v) = false := by simp; omega
  have h1 : decide (1000000 < n) = false := by simp; omega
  have I1 : wrap64 (-u) = -u := by unfold wrap64; omega
  obtain ⟨M, hM⟩ : ∃ M, max u (-u) = M := ⟨_, rfl⟩
  have h3 : decide (1000000 < M) = true := by rw [decide_eq_true_eq]; omega
  clear hF h h2 hok l1
  have H0 := hide (NS.start w u v)
  go_enter Tryz.func4, Tryz.ntmps4
  go_upto_region 1 with (fail)
  obtain ⟨W0, hW⟩ : ∃ Z, ((w.alloc (.cells #[.int .i64 u, .int .i64 v] 23)).alloc (.cells #[.int .i64 0, .int .i64 0] 23)).alloc (.cells #[.int .i64 0, .int .i64 0] 25) = Z := ⟨_, rfl⟩
  rw [hW] at H0
  (try rw [hW])
  clear hW
  obtain ⟨f0, f1, _, _⟩ := H0.out.f.cells
  go_wp2_with fail
  refine (CL _).out.mono ?_
  rintro e w1 ⟨rfl, hb⟩
  have H1 := hide ((H0.out.below hb).below (bel_new w1 (.cells #[.int .i64 0, .int .i64 0] 25)))
  have HF := hide (FC.made w1 0 0)
  clear hb H0 CL f0 f1
  go_upto_region 2 with (fail)
  obtain ⟨g, hg⟩ : ∃ g, w1.heap.size = g := ⟨_, rfl⟩
  obtain ⟨W1, hW⟩ : ∃ Z, w1.alloc (.cells #[.int .i64 0, .int .i64 0] 25) = Z := ⟨_, rfl⟩
  rw [hW] at H1 HF
  rw [hg] at HF
  (try rw [hW])
  (try rw [hg])
  clear hW hg
  obtain ⟨e0, _, _, _⟩ := HF.out.cells
  obtain ⟨f0, f1, _, _⟩ := H1.out.f.cells
  go_wp2_with fail
  refine (CE _).out.mono ?_
  rintro e w2 ⟨rfl, hb⟩
  have H2 := hide (H1.out.below hb)
  clear hb CE e0 f0 f1
  obtain ⟨r0, r1, r2, r3⟩ := H2.out.r.cells
  obtain ⟨s0, s1, s2, s3⟩ := H2.out.e.cells
  have FIN := H2.out.fin 0 0 9 0
  go_wp2_with fail
  generalize hX : World.setCell _ _ _ = X
  obtain ⟨F1, F2, F3⟩ := FIN X hX.symm
  obtain ⟨G0, G1, _, _⟩ := F1.cells
  obtain ⟨G2, G3, _, _⟩ := F2.cells
  exact bodyPost_ret (v := .tuple #[.agg #[.int .i64 0, .int .i64 0], .agg #[.int .i64 9, .int .i64 0]]) (by simp [results, Tryz.results4, go_sem, G0, G1, G2, G3]) rfl ⟨0, 0, 9, 0, rfl, HNF.out.symm, fun _ => ⟨rfl, rfl⟩, fun h => absurd h (by decide), F3⟩
/-- the next fraction's lower part -/
theorem next_arith {u v n d0 : Int} (hv : 1 ≤ v) (hvn : v ≤ n) (h0 : 0 ≤ d0) (h1 : d0 < v) (hd : v ∣ u * d0 + 1) : ∃ q d P : Int, (n - d0) / v = q ∧ d0 + q * v = d ∧ (1 + u * d) = v * P ∧ NextIs u v n P d ∧ 0 ≤ q ∧ q ≤ n ∧ q * v ≤ n := by
  obtain ⟨q, hq⟩ : ∃ q, (n - d0) / v = q := ⟨_, rfl⟩
  have e1 := Int.mul_ediv_add_emod (n - d0) v
  have e2 := Int.emod_nonneg (n - d0) (show v ≠ 0 by omega)
  have e3 := Int.emod_lt_of_pos (n - d0) (show 0 < v by omega)
  rw [hq] at e1
  have e4 : v * q = q * v := Int.mul_comm ..
  have hq0 : 0 ≤ q := by rw [← hq]; exact Int.ediv_nonneg (by omega) (by omega)
  have hqn : q ≤ n := by
    rw [← hq]
    have := Int.ediv_le_self v (show 0 ≤ n - d0 by omega)
    omega
  obtain ⟨t, ht⟩ := hd
  have e5 : 1 + u * (d0 + q * v) = v * (t + u * q) := by
    have : u * (d0 + q * v) = u * d0 + v * (u * q) := by grind
    rw [this, Int.mul_add]
    omega
  refine ⟨q, d0 + q * v, t + u * q, hq, rfl, e5, ⟨?_, ?_, by omega, by omega⟩, hq0, hqn, by omega⟩
  · rw [Int.mul_comm (t + u * q) v, ← e5]; omega
  · by_cases hd0 : d0 = 0
    · subst hd0
      have hv1 : v = 1 := by
        have : v ∣ 1 := ⟨t, by rw [← ht]; omega⟩
        have := Int.le_of_dvd (by omega) this
        omega
      subst hv1
      omega
    · have := Int.mul_nonneg hq0 (show 0 ≤ v by omega)
      omega

set_option maxRecDepth 100000 in
set_option maxHeartbeats 3200000 in
theorem next_ok (u v n : Int) (w : World) (hF : (fracF u v).1 = 0) (h : ¬ (n < v ∨ 1000000 < n)) (h2 : ¬ (1000000 < u ∨ u < -1000000)) : Calls Tryz.prog 4 #[.agg #[.int .i64 u, .int .i64 v], .int .i64 n] w (RetNext w u v n) := by
  have hok := fracF_ok hF
  have CL := fun W => hide (flook_any u v W)
  unfold RetFault at CL
  rw [hok.1] at CL
  simp only [fv] at CL
  have HNF := hide ((next_vals hF).2.2 h h2)
  have h0 : decide (n < v) = false := by simp; omega
  have h1 : decide (1000000 < n) = false := by simp; omega
  have I1 : wrap64 (-u) = -u := by unfold wrap64; omega
  obtain ⟨M, hM⟩ : ∃ M, max u (-u) = M := ⟨_, rfl⟩
  have h3 : decide (1000000 < M) = false := by simp; omega
  have hv : 1 ≤ v := hok.2.2.2.1
  have hg : Int.gcd u v = 1 := hok.2.2.2.2
  clear hok hF
  have H0 := hide (NS.start w u v)
  go_enter Tryz.func4, Tryz.ntmps4
  go_upto_region 1 with (fail)
  obtain ⟨W0, hW⟩ : ∃ Z, ((w.alloc (.cells #[.int .i64 u, .int .i64 v] 23)).alloc (.cells #[.int .i64 0, .int .i64 0] 23)).alloc (.cells #[.int .i64 0, .int .i64 0] 25) = Z := ⟨_, rfl⟩
  rw [hW] at H0
  (try rw [hW])
  clear hW
  obtain ⟨f0, f1, _, _⟩ := H0.out.f.cells
  go_wp2_with fail
  refine (CL _).out.mono ?_
  rintro e w1 ⟨rfl, hb⟩
  have H1 := hide ((H0.out.below hb).below (bel_new w1 (.cells #[.int .i64 0, .int .i64 0] 25)))
  have HF := hide (FC.made w1 0 0)
  clear hb H0 CL f0 f1
  go_upto_region 2 with (fail)
  obtain ⟨g, hg0⟩ : ∃ g, w1.heap.size = g := ⟨_, rfl⟩
  obtain ⟨W1, hW⟩ : ∃ Z, w1.alloc (.cells #[.int .i64 0, .int .i64 0] 25) = Z := ⟨_, rfl⟩
  rw [hW] at H1 HF
  rw [hg0] at HF
  (try rw [hW])
  (try rw [hg0])
  clear hW hg0
  obtain ⟨e0, _, _, _⟩ := HF.out.cells
  obtain ⟨f0, f1, _, _⟩ := H1.out.f.cells
  go_upto_if 38 with (fail)
  go_cut [7] (fun dv wd => ∃ d0 : Int, dv = .int .i64 d0 ∧ Hid (0 ≤ d0 ∧ d0 < v ∧ v ∣ u * d0 + 1) ∧ Hid (NS w wd u v))
  case first => as_aux_lemma =>
    by_cases hv1 : v = 1
    · subst hv1
      have HD := hide (show (0 : Int) ≤ 0 ∧ (0 : Int) < 1 ∧ (1 : Int) ∣ u * 0 + 1 from ⟨by omega, by omega, Int.one_dvd _⟩)
      clear h h2 hv hg
      go_wp2_with fail
      go_meet
      exact ⟨0, rfl, HD, H1⟩
    · have g1 : decide (1 < v) = true := by rw [decide_eq_true_eq]; omega
      have CI := fun W => hide (inverse_any (-u) v W)
      have hi : invF (-u) v = (0, 0) := by
        unfold invF
        have hl : lookK 0 [-u, v] = (0, 0) := by
          rcases lookK_two (-u) v with ⟨_, h, _⟩ | ⟨_, h⟩
          · exact h
          · unfold okB at h; simp at h; omega
        rw [hl, if_neg (by simp), if_neg (by omega), if_neg (by rw [Int.neg_gcd]; simpa using hg)]
      unfold RetNF at CI
      rw [hi] at CI
      simp only [fv] at CI
      clear h h2 hv hv1 hg hi
      rw [g1]
      go_wp2_with fail
      refine (CI _).out.mono ?_
      rintro e w2 ⟨p, rfl, hp, _, hb⟩
      have hp := hp trivial
      have HD := hide (show 0 ≤ p ∧ p < v ∧ v ∣ u * p + 1 from ⟨hp.1, hp.2.1, by
        obtain ⟨t, ht⟩ := hp.2.2
        exact ⟨-t, by rw [Int.mul_neg, ← ht, Int.neg_mul]; omega⟩⟩)
      have H2 := hide ((H1.out.below hb).below (bel_new w2 (.cells #[.int .i64 0, .int .i64 0] 25)))
      clear hp hb CI H1 HF e0 f0 f1
      go_wp2_with fail
      go_meet
      exact ⟨p, rfl, HD, H2⟩
  case rest =>
    obtain ⟨d0, rfl, HD, H2⟩ := hcut
    obtain ⟨w2, rfl⟩ : ∃ Z, Z = wc := ⟨_, rfl⟩
    obtain ⟨hd0, hd1, hdv⟩ := HD.out
    obtain ⟨q, d, P, hq, hd, hP, hN, hq0, hqn, hqv⟩ := next_arith (n := n) hv (by omega) hd0 hd1 hdv
    have hdn := hN.hi
    have hd1 := hN.lo
    have hud : (u * d).natAbs ≤ 1000000000000 := by
      rw [Int.natAbs_mul]
      exact Nat.le_trans (Nat.mul_le_mul (show u.natAbs ≤ 1000000 by omega) (show d.natAbs ≤ 1000000 by omega)) (by omega)
    have hPb : -1000000000001 ≤ P ∧ P ≤ 1000000000001 := by
      have h1 : (v * P).natAbs ≤ 1000000000001 := by rw [← hP]; omega
      rw [Int.natAbs_mul] at h1
      have h2 : 1 * P.natAbs ≤ v.natAbs * P.natAbs := Nat.mul_le_mul_right _ (by omega)
      omega
    have J1 : wrap64 (n - d0) = n - d0 := by unfold wrap64; omega
    have J2 : (n - d0).tdiv v = q := by rw [Int.tdiv_eq_ediv_of_nonneg (by omega)]; exact hq
    have J3 : wrap64 q = q := by unfold wrap64; omega
    have J4 : wrap64 (q * v) = q * v := by have := Int.mul_nonneg hq0 (show 0 ≤ v by omega); unfold wrap64; omega
    have J5 : wrap64 (d0 + q * v) = d := by rw [hd]; unfold wrap64; omega
    have J6 : wrap64 (u * d) = u * d := by unfold wrap64; omega
    have J7 : wrap64 (1 + u * d) = 1 + u * d := by unfold wrap64; omega
    have J8 : (1 + u * d).tdiv v = P := by rw [hP]; exact Int.mul_tdiv_cancel_left _ (by omega)
    have J9 : wrap64 P = P := by unfold wrap64; omega
    have J10 : (1 + u * d) / v = P := by rw [hP]; exact Int.mul_ediv_cancel_left _ (by omega)
    have J11 : (n - d0) / v = q := hq
    have HN := hide hN
    have hv0 : (v == 0) = false := by simp; omega
    have hv00 : ¬ v = 0 := by omega
    obtain ⟨bt, hbt⟩ : ∃ bt, decide (1 < v) = bt := ⟨_, rfl⟩
    (try rw [hbt])
    clear hbt
    clear h h2 hq hd hP hN hq0 hqn hqv hdn hd1 hud hPb hdv hd0 HD hv hg H1 HF e0 f0 f1
    obtain ⟨f0, f1, _, _⟩ := H2.out.f.cells
    obtain ⟨r0, r1, r2, r3⟩ := H2.out.r.cells
    obtain ⟨s0, s1, s2, s3⟩ := H2.out.e.cells
    go_upto_region 12 with (fail)
    go_quiet (fail)
    rw [J5]
    have H3 := hide (H2.out.below (below_drewN (Below.refl _ _) nq))
    obtain ⟨w3, hw3⟩ : ∃ Z, w2.drewN nq = Z := ⟨_, rfl⟩
    rw [hw3] at H3
    rw [hw3]
    clear hw3 H2 f0 f1 r0 r1 r2 r3 s0 s1 s2 s3
    obtain ⟨f0, f1, _, _⟩ := H3.out.f.cells
    obtain ⟨r0, r1, r2, r3⟩ := H3.out.r.cells
    obtain ⟨s0, s1, s2, s3⟩ := H3.out.e.cells
    have FIN := H3.out.fin P d 0 0
    go_wp2_with fail
    generalize hX : World.setCell _ _ _ = X
    obtain ⟨F1, F2, F3⟩ := FIN X hX.symm
    obtain ⟨G0, G1, _, _⟩ := F1.cells
    obtain ⟨G2, G3, _, _⟩ := F2.cells
    exact bodyPost_ret (v := .tuple #[.agg #[.int .i64 P, .int .i64 d], .agg #[.int .i64 0, .int .i64 0]]) (by simp [results, Tryz.results4, go_sem, G0, G1, G2, G3]) rfl ⟨P, d, 0, 0, rfl, HNF.out.symm, fun h => absurd rfl h, fun _ => HN.out, F3⟩

theorem next_any (u v n : Int) (w : World) : Calls Tryz.prog 4 #[.agg #[.int .i64 u, .int .i64 v], .int .i64 n] w (RetNext w u v n) := by
  by_cases hF : (fracF u v).1 = 0
  · by_cases h : n < v ∨ 1000000 < n
    · exact next_f2 u v n w hF h
    · by_cases h2 : 1000000 < u ∨ u < -1000000
      · exact next_f3 u v n w hF h h2
      · exact next_ok u v n w hF h h2
  · exact next_f1 u v n w hF
end Go.Proofs.YtojehmmkdkfkjaaGreatDoor
