/- The walk of the law FormComposes, by cases. -/
import Derived.Test.YtlchmaiflcnaoaaFcW
namespace Go.Proofs.Ytlchmaiflcnaoaa
open Go.RowKit

set_option maxRecDepth 100000 in
set_option maxHeartbeats 6400000 in
theorem fcomp_c1 (a1 b1 c1 a2 b2 c2 : Int) (w : World) (h1 : (formF a1 b1 c1).1 ≠ 0) : Calls Try.prog 4 #[.agg #[.int .i64 a1, .int .i64 b1, .int .i64 c1], .agg #[.int .i64 a2, .int .i64 b2, .int .i64 c2]] w fun e w' => e = .returned (.bool true) ∧ Below w.heap.size w w' := by
  have CF1 := fun W => hide (formFault_any a1 b1 c1 W)
  unfold RetFault at CF1
  obtain ⟨k, n, hkn⟩ : ∃ k n, formF a1 b1 c1 = (k, n) := ⟨_, _, rfl⟩
  have CC := fun W => hide (Compose_fault a1 b1 c1 a2 b2 c2 k n W (by rw [hkn] at h1; exact h1) (by rw [if_pos h1, hkn]) (fun h => h1 h.1))
  rw [hkn] at CF1
  have hk : k ≠ 0 := by rw [hkn] at h1; exact h1
  simp only [fv] at CF1
  have k1 : (k != 0) = true := by simpa using hk
  have k2 : (k == 0) = false := by simpa using hk
  have k3 : decide (k = 0) = false := by simpa using hk
  clear h1 hkn hk
  have CB := fun W => hide (formBegun_any W)
  have EQ := equal_zero
  have H0 := hide (FA.start w a1 b1 c1 a2 b2 c2)
  go_enter Try.func4, Try.ntmps4
  go_wp2_with fail
  obtain ⟨W0, hW⟩ : ∃ Z, (w.alloc (.cells #[.int .i64 a1, .int .i64 b1, .int .i64 c1] 23)).alloc (.cells #[.int .i64 a2, .int .i64 b2, .int .i64 c2] 23) = Z := ⟨_, rfl⟩
  rw [hW] at H0
  (try rw [hW])
  clear hW
  refine (CC _).out.mono ?_
  rintro e w1 ⟨rfl, hb⟩
  have H1 := hide ((H0.out.below hb).two 0 0 0 k n)
  clear hb H0 CC
  go_upto_region 2 with (fail)
  obtain ⟨W1, hW⟩ : ∃ Z, (w1.alloc (.cells #[.int .i64 0, .int .i64 0, .int .i64 0] 23)).alloc (.cells #[.int .i64 k, .int .i64 n] 26) = Z := ⟨_, rfl⟩
  rw [hW] at H1
  (try rw [hW])
  obtain ⟨q1, hq⟩ : ∃ q, w1.heap.size = q := ⟨_, rfl⟩
  rw [hq] at H1
  (try rw [hq])
  clear hW hq
  obtain ⟨f0, f1, f2⟩ := H1.out.f.cells
  go_wp2_with fail
  refine (CF1 _).out.mono ?_
  rintro e w2 ⟨rfl, hb⟩
  have H2 := hide ((H1.out.below hb).third k n)
  clear hb H1 CF1 f0 f1 f2
  go_upto_region 3 with (fail)
  obtain ⟨W2, hW⟩ : ∃ Z, w2.alloc (.cells #[.int .i64 k, .int .i64 n] 26) = Z := ⟨_, rfl⟩
  rw [hW] at H2
  (try rw [hW])
  obtain ⟨q3, hq⟩ : ∃ q, w2.heap.size = q := ⟨_, rfl⟩
  rw [hq] at H2
  (try rw [hq])
  clear hW hq
  obtain ⟨x0, x1, _, _⟩ := H2.out.v.cells
  have H4 := H2
  clear H2
  go_upto_region 5 with (fail)
  refine wp_region_P (fun W => ((W.cell? ⟨w.heap.size, 0, none⟩ = some (.int .i64 a1) ∧ W.cell? ⟨w.heap.size, 1, none⟩ = some (.int .i64 b1) ∧ W.cell? ⟨w.heap.size, 2, none⟩ = some (.int .i64 c1)) ∧ (W.cell? ⟨w.heap.size + 1, 0, none⟩ = some (.int .i64 a2) ∧ W.cell? ⟨w.heap.size + 1, 1, none⟩ = some (.int .i64 b2) ∧ W.cell? ⟨w.heap.size + 1, 2, none⟩ = some (.int .i64 c2)) ∧ (W.cell? ⟨q1, 0, none⟩ = some (.int .i64 0) ∧ W.cell? ⟨q1, 1, none⟩ = some (.int .i64 0) ∧ W.cell? ⟨q1, 2, none⟩ = some (.int .i64 0)) ∧ W.cell? ⟨q3, 0, none⟩ = some (.int .i64 k)) ∧ Hid (FL w W q1 q3 a1 b1 c1 a2 b2 c2 0 0 0 k n k n)) 9 (by rfl) (H4.out.drw.keep) ?_
  intro hS
  refine wpAnyP_take 0 21 [0, 1, 2, 3, 9] (v := ?_) rfl (by kernel_rfl) (by kernel_rfl) (by kernel_rfl) (by kernel_rfl) (by kernel_rfl) (by kernel_rfl) (by rfl) (fun _ _ _ h => h) (Or.inl ⟨by rfl, ?_⟩) hS ?_; rotate_left
  · (intro w hSw; (try dsimp only at hSw); go_simp; (try with_reducible rfl))
  (try simp only [List.setIfInBounds_toArray, List.set_cons_zero, List.set_cons_succ])
  refine wpAnyP_take 1 22 [1, 2, 3, 9] (v := ?_) rfl (by kernel_rfl) (by kernel_rfl) (by kernel_rfl) (by kernel_rfl) (by kernel_rfl) (by kernel_rfl) (by rfl) (fun _ _ _ h => h) (Or.inl ⟨by rfl, ?_⟩) hS ?_; rotate_left
  · (intro w hSw; (try dsimp only at hSw); go_simp; (try with_reducible rfl))
  (try simp only [List.setIfInBounds_toArray, List.set_cons_zero, List.set_cons_succ])
  refine wpAnyP_take 2 23 [2, 3, 9] (v := ?_) rfl (by kernel_rfl) (by kernel_rfl) (by kernel_rfl) (by kernel_rfl) (by kernel_rfl) (by kernel_rfl) (by rfl) (fun _ _ _ h => h) (Or.inl ⟨by rfl, ?_⟩) hS ?_; rotate_left
  · (intro w hSw; (try dsimp only at hSw); go_simp; (try with_reducible rfl))
  (try simp only [List.setIfInBounds_toArray, List.set_cons_zero, List.set_cons_succ])
  refine wpAnyP_take 3 24 [3, 9] (v := ?_) rfl (by kernel_rfl) (by kernel_rfl) (by kernel_rfl) (by kernel_rfl) (by kernel_rfl) (by kernel_rfl) (by rfl) (fun _ _ _ h => h) (Or.inl ⟨by rfl, ?_⟩) hS ?_; rotate_left
  · (intro w hSw; (try dsimp only at hSw); go_simp; (try with_reducible rfl))
  (try simp only [List.setIfInBounds_toArray, List.set_cons_zero, List.set_cons_succ])
  refine wpAnyP_take 4 25 [4, 5, 8, 9] (v := undef) rfl (by kernel_rfl) (by kernel_rfl) (by kernel_rfl) (by kernel_rfl) (by kernel_rfl) (by kernel_rfl) (by rfl) (fun _ _ _ h => h) (Or.inr ⟨by rfl, rfl⟩) hS ?_
  (try simp only [List.setIfInBounds_toArray, List.set_cons_zero, List.set_cons_succ])
  refine wpAnyP_take 5 26 [5, 8, 9] (v := undef) rfl (by kernel_rfl) (by kernel_rfl) (by kernel_rfl) (by kernel_rfl) (by kernel_rfl) (by kernel_rfl) (by rfl) (fun _ _ _ h => h) (Or.inr ⟨by rfl, rfl⟩) hS ?_
  (try simp only [List.setIfInBounds_toArray, List.set_cons_zero, List.set_cons_succ])
  refine wpAnyP_take 6 27 [6, 7, 8, 9] (v := undef) rfl (by kernel_rfl) (by kernel_rfl) (by kernel_rfl) (by kernel_rfl) (by kernel_rfl) (by kernel_rfl) (by rfl) (fun _ _ _ h => h) (Or.inr ⟨by rfl, rfl⟩) hS ?_
  (try simp only [List.setIfInBounds_toArray, List.set_cons_zero, List.set_cons_succ])
  refine wpAnyP_take 7 28 [7, 8, 9] (v := undef) rfl (by kernel_rfl) (by kernel_rfl) (by kernel_rfl) (by kernel_rfl) (by kernel_rfl) (by kernel_rfl) (by rfl) (fun _ _ _ h => h) (Or.inr ⟨by rfl, rfl⟩) hS ?_
  (try simp only [List.setIfInBounds_toArray, List.set_cons_zero, List.set_cons_succ])
  refine wpAnyP_take 8 29 [8, 9] (v := undef) rfl (by kernel_rfl) (by kernel_rfl) (by kernel_rfl) (by kernel_rfl) (by kernel_rfl) (by kernel_rfl) (by rfl) (fun _ _ _ h => h) (Or.inr ⟨by rfl, rfl⟩) hS ?_
  (try simp only [List.setIfInBounds_toArray, List.set_cons_zero, List.set_cons_succ])
  refine wpAnyP_one 9 rfl (by kernel_rfl) (fun K hK => ?_)
  go_simp
  refine hK.out _ _ (fun _ => hS) ?_
  clear hK K
  (try simp only [Act.put, List.setIfInBounds_toArray, List.set_cons_zero, List.set_cons_succ])
  refine wpAnyP_done (by kernel_rfl) ?_ _
  go_wp2_with fail
  refine (CB _).out.mono ?_
  rintro e w6 ⟨rfl, hb⟩
  have H6 := hide (hS.2.out.below hb)
  clear hb hS CB
  obtain ⟨e0, e1, _, _⟩ := H6.out.e.e.cells
  obtain ⟨v0, v1, _, _⟩ := H6.out.v.cells
  obtain ⟨h0, h1, h2⟩ := H6.out.e.h.cells
  go_wp2_with fail
  go_ret
  exact ⟨rfl, H6.out.e.b⟩

set_option maxRecDepth 100000 in
set_option maxHeartbeats 6400000 in
theorem fcomp_c2 (a1 b1 c1 a2 b2 c2 : Int) (w : World) (h1 : (formF a1 b1 c1).1 = 0) (h2 : (formF a2 b2 c2).1 ≠ 0) : Calls Try.prog 4 #[.agg #[.int .i64 a1, .int .i64 b1, .int .i64 c1], .agg #[.int .i64 a2, .int .i64 b2, .int .i64 c2]] w fun e w' => e = .returned (.bool true) ∧ Below w.heap.size w w' := by
  have CF1 := fun W => hide (formFault_any a1 b1 c1 W)
  have CF2 := fun W => hide (formFault_any a2 b2 c2 W)
  unfold RetFault at CF1 CF2
  obtain ⟨k, n, hkn⟩ : ∃ k n, formF a2 b2 c2 = (k, n) := ⟨_, _, rfl⟩
  have CC := fun W => hide (Compose_fault a1 b1 c1 a2 b2 c2 k n W (by rw [hkn] at h2; exact h2) (by rw [if_neg (by simpa using h1), if_pos h2, hkn]) (fun h => h2 h.2.1))
  rw [hkn] at CF2
  rw [(formF_zero h1).1] at CF1
  have hk : k ≠ 0 := by rw [hkn] at h2; exact h2
  simp only [fv] at CF1 CF2
  have k1 : (k != 0) = true := by simpa using hk
  have k2 : (k == 0) = false := by simpa using hk
  have k3 : decide (k = 0) = false := by simpa using hk
  clear h1 h2 hkn hk
  have CB := fun W => hide (formBegun_any W)
  have EQ := equal_zero
  have H0 := hide (FA.start w a1 b1 c1 a2 b2 c2)
  go_enter Try.func4, Try.ntmps4
  go_wp2_with fail
  obtain ⟨W0, hW⟩ : ∃ Z, (w.alloc (.cells #[.int .i64 a1, .int .i64 b1, .int .i64 c1] 23)).alloc (.cells #[.int .i64 a2, .int .i64 b2, .int .i64 c2] 23) = Z := ⟨_, rfl⟩
  rw [hW] at H0
  (try rw [hW])
  clear hW
  refine (CC _).out.mono ?_
  rintro e w1 ⟨rfl, hb⟩
  have H1 := hide ((H0.out.below hb).two 0 0 0 k n)
  clear hb H0 CC
  go_upto_region 2 with (fail)
  obtain ⟨W1, hW⟩ : ∃ Z, (w1.alloc (.cells #[.int .i64 0, .int .i64 0, .int .i64 0] 23)).alloc (.cells #[.int .i64 k, .int .i64 n] 26) = Z := ⟨_, rfl⟩
  rw [hW] at H1
  (try rw [hW])
  obtain ⟨q1, hq⟩ : ∃ q, w1.heap.size = q := ⟨_, rfl⟩
  rw [hq] at H1
  (try rw [hq])
  clear hW hq
  obtain ⟨f0, f1, f2⟩ := H1.out.f.cells
  go_wp2_with fail
  refine (CF1 _).out.mono ?_
  rintro e w2 ⟨rfl, hb⟩
  have H2 := hide ((H1.out.below hb).third 0 0)
  clear hb H1 CF1 f0 f1 f2
  go_upto_region 3 with (fail)
  obtain ⟨W2, hW⟩ : ∃ Z, w2.alloc (.cells #[.int .i64 0, .int .i64 0] 26) = Z := ⟨_, rfl⟩
  rw [hW] at H2
  (try rw [hW])
  obtain ⟨q3, hq⟩ : ∃ q, w2.heap.size = q := ⟨_, rfl⟩
  rw [hq] at H2
  (try rw [hq])
  clear hW hq
  obtain ⟨x0, x1, _, _⟩ := H2.out.v.cells
  obtain ⟨g0, g1, g2⟩ := H2.out.e.g.cells
  go_wp2_with fail
  refine (CF2 _).out.mono ?_
  rintro e w3 ⟨rfl, hb⟩
  have H3 := hide (H2.out.below hb)
  clear hb H2 CF2 g0 g1 g2 x0 x1
  obtain ⟨x0, x1, y0, y1⟩ := H3.out.v.cells
  have H4 := hide (H3.out.put k n)
  clear H3
  go_upto_region 5 with (fail)
  obtain ⟨W3, hW⟩ : ∃ Z, (w3.setCell ⟨q3, 0, none⟩ (.int .i64 k)).setCell ⟨q3, 1, none⟩ (.int .i64 n) = Z := ⟨_, rfl⟩
  rw [hW] at H4
  (try rw [hW])
  clear hW x0 x1 y0 y1
  refine wp_region_P (fun W => ((W.cell? ⟨w.heap.size, 0, none⟩ = some (.int .i64 a1) ∧ W.cell? ⟨w.heap.size, 1, none⟩ = some (.int .i64 b1) ∧ W.cell? ⟨w.heap.size, 2, none⟩ = some (.int .i64 c1)) ∧ (W.cell? ⟨w.heap.size + 1, 0, none⟩ = some (.int .i64 a2) ∧ W.cell? ⟨w.heap.size + 1, 1, none⟩ = some (.int .i64 b2) ∧ W.cell? ⟨w.heap.size + 1, 2, none⟩ = some (.int .i64 c2)) ∧ (W.cell? ⟨q1, 0, none⟩ = some (.int .i64 0) ∧ W.cell? ⟨q1, 1, none⟩ = some (.int .i64 0) ∧ W.cell? ⟨q1, 2, none⟩ = some (.int .i64 0)) ∧ W.cell? ⟨q3, 0, none⟩ = some (.int .i64 k)) ∧ Hid (FL w W q1 q3 a1 b1 c1 a2 b2 c2 0 0 0 k n k n)) 9 (by rfl) (H4.out.drw.keep) ?_
  intro hS
  refine wpAnyP_take 0 21 [0, 1, 2, 3, 9] (v := ?_) rfl (by kernel_rfl) (by kernel_rfl) (by kernel_rfl) (by kernel_rfl) (by kernel_rfl) (by kernel_rfl) (by rfl) (fun _ _ _ h => h) (Or.inl ⟨by rfl, ?_⟩) hS ?_; rotate_left
  · (intro w hSw; (try dsimp only at hSw); go_simp; (try with_reducible rfl))
  (try simp only [List.setIfInBounds_toArray, List.set_cons_zero, List.set_cons_succ])
  refine wpAnyP_take 1 22 [1, 2, 3, 9] (v := ?_) rfl (by kernel_rfl) (by kernel_rfl) (by kernel_rfl) (by kernel_rfl) (by kernel_rfl) (by kernel_rfl) (by rfl) (fun _ _ _ h => h) (Or.inl ⟨by rfl, ?_⟩) hS ?_; rotate_left
  · (intro w hSw; (try dsimp only at hSw); go_simp; (try with_reducible rfl))
  (try simp only [List.setIfInBounds_toArray, List.set_cons_zero, List.set_cons_succ])
  refine wpAnyP_take 2 23 [2, 3, 9] (v := ?_) rfl (by kernel_rfl) (by kernel_rfl) (by kernel_rfl) (by kernel_rfl) (by kernel_rfl) (by kernel_rfl) (by rfl) (fun _ _ _ h => h) (Or.inl ⟨by rfl, ?_⟩) hS ?_; rotate_left
  · (intro w hSw; (try dsimp only at hSw); go_simp; (try with_reducible rfl))
  (try simp only [List.setIfInBounds_toArray, List.set_cons_zero, List.set_cons_succ])
  refine wpAnyP_take 3 24 [3, 9] (v := ?_) rfl (by kernel_rfl) (by kernel_rfl) (by kernel_rfl) (by kernel_rfl) (by kernel_rfl) (by kernel_rfl) (by rfl) (fun _ _ _ h => h) (Or.inl ⟨by rfl, ?_⟩) hS ?_; rotate_left
  · (intro w hSw; (try dsimp only at hSw); go_simp; (try with_reducible rfl))
  (try simp only [List.setIfInBounds_toArray, List.set_cons_zero, List.set_cons_succ])
  refine wpAnyP_take 4 25 [4, 5, 8, 9] (v := undef) rfl (by kernel_rfl) (by kernel_rfl) (by kernel_rfl) (by kernel_rfl) (by kernel_rfl) (by kernel_rfl) (by rfl) (fun _ _ _ h => h) (Or.inr ⟨by rfl, rfl⟩) hS ?_
  (try simp only [List.setIfInBounds_toArray, List.set_cons_zero, List.set_cons_succ])
  refine wpAnyP_take 5 26 [5, 8, 9] (v := undef) rfl (by kernel_rfl) (by kernel_rfl) (by kernel_rfl) (by kernel_rfl) (by kernel_rfl) (by kernel_rfl) (by rfl) (fun _ _ _ h => h) (Or.inr ⟨by rfl, rfl⟩) hS ?_
  (try simp only [List.setIfInBounds_toArray, List.set_cons_zero, List.set_cons_succ])
  refine wpAnyP_take 6 27 [6, 7, 8, 9] (v := undef) rfl (by kernel_rfl) (by kernel_rfl) (by kernel_rfl) (by kernel_rfl) (by kernel_rfl) (by kernel_rfl) (by rfl) (fun _ _ _ h => h) (Or.inr ⟨by rfl, rfl⟩) hS ?_
  (try simp only [List.setIfInBounds_toArray, List.set_cons_zero, List.set_cons_succ])
  refine wpAnyP_take 7 28 [7, 8, 9] (v := undef) rfl (by kernel_rfl) (by kernel_rfl) (by kernel_rfl) (by kernel_rfl) (by kernel_rfl) (by kernel_rfl) (by rfl) (fun _ _ _ h => h) (Or.inr ⟨by rfl, rfl⟩) hS ?_
  (try simp only [List.setIfInBounds_toArray, List.set_cons_zero, List.set_cons_succ])
  refine wpAnyP_take 8 29 [8, 9] (v := undef) rfl (by kernel_rfl) (by kernel_rfl) (by kernel_rfl) (by kernel_rfl) (by kernel_rfl) (by kernel_rfl) (by rfl) (fun _ _ _ h => h) (Or.inr ⟨by rfl, rfl⟩) hS ?_
  (try simp only [List.setIfInBounds_toArray, List.set_cons_zero, List.set_cons_succ])
  refine wpAnyP_one 9 rfl (by kernel_rfl) (fun K hK => ?_)
  go_simp
  refine hK.out _ _ (fun _ => hS) ?_
  clear hK K
  (try simp only [Act.put, List.setIfInBounds_toArray, List.set_cons_zero, List.set_cons_succ])
  refine wpAnyP_done (by kernel_rfl) ?_ _
  go_wp2_with fail
  refine (CB _).out.mono ?_
  rintro e w6 ⟨rfl, hb⟩
  have H6 := hide (hS.2.out.below hb)
  clear hb hS CB
  obtain ⟨e0, e1, _, _⟩ := H6.out.e.e.cells
  obtain ⟨v0, v1, _, _⟩ := H6.out.v.cells
  obtain ⟨h0, h1, h2⟩ := H6.out.e.h.cells
  go_wp2_with fail
  go_ret
  exact ⟨rfl, H6.out.e.b⟩

set_option maxRecDepth 100000 in
set_option maxHeartbeats 6400000 in
theorem fcomp_c3 (a1 b1 c1 a2 b2 c2 : Int) (w : World) (h1 : (formF a1 b1 c1).1 = 0) (h2 : (formF a2 b2 c2).1 = 0) (hd : b1 * b1 - 4 * a1 * c1 ≠ b2 * b2 - 4 * a2 * c2) : Calls Try.prog 4 #[.agg #[.int .i64 a1, .int .i64 b1, .int .i64 c1], .agg #[.int .i64 a2, .int .i64 b2, .int .i64 c2]] w fun e w' => e = .returned (.bool true) ∧ Below w.heap.size w w' := by
  have CF1 := fun W => hide (formFault_any a1 b1 c1 W)
  have CF2 := fun W => hide (formFault_any a2 b2 c2 W)
  unfold RetFault at CF1 CF2
  have z1 := formF_zero h1
  have z2 := formF_zero h2
  rw [z1.1] at CF1
  rw [z2.1] at CF2
  simp only [fv] at CF1 CF2
  have CD1 := fun W => hide (rdisc_any a1 b1 c1 W (by omega) (by omega) (by omega))
  have CD2 := fun W => hide (rdisc_any a2 b2 c2 W (by omega) (by omega) (by omega))
  have CC := fun W => hide (Compose_fault a1 b1 c1 a2 b2 c2 8 1 W (by omega) (by rw [if_neg (by simpa using h1), if_neg (by simpa using h2)]) (fun h => hd h.2.2))
  have CE := fun W => hide (refF_any 8 1 W)
  obtain ⟨D1, hD1⟩ : ∃ D, b1 * b1 - 4 * a1 * c1 = D := ⟨_, rfl⟩
  obtain ⟨D2, hD2⟩ : ∃ D, b2 * b2 - 4 * a2 * c2 = D := ⟨_, rfl⟩
  rw [hD1] at CD1 hd
  rw [hD2] at CD2 hd
  have k1 : (D1 != D2) = true := by simpa using hd
  have k2 : decide (D1 = D2) = false := by simpa using hd
  clear h1 h2 hd hD1 hD2 z1 z2
  have CB := fun W => hide (formBegun_any W)
  have EQ := equal_zero
  have H0 := hide (FA.start w a1 b1 c1 a2 b2 c2)
  go_enter Try.func4, Try.ntmps4
  go_wp2_with fail
  obtain ⟨W0, hW⟩ : ∃ Z, (w.alloc (.cells #[.int .i64 a1, .int .i64 b1, .int .i64 c1] 23)).alloc (.cells #[.int .i64 a2, .int .i64 b2, .int .i64 c2] 23) = Z := ⟨_, rfl⟩
  rw [hW] at H0
  (try rw [hW])
  clear hW
  refine (CC _).out.mono ?_
  rintro e w1 ⟨rfl, hb⟩
  have H1 := hide ((H0.out.below hb).two 0 0 0 8 1)
  clear hb H0 CC
  go_upto_region 2 with (fail)
  obtain ⟨W1, hW⟩ : ∃ Z, (w1.alloc (.cells #[.int .i64 0, .int .i64 0, .int .i64 0] 23)).alloc (.cells #[.int .i64 8, .int .i64 1] 26) = Z := ⟨_, rfl⟩
  rw [hW] at H1
  (try rw [hW])
  obtain ⟨q1, hq⟩ : ∃ q, w1.heap.size = q := ⟨_, rfl⟩
  rw [hq] at H1
  (try rw [hq])
  clear hW hq
  obtain ⟨f0, f1, f2⟩ := H1.out.f.cells
  go_wp2_with fail
  refine (CF1 _).out.mono ?_
  rintro e w2 ⟨rfl, hb⟩
  have H2 := hide ((H1.out.below hb).third 0 0)
  clear hb H1 CF1 f0 f1 f2
  go_upto_region 3 with (fail)
  obtain ⟨W2, hW⟩ : ∃ Z, w2.alloc (.cells #[.int .i64 0, .int .i64 0] 26) = Z := ⟨_, rfl⟩
  rw [hW] at H2
  (try rw [hW])
  obtain ⟨q3, hq⟩ : ∃ q, w2.heap.size = q := ⟨_, rfl⟩
  rw [hq] at H2
  (try rw [hq])
  clear hW hq
  obtain ⟨x0, x1, _, _⟩ := H2.out.v.cells
  obtain ⟨g0, g1, g2⟩ := H2.out.e.g.cells
  go_wp2_with fail
  refine (CF2 _).out.mono ?_
  rintro e w3 ⟨rfl, hb⟩
  have H3 := hide (H2.out.below hb)
  clear hb H2 CF2 g0 g1 g2 x0 x1
  obtain ⟨x0, x1, y0, y1⟩ := H3.out.v.cells
  have H4 := hide (H3.out.put 0 0)
  clear H3
  go_upto_region 5 with (fail)
  obtain ⟨W3, hW⟩ : ∃ Z, (w3.setCell ⟨q3, 0, none⟩ (.int .i64 0)).setCell ⟨q3, 1, none⟩ (.int .i64 0) = Z := ⟨_, rfl⟩
  rw [hW] at H4
  (try rw [hW])
  clear hW x0 x1 y0 y1
  refine wp_region_P (fun W => ((W.cell? ⟨w.heap.size, 0, none⟩ = some (.int .i64 a1) ∧ W.cell? ⟨w.heap.size, 1, none⟩ = some (.int .i64 b1) ∧ W.cell? ⟨w.heap.size, 2, none⟩ = some (.int .i64 c1)) ∧ (W.cell? ⟨w.heap.size + 1, 0, none⟩ = some (.int .i64 a2) ∧ W.cell? ⟨w.heap.size + 1, 1, none⟩ = some (.int .i64 b2) ∧ W.cell? ⟨w.heap.size + 1, 2, none⟩ = some (.int .i64 c2)) ∧ (W.cell? ⟨q1, 0, none⟩ = some (.int .i64 0) ∧ W.cell? ⟨q1, 1, none⟩ = some (.int .i64 0) ∧ W.cell? ⟨q1, 2, none⟩ = some (.int .i64 0)) ∧ W.cell? ⟨q3, 0, none⟩ = some (.int .i64 0)) ∧ Hid (FL w W q1 q3 a1 b1 c1 a2 b2 c2 0 0 0 8 1 0 0)) 9 (by rfl) (H4.out.drw.keep) ?_
  intro hS
  refine wpAnyP_take 0 21 [0, 1, 2, 3, 9] (v := ?_) rfl (by kernel_rfl) (by kernel_rfl) (by kernel_rfl) (by kernel_rfl) (by kernel_rfl) (by kernel_rfl) (by rfl) (fun _ _ _ h => h) (Or.inl ⟨by rfl, ?_⟩) hS ?_; rotate_left
  · (intro w hSw; (try dsimp only at hSw); go_simp; (try with_reducible rfl))
  (try simp only [List.setIfInBounds_toArray, List.set_cons_zero, List.set_cons_succ])
  refine wpAnyP_take 1 22 [1, 2, 3, 9] (v := ?_) rfl (by kernel_rfl) (by kernel_rfl) (by kernel_rfl) (by kernel_rfl) (by kernel_rfl) (by kernel_rfl) (by rfl) (fun _ _ _ h => h) (Or.inl ⟨by rfl, ?_⟩) hS ?_; rotate_left
  · (intro w hSw; (try dsimp only at hSw); go_simp; (try with_reducible rfl))
  (try simp only [List.setIfInBounds_toArray, List.set_cons_zero, List.set_cons_succ])
  refine wpAnyP_take 2 23 [2, 3, 9] (v := ?_) rfl (by kernel_rfl) (by kernel_rfl) (by kernel_rfl) (by kernel_rfl) (by kernel_rfl) (by kernel_rfl) (by rfl) (fun _ _ _ h => h) (Or.inl ⟨by rfl, ?_⟩) hS ?_; rotate_left
  · (intro w hSw; (try dsimp only at hSw); go_simp; (try with_reducible rfl))
  (try simp only [List.setIfInBounds_toArray, List.set_cons_zero, List.set_cons_succ])
  refine wpAnyP_take 3 24 [3, 9] (v := ?_) rfl (by kernel_rfl) (by kernel_rfl) (by kernel_rfl) (by kernel_rfl) (by kernel_rfl) (by kernel_rfl) (by rfl) (fun _ _ _ h => h) (Or.inl ⟨by rfl, ?_⟩) hS ?_; rotate_left
  · (intro w hSw; (try dsimp only at hSw); go_simp; (try with_reducible rfl))
  (try simp only [List.setIfInBounds_toArray, List.set_cons_zero, List.set_cons_succ])
  refine wpAnyP_take 4 25 [4, 5, 8, 9] (v := ?_) rfl (by kernel_rfl) (by kernel_rfl) (by kernel_rfl) (by kernel_rfl) (by kernel_rfl) (by kernel_rfl) (by rfl) (fun _ _ _ h => h) (Or.inl ⟨by rfl, ?_⟩) hS ?_; rotate_left
  · (intro w hSw; (try dsimp only at hSw); go_simp; (try with_reducible rfl))
  (try simp only [List.setIfInBounds_toArray, List.set_cons_zero, List.set_cons_succ])
  refine wpAnyP_take 6 27 [6, 7, 8, 9] (v := ?_) rfl (by kernel_rfl) (by kernel_rfl) (by kernel_rfl) (by kernel_rfl) (by kernel_rfl) (by kernel_rfl) (by rfl) (fun _ _ _ h => h) (Or.inl ⟨by rfl, ?_⟩) hS ?_; rotate_left
  · (intro w hSw; (try dsimp only at hSw); go_simp; (try with_reducible rfl))
  (try simp only [List.setIfInBounds_toArray, List.set_cons_zero, List.set_cons_succ])
  refine wpAnyP_one 5 rfl (by kernel_rfl) (fun K hK => ?_)
  go_simp
  refine (CD1 _).out.mono ?_
  rintro e w5 ⟨rfl, hb⟩
  have hy := hS.2.out.below hb
  clear hS
  have hS := hy.keep
  clear hy hb
  refine hK.out _ _ (fun _ => hS) ?_
  clear hK K
  (try simp only [Act.put, List.setIfInBounds_toArray, List.set_cons_zero, List.set_cons_succ])
  refine wpAnyP_one 7 rfl (by kernel_rfl) (fun K hK => ?_)
  go_simp
  refine (CD2 _).out.mono ?_
  rintro e w5 ⟨rfl, hb⟩
  have hy := hS.2.out.below hb
  clear hS
  have hS := hy.keep
  clear hy hb
  refine hK.out _ _ (fun _ => hS) ?_
  clear hK K
  (try simp only [Act.put, List.setIfInBounds_toArray, List.set_cons_zero, List.set_cons_succ])
  refine wpAnyP_take 8 29 [8, 9] (v := ?_) rfl (by kernel_rfl) (by kernel_rfl) (by kernel_rfl) (by kernel_rfl) (by kernel_rfl) (by kernel_rfl) (by rfl) (fun _ _ _ h => h) (Or.inl ⟨by rfl, ?_⟩) hS ?_; rotate_left
  · (intro w hSw; (try dsimp only at hSw); go_simp; (try with_reducible rfl))
  (try simp only [List.setIfInBounds_toArray, List.set_cons_zero, List.set_cons_succ])
  refine wpAnyP_one 9 rfl (by kernel_rfl) (fun K hK => ?_)
  go_simp
  refine hK.out _ _ (fun _ => hS) ?_
  clear hK K
  (try simp only [Act.put, List.setIfInBounds_toArray, List.set_cons_zero, List.set_cons_succ])
  refine wpAnyP_done (by kernel_rfl) ?_ _
  have H5 := hide hS.2.out
  clear hS H4
  go_wp2_with fail
  refine (CE _).out.mono ?_
  rintro e w6 ⟨rfl, hb⟩
  have H5' := hide (H5.out.below hb)
  clear hb H5 CE
  obtain ⟨x0, x1, y0, y1⟩ := H5'.out.v.cells
  have H6' := hide (H5'.out.put 8 1)
  clear H5'
  go_upto_region 7 with (fail)
  obtain ⟨W4, hW⟩ : ∃ Z, (w6.setCell ⟨q3, 0, none⟩ (.int .i64 8)).setCell ⟨q3, 1, none⟩ (.int .i64 1) = Z := ⟨_, rfl⟩
  rw [hW] at H6'
  (try rw [hW])
  clear hW x0 x1 y0 y1
  go_wp2_with fail
  refine (CB _).out.mono ?_
  rintro e w7 ⟨rfl, hb⟩
  have H6 := hide (H6'.out.below hb)
  clear hb CB
  obtain ⟨e0, e1, _, _⟩ := H6.out.e.e.cells
  obtain ⟨v0, v1, _, _⟩ := H6.out.v.cells
  obtain ⟨h0, h1, h2⟩ := H6.out.e.h.cells
  go_wp2_with fail
  go_ret
  exact ⟨rfl, H6.out.e.b⟩

set_option maxRecDepth 100000 in
set_option maxHeartbeats 6400000 in
theorem fcomp_c4 (a1 b1 c1 a2 b2 c2 : Int) (w : World) (D : Int) (h1 : (formF a1 b1 c1).1 = 0) (h2 : (formF a2 b2 c2).1 = 0) (d1 : b1 * b1 - 4 * a1 * c1 = D) (d2 : b2 * b2 - 4 * a2 * c2 = D) (hlow : D < -20000) : Calls Try.prog 4 #[.agg #[.int .i64 a1, .int .i64 b1, .int .i64 c1], .agg #[.int .i64 a2, .int .i64 b2, .int .i64 c2]] w fun e w' => e = .returned (.bool true) ∧ Below w.heap.size w w' := by
  have CF1 := fun W => hide (formFault_any a1 b1 c1 W)
  have CF2 := fun W => hide (formFault_any a2 b2 c2 W)
  unfold RetFault at CF1 CF2
  have z1 := formF_zero h1
  have z2 := formF_zero h2
  rw [z1.1] at CF1
  rw [z2.1] at CF2
  simp only [fv] at CF1 CF2
  have CD1 := fun W => hide (rdisc_any a1 b1 c1 W (by omega) (by omega) (by omega))
  have CD2 := fun W => hide (rdisc_any a2 b2 c2 W (by omega) (by omega) (by omega))
  have CC := fun W => hide (Compose_good a1 b1 c1 a2 b2 c2 D W h1 h2 d1 d2)
  rw [d1] at CD1
  rw [d2] at CD2
  have hn : D < 0 := by have := z1.2.2.2.2.2.2.1; omega
  have k1 : (D != D) = false := by simp
  have hbig : -4000000000000 ≤ D := by
    have e1 := sq_nn b1
    have e2 := mul_le_of (x := a1) (y := c1) (N := 1000000) (M := 1000000) (by omega) (by omega) (by omega) (by omega)
    rw [Int.mul_assoc 4 a1 c1] at d1
    omega
  have k5 : decide (D < -20000) = true := by simpa using hlow
  have k6 : (D == D) = true := by simp
  clear h1 h2 d1 d2 z1 z2 hn hlow
  have CB := fun W => hide (formBegun_any W)
  have EQ := equal_zero
  have H0 := hide (FA.start w a1 b1 c1 a2 b2 c2)
  go_enter Try.func4, Try.ntmps4
  go_wp2_with fail
  obtain ⟨W0, hW⟩ : ∃ Z, (w.alloc (.cells #[.int .i64 a1, .int .i64 b1, .int .i64 c1] 23)).alloc (.cells #[.int .i64 a2, .int .i64 b2, .int .i64 c2] 23) = Z := ⟨_, rfl⟩
  rw [hW] at H0
  (try rw [hW])
  clear hW
  refine (CC _).out.mono ?_
  rintro e w1 ⟨⟨A, B, C, rfl, hfact⟩, hb⟩
  have HF := hide hfact
  clear hfact
  have hw := dw_of HF.out.1 HF.out.2.1 hbig
  have CR := fun W => hide (reduced_any A B C W hw.2.1 hw.2.2.1)
  rw [hw.2.2.2] at CR
  have CDH := fun W => hide (rdisc_red A B C D W HF.out.1 HF.out.2.1 hbig)
  clear hw hbig HF
  have H1 := hide ((H0.out.below hb).two A B C 0 0)
  clear hb H0 CC
  go_upto_region 2 with (fail)
  obtain ⟨W1, hW⟩ : ∃ Z, (w1.alloc (.cells #[.int .i64 A, .int .i64 B, .int .i64 C] 23)).alloc (.cells #[.int .i64 0, .int .i64 0] 26) = Z := ⟨_, rfl⟩
  rw [hW] at H1
  (try rw [hW])
  obtain ⟨q1, hq⟩ : ∃ q, w1.heap.size = q := ⟨_, rfl⟩
  rw [hq] at H1
  (try rw [hq])
  clear hW hq
  obtain ⟨f0, f1, f2⟩ := H1.out.f.cells
  go_wp2_with fail
  refine (CF1 _).out.mono ?_
  rintro e w2 ⟨rfl, hb⟩
  have H2 := hide ((H1.out.below hb).third 0 0)
  clear hb H1 CF1 f0 f1 f2
  go_upto_region 3 with (fail)
  obtain ⟨W2, hW⟩ : ∃ Z, w2.alloc (.cells #[.int .i64 0, .int .i64 0] 26) = Z := ⟨_, rfl⟩
  rw [hW] at H2
  (try rw [hW])
  obtain ⟨q3, hq⟩ : ∃ q, w2.heap.size = q := ⟨_, rfl⟩
  rw [hq] at H2
  (try rw [hq])
  clear hW hq
  obtain ⟨x0, x1, _, _⟩ := H2.out.v.cells
  obtain ⟨g0, g1, g2⟩ := H2.out.e.g.cells
  go_wp2_with fail
  refine (CF2 _).out.mono ?_
  rintro e w3 ⟨rfl, hb⟩
  have H3 := hide (H2.out.below hb)
  clear hb H2 CF2 g0 g1 g2 x0 x1
  obtain ⟨x0, x1, y0, y1⟩ := H3.out.v.cells
  have H4 := hide (H3.out.put 0 0)
  clear H3
  go_upto_region 5 with (fail)
  obtain ⟨W3, hW⟩ : ∃ Z, (w3.setCell ⟨q3, 0, none⟩ (.int .i64 0)).setCell ⟨q3, 1, none⟩ (.int .i64 0) = Z := ⟨_, rfl⟩
  rw [hW] at H4
  (try rw [hW])
  clear hW x0 x1 y0 y1
  refine wp_region_P (fun W => ((W.cell? ⟨w.heap.size, 0, none⟩ = some (.int .i64 a1) ∧ W.cell? ⟨w.heap.size, 1, none⟩ = some (.int .i64 b1) ∧ W.cell? ⟨w.heap.size, 2, none⟩ = some (.int .i64 c1)) ∧ (W.cell? ⟨w.heap.size + 1, 0, none⟩ = some (.int .i64 a2) ∧ W.cell? ⟨w.heap.size + 1, 1, none⟩ = some (.int .i64 b2) ∧ W.cell? ⟨w.heap.size + 1, 2, none⟩ = some (.int .i64 c2)) ∧ (W.cell? ⟨q1, 0, none⟩ = some (.int .i64 A) ∧ W.cell? ⟨q1, 1, none⟩ = some (.int .i64 B) ∧ W.cell? ⟨q1, 2, none⟩ = some (.int .i64 C)) ∧ W.cell? ⟨q3, 0, none⟩ = some (.int .i64 0)) ∧ Hid (FL w W q1 q3 a1 b1 c1 a2 b2 c2 A B C 0 0 0 0)) 9 (by rfl) (H4.out.drw.keep) ?_
  intro hS
  refine wpAnyP_take 0 21 [0, 1, 2, 3, 9] (v := ?_) rfl (by kernel_rfl) (by kernel_rfl) (by kernel_rfl) (by kernel_rfl) (by kernel_rfl) (by kernel_rfl) (by rfl) (fun _ _ _ h => h) (Or.inl ⟨by rfl, ?_⟩) hS ?_; rotate_left
  · (intro w hSw; (try dsimp only at hSw); go_simp; (try with_reducible rfl))
  (try simp only [List.setIfInBounds_toArray, List.set_cons_zero, List.set_cons_succ])
  refine wpAnyP_take 1 22 [1, 2, 3, 9] (v := ?_) rfl (by kernel_rfl) (by kernel_rfl) (by kernel_rfl) (by kernel_rfl) (by kernel_rfl) (by kernel_rfl) (by rfl) (fun _ _ _ h => h) (Or.inl ⟨by rfl, ?_⟩) hS ?_; rotate_left
  · (intro w hSw; (try dsimp only at hSw); go_simp; (try with_reducible rfl))
  (try simp only [List.setIfInBounds_toArray, List.set_cons_zero, List.set_cons_succ])
  refine wpAnyP_take 2 23 [2, 3, 9] (v := ?_) rfl (by kernel_rfl) (by kernel_rfl) (by kernel_rfl) (by kernel_rfl) (by kernel_rfl) (by kernel_rfl) (by rfl) (fun _ _ _ h => h) (Or.inl ⟨by rfl, ?_⟩) hS ?_; rotate_left
  · (intro w hSw; (try dsimp only at hSw); go_simp; (try with_reducible rfl))
  (try simp only [List.setIfInBounds_toArray, List.set_cons_zero, List.set_cons_succ])
  refine wpAnyP_take 3 24 [3, 9] (v := ?_) rfl (by kernel_rfl) (by kernel_rfl) (by kernel_rfl) (by kernel_rfl) (by kernel_rfl) (by kernel_rfl) (by rfl) (fun _ _ _ h => h) (Or.inl ⟨by rfl, ?_⟩) hS ?_; rotate_left
  · (intro w hSw; (try dsimp only at hSw); go_simp; (try with_reducible rfl))
  (try simp only [List.setIfInBounds_toArray, List.set_cons_zero, List.set_cons_succ])
  refine wpAnyP_take 4 25 [4, 5, 8, 9] (v := ?_) rfl (by kernel_rfl) (by kernel_rfl) (by kernel_rfl) (by kernel_rfl) (by kernel_rfl) (by kernel_rfl) (by rfl) (fun _ _ _ h => h) (Or.inl ⟨by rfl, ?_⟩) hS ?_; rotate_left
  · (intro w hSw; (try dsimp only at hSw); go_simp; (try with_reducible rfl))
  (try simp only [List.setIfInBounds_toArray, List.set_cons_zero, List.set_cons_succ])
  refine wpAnyP_take 6 27 [6, 7, 8, 9] (v := ?_) rfl (by kernel_rfl) (by kernel_rfl) (by kernel_rfl) (by kernel_rfl) (by kernel_rfl) (by kernel_rfl) (by rfl) (fun _ _ _ h => h) (Or.inl ⟨by rfl, ?_⟩) hS ?_; rotate_left
  · (intro w hSw; (try dsimp only at hSw); go_simp; (try with_reducible rfl))
  (try simp only [List.setIfInBounds_toArray, List.set_cons_zero, List.set_cons_succ])
  refine wpAnyP_one 5 rfl (by kernel_rfl) (fun K hK => ?_)
  go_simp
  refine (CD1 _).out.mono ?_
  rintro e w5 ⟨rfl, hb⟩
  have hy := hS.2.out.below hb
  clear hS
  have hS := hy.keep
  clear hy hb
  refine hK.out _ _ (fun _ => hS) ?_
  clear hK K
  (try simp only [Act.put, List.setIfInBounds_toArray, List.set_cons_zero, List.set_cons_succ])
  refine wpAnyP_one 7 rfl (by kernel_rfl) (fun K hK => ?_)
  go_simp
  refine (CD2 _).out.mono ?_
  rintro e w5 ⟨rfl, hb⟩
  have hy := hS.2.out.below hb
  clear hS
  have hS := hy.keep
  clear hy hb
  refine hK.out _ _ (fun _ => hS) ?_
  clear hK K
  (try simp only [Act.put, List.setIfInBounds_toArray, List.set_cons_zero, List.set_cons_succ])
  refine wpAnyP_take 8 29 [8, 9] (v := ?_) rfl (by kernel_rfl) (by kernel_rfl) (by kernel_rfl) (by kernel_rfl) (by kernel_rfl) (by kernel_rfl) (by rfl) (fun _ _ _ h => h) (Or.inl ⟨by rfl, ?_⟩) hS ?_; rotate_left
  · (intro w hSw; (try dsimp only at hSw); go_simp; (try with_reducible rfl))
  (try simp only [List.setIfInBounds_toArray, List.set_cons_zero, List.set_cons_succ])
  refine wpAnyP_one 9 rfl (by kernel_rfl) (fun K hK => ?_)
  go_simp
  refine hK.out _ _ (fun _ => hS) ?_
  clear hK K
  (try simp only [Act.put, List.setIfInBounds_toArray, List.set_cons_zero, List.set_cons_succ])
  refine wpAnyP_done (by kernel_rfl) ?_ _
  clear H4
  go_wp2_with fail
  refine (CB _).out.mono ?_
  rintro e w6 ⟨rfl, hb⟩
  have H6 := hide (hS.2.out.below hb)
  clear hb hS CB
  obtain ⟨e0, e1, _, _⟩ := H6.out.e.e.cells
  obtain ⟨v0, v1, _, _⟩ := H6.out.v.cells
  obtain ⟨h0, h1, h2⟩ := H6.out.e.h.cells
  obtain ⟨f0, f1, f2⟩ := H6.out.e.f.cells
  go_wp2_with fail
  refine (CD1 _).out.mono ?_
  rintro e w7 ⟨rfl, hb⟩
  have H4 := hide (H6.out.below hb)
  clear hb H6 f0 f1 f2 e0 e1 v0 v1 h0 h1 h2
  go_upto_region 12 with (fail)
  refine wp_region_P (fun W => ((W.cell? ⟨w.heap.size, 0, none⟩ = some (.int .i64 a1) ∧ W.cell? ⟨w.heap.size, 1, none⟩ = some (.int .i64 b1) ∧ W.cell? ⟨w.heap.size, 2, none⟩ = some (.int .i64 c1)) ∧ (W.cell? ⟨w.heap.size + 1, 0, none⟩ = some (.int .i64 a2) ∧ W.cell? ⟨w.heap.size + 1, 1, none⟩ = some (.int .i64 b2) ∧ W.cell? ⟨w.heap.size + 1, 2, none⟩ = some (.int .i64 c2)) ∧ (W.cell? ⟨q1, 0, none⟩ = some (.int .i64 A) ∧ W.cell? ⟨q1, 1, none⟩ = some (.int .i64 B) ∧ W.cell? ⟨q1, 2, none⟩ = some (.int .i64 C)) ∧ W.cell? ⟨q3, 0, none⟩ = some (.int .i64 0)) ∧ Hid (FL w W q1 q3 a1 b1 c1 a2 b2 c2 A B C 0 0 0 0)) 9 (by rfl) (H4.out.drw.keep) ?_
  intro hS
  refine wpAnyP_take 0 48 [0, 9] (v := ?_) rfl (by kernel_rfl) (by kernel_rfl) (by kernel_rfl) (by kernel_rfl) (by kernel_rfl) (by kernel_rfl) (by rfl) (fun _ _ _ h => h) (Or.inl ⟨by rfl, ?_⟩) hS ?_; rotate_left
  · (intro w hSw; (try dsimp only at hSw); go_simp; (try with_reducible rfl))
  (try simp only [List.setIfInBounds_toArray, List.set_cons_zero, List.set_cons_succ])
  refine wpAnyP_one 1 rfl (by kernel_rfl) (fun K hK => ?_)
  go_simp
  refine (CR _).out.mono ?_
  rintro e w5 ⟨rfl, hb⟩
  have hy := hS.2.out.below hb
  clear hS
  have hS := hy.keep
  clear hy hb
  refine hK.out _ _ (fun _ => hS) ?_
  clear hK K
  (try simp only [Act.put, List.setIfInBounds_toArray, List.set_cons_zero, List.set_cons_succ])
  refine wpAnyP_take 2 50 [2, 9] (v := ?_) rfl (by kernel_rfl) (by kernel_rfl) (by kernel_rfl) (by kernel_rfl) (by kernel_rfl) (by kernel_rfl) (by rfl) (fun _ _ _ h => h) (Or.inl ⟨by rfl, ?_⟩) hS ?_; rotate_left
  · (intro w hSw; (try dsimp only at hSw); go_simp; (try with_reducible rfl))
  (try simp only [List.setIfInBounds_toArray, List.set_cons_zero, List.set_cons_succ])
  refine wpAnyP_take 3 51 [3, 9] (v := ?_) rfl (by kernel_rfl) (by kernel_rfl) (by kernel_rfl) (by kernel_rfl) (by kernel_rfl) (by kernel_rfl) (by rfl) (fun _ _ _ h => h) (Or.inl ⟨by rfl, ?_⟩) hS ?_; rotate_left
  · (intro w hSw; (try dsimp only at hSw); go_simp; (try with_reducible rfl))
  (try simp only [List.setIfInBounds_toArray, List.set_cons_zero, List.set_cons_succ])
  refine wpAnyP_take 5 53 [5, 9] (v := ?_) rfl (by kernel_rfl) (by kernel_rfl) (by kernel_rfl) (by kernel_rfl) (by kernel_rfl) (by kernel_rfl) (by rfl) (fun _ _ _ h => h) (Or.inl ⟨by rfl, ?_⟩) hS ?_; rotate_left
  · (intro w hSw; (try dsimp only at hSw); go_simp; (try with_reducible rfl))
  (try simp only [List.setIfInBounds_toArray, List.set_cons_zero, List.set_cons_succ])
  refine wpAnyP_one 4 rfl (by kernel_rfl) (fun K hK => ?_)
  go_simp
  refine (CDH _).out.mono ?_
  rintro e w5 ⟨rfl, hb⟩
  have hy := hS.2.out.below hb
  clear hS
  have hS := hy.keep
  clear hy hb
  refine hK.out _ _ (fun _ => hS) ?_
  clear hK K
  (try simp only [Act.put, List.setIfInBounds_toArray, List.set_cons_zero, List.set_cons_succ])
  refine wpAnyP_one 6 rfl (by kernel_rfl) (fun K hK => ?_)
  go_simp
  refine (CD1 _).out.mono ?_
  rintro e w5 ⟨rfl, hb⟩
  have hy := hS.2.out.below hb
  clear hS
  have hS := hy.keep
  clear hy hb
  refine hK.out _ _ (fun _ => hS) ?_
  clear hK K
  (try simp only [Act.put, List.setIfInBounds_toArray, List.set_cons_zero, List.set_cons_succ])
  refine wpAnyP_take 7 55 [7, 9] (v := ?_) rfl (by kernel_rfl) (by kernel_rfl) (by kernel_rfl) (by kernel_rfl) (by kernel_rfl) (by kernel_rfl) (by rfl) (fun _ _ _ h => h) (Or.inl ⟨by rfl, ?_⟩) hS ?_; rotate_left
  · (intro w hSw; (try dsimp only at hSw); go_simp; (try with_reducible rfl))
  (try simp only [List.setIfInBounds_toArray, List.set_cons_zero, List.set_cons_succ])
  refine wpAnyP_take 8 56 [8, 9] (v := ?_) rfl (by kernel_rfl) (by kernel_rfl) (by kernel_rfl) (by kernel_rfl) (by kernel_rfl) (by kernel_rfl) (by rfl) (fun _ _ _ h => h) (Or.inl ⟨by rfl, ?_⟩) hS ?_; rotate_left
  · (intro w hSw; (try dsimp only at hSw); go_simp; (try with_reducible rfl))
  (try simp only [List.setIfInBounds_toArray, List.set_cons_zero, List.set_cons_succ])
  refine wpAnyP_one 9 rfl (by kernel_rfl) (fun K hK => ?_)
  go_simp
  refine hK.out _ _ (fun _ => hS) ?_
  clear hK K
  (try simp only [Act.put, List.setIfInBounds_toArray, List.set_cons_zero, List.set_cons_succ])
  refine wpAnyP_done (by kernel_rfl) ?_ _
  go_wp2_with fail
  go_ret
  exact ⟨rfl, hS.2.out.e.b⟩

set_option maxRecDepth 100000 in
set_option maxHeartbeats 6400000 in
theorem fcomp_c5 (a1 b1 c1 a2 b2 c2 : Int) (w : World) (D : Int) (h1 : (formF a1 b1 c1).1 = 0) (h2 : (formF a2 b2 c2).1 = 0) (d1 : b1 * b1 - 4 * a1 * c1 = D) (d2 : b2 * b2 - 4 * a2 * c2 = D) (hlow : -20000 ≤ D)
    (HK : ∀ (a1 b1 c1 a2 b2 c2 : Int) (w : World), RedF a1 b1 c1 → RedF a2 b2 c2 → D = b1 * b1 - 4 * a1 * c1 → D = b2 * b2 - 4 * a2 * c2 → Int.gcd a2 (Int.gcd b2 c2) = 1 → Calls Try.prog 20 #[.agg #[.int .i64 a1, .int .i64 b1, .int .i64 c1], .agg #[.int .i64 a2, .int .i64 b2, .int .i64 c2]] w (RetCo w D a1 b1 a2 b2)) : Calls Try.prog 4 #[.agg #[.int .i64 a1, .int .i64 b1, .int .i64 c1], .agg #[.int .i64 a2, .int .i64 b2, .int .i64 c2]] w fun e w' => e = .returned (.bool true) ∧ Below w.heap.size w w' := by
  have CF1 := fun W => hide (formFault_any a1 b1 c1 W)
  have CF2 := fun W => hide (formFault_any a2 b2 c2 W)
  unfold RetFault at CF1 CF2
  have z1 := formF_zero h1
  have z2 := formF_zero h2
  rw [z1.1] at CF1
  rw [z2.1] at CF2
  simp only [fv] at CF1 CF2
  have CD1 := fun W => hide (rdisc_any a1 b1 c1 W (by omega) (by omega) (by omega))
  have CD2 := fun W => hide (rdisc_any a2 b2 c2 W (by omega) (by omega) (by omega))
  have CC := fun W => hide (Compose_good a1 b1 c1 a2 b2 c2 D W h1 h2 d1 d2)
  rw [d1] at CD1
  rw [d2] at CD2
  have hn : D < 0 := by have := z1.2.2.2.2.2.2.1; omega
  have k1 : (D != D) = false := by simp
  have CR1 := fun W => hide (reducedOf_any a1 b1 c1 D W (OInv.start (by omega) (by omega) (by omega) (by omega) d1.symm) hn (by omega))
  have CR2 := fun W => hide (reducedOf_any a2 b2 c2 D W (OInv.start (by omega) (by omega) (by omega) (by omega) d2.symm) hn (by omega))
  have HG := hide z2.2.2.2.2.2.2.2
  have HK' := hide HK
  have HN := hide hn
  have k5 : decide (D < -20000) = false := by rw [decide_eq_false_iff_not]; omega
  clear h1 h2 d1 d2 z1 z2 hn hlow HK
  have CB := fun W => hide (formBegun_any W)
  have EQ := equal_zero
  have H0 := hide (FA.start w a1 b1 c1 a2 b2 c2)
  go_enter Try.func4, Try.ntmps4
  go_wp2_with fail
  obtain ⟨W0, hW⟩ : ∃ Z, (w.alloc (.cells #[.int .i64 a1, .int .i64 b1, .int .i64 c1] 23)).alloc (.cells #[.int .i64 a2, .int .i64 b2, .int .i64 c2] 23) = Z := ⟨_, rfl⟩
  rw [hW] at H0
  (try rw [hW])
  clear hW
  refine (CC _).out.mono ?_
  rintro e w1 ⟨⟨A, B, C, rfl, hfact⟩, hb⟩
  have HF := hide hfact
  clear hfact
  have H1 := hide ((H0.out.below hb).two A B C 0 0)
  clear hb H0 CC
  go_upto_region 2 with (fail)
  obtain ⟨W1, hW⟩ : ∃ Z, (w1.alloc (.cells #[.int .i64 A, .int .i64 B, .int .i64 C] 23)).alloc (.cells #[.int .i64 0, .int .i64 0] 26) = Z := ⟨_, rfl⟩
  rw [hW] at H1
  (try rw [hW])
  obtain ⟨q1, hq⟩ : ∃ q, w1.heap.size = q := ⟨_, rfl⟩
  rw [hq] at H1
  (try rw [hq])
  clear hW hq
  obtain ⟨f0, f1, f2⟩ := H1.out.f.cells
  go_wp2_with fail
  refine (CF1 _).out.mono ?_
  rintro e w2 ⟨rfl, hb⟩
  have H2 := hide ((H1.out.below hb).third 0 0)
  clear hb H1 CF1 f0 f1 f2
  go_upto_region 3 with (fail)
  obtain ⟨W2, hW⟩ : ∃ Z, w2.alloc (.cells #[.int .i64 0, .int .i64 0] 26) = Z := ⟨_, rfl⟩
  rw [hW] at H2
  (try rw [hW])
  obtain ⟨q3, hq⟩ : ∃ q, w2.heap.size = q := ⟨_, rfl⟩
  rw [hq] at H2
  (try rw [hq])
  clear hW hq
  obtain ⟨x0, x1, _, _⟩ := H2.out.v.cells
  obtain ⟨g0, g1, g2⟩ := H2.out.e.g.cells
  go_wp2_with fail
  refine (CF2 _).out.mono ?_
  rintro e w3 ⟨rfl, hb⟩
  have H3 := hide (H2.out.below hb)
  clear hb H2 CF2 g0 g1 g2 x0 x1
  obtain ⟨x0, x1, y0, y1⟩ := H3.out.v.cells
  have H4 := hide (H3.out.put 0 0)
  clear H3
  go_upto_region 5 with (fail)
  obtain ⟨W3, hW⟩ : ∃ Z, (w3.setCell ⟨q3, 0, none⟩ (.int .i64 0)).setCell ⟨q3, 1, none⟩ (.int .i64 0) = Z := ⟨_, rfl⟩
  rw [hW] at H4
  (try rw [hW])
  clear hW x0 x1 y0 y1
  refine wp_region_P (fun W => ((W.cell? ⟨w.heap.size, 0, none⟩ = some (.int .i64 a1) ∧ W.cell? ⟨w.heap.size, 1, none⟩ = some (.int .i64 b1) ∧ W.cell? ⟨w.heap.size, 2, none⟩ = some (.int .i64 c1)) ∧ (W.cell? ⟨w.heap.size + 1, 0, none⟩ = some (.int .i64 a2) ∧ W.cell? ⟨w.heap.size + 1, 1, none⟩ = some (.int .i64 b2) ∧ W.cell? ⟨w.heap.size + 1, 2, none⟩ = some (.int .i64 c2)) ∧ (W.cell? ⟨q1, 0, none⟩ = some (.int .i64 A) ∧ W.cell? ⟨q1, 1, none⟩ = some (.int .i64 B) ∧ W.cell? ⟨q1, 2, none⟩ = some (.int .i64 C)) ∧ W.cell? ⟨q3, 0, none⟩ = some (.int .i64 0)) ∧ Hid (FL w W q1 q3 a1 b1 c1 a2 b2 c2 A B C 0 0 0 0)) 9 (by rfl) (H4.out.drw.keep) ?_
  intro hS
  refine wpAnyP_take 0 21 [0, 1, 2, 3, 9] (v := ?_) rfl (by kernel_rfl) (by kernel_rfl) (by kernel_rfl) (by kernel_rfl) (by kernel_rfl) (by kernel_rfl) (by rfl) (fun _ _ _ h => h) (Or.inl ⟨by rfl, ?_⟩) hS ?_; rotate_left
  · (intro w hSw; (try dsimp only at hSw); go_simp; (try with_reducible rfl))
  (try simp only [List.setIfInBounds_toArray, List.set_cons_zero, List.set_cons_succ])
  refine wpAnyP_take 1 22 [1, 2, 3, 9] (v := ?_) rfl (by kernel_rfl) (by kernel_rfl) (by kernel_rfl) (by kernel_rfl) (by kernel_rfl) (by kernel_rfl) (by rfl) (fun _ _ _ h => h) (Or.inl ⟨by rfl, ?_⟩) hS ?_; rotate_left
  · (intro w hSw; (try dsimp only at hSw); go_simp; (try with_reducible rfl))
  (try simp only [List.setIfInBounds_toArray, List.set_cons_zero, List.set_cons_succ])
  refine wpAnyP_take 2 23 [2, 3, 9] (v := ?_) rfl (by kernel_rfl) (by kernel_rfl) (by kernel_rfl) (by kernel_rfl) (by kernel_rfl) (by kernel_rfl) (by rfl) (fun _ _ _ h => h) (Or.inl ⟨by rfl, ?_⟩) hS ?_; rotate_left
  · (intro w hSw; (try dsimp only at hSw); go_simp; (try with_reducible rfl))
  (try simp only [List.setIfInBounds_toArray, List.set_cons_zero, List.set_cons_succ])
  refine wpAnyP_take 3 24 [3, 9] (v := ?_) rfl (by kernel_rfl) (by kernel_rfl) (by kernel_rfl) (by kernel_rfl) (by kernel_rfl) (by kernel_rfl) (by rfl) (fun _ _ _ h => h) (Or.inl ⟨by rfl, ?_⟩) hS ?_; rotate_left
  · (intro w hSw; (try dsimp only at hSw); go_simp; (try with_reducible rfl))
  (try simp only [List.setIfInBounds_toArray, List.set_cons_zero, List.set_cons_succ])
  refine wpAnyP_take 4 25 [4, 5, 8, 9] (v := ?_) rfl (by kernel_rfl) (by kernel_rfl) (by kernel_rfl) (by kernel_rfl) (by kernel_rfl) (by kernel_rfl) (by rfl) (fun _ _ _ h => h) (Or.inl ⟨by rfl, ?_⟩) hS ?_; rotate_left
  · (intro w hSw; (try dsimp only at hSw); go_simp; (try with_reducible rfl))
  (try simp only [List.setIfInBounds_toArray, List.set_cons_zero, List.set_cons_succ])
  refine wpAnyP_take 6 27 [6, 7, 8, 9] (v := ?_) rfl (by kernel_rfl) (by kernel_rfl) (by kernel_rfl) (by kernel_rfl) (by kernel_rfl) (by kernel_rfl) (by rfl) (fun _ _ _ h => h) (Or.inl ⟨by rfl, ?_⟩) hS ?_; rotate_left
  · (intro w hSw; (try dsimp only at hSw); go_simp; (try with_reducible rfl))
  (try simp only [List.setIfInBounds_toArray, List.set_cons_zero, List.set_cons_succ])
  refine wpAnyP_one 5 rfl (by kernel_rfl) (fun K hK => ?_)
  go_simp
  refine (CD1 _).out.mono ?_
  rintro e w5 ⟨rfl, hb⟩
  have hy := hS.2.out.below hb
  clear hS
  have hS := hy.keep
  clear hy hb
  refine hK.out _ _ (fun _ => hS) ?_
  clear hK K
  (try simp only [Act.put, List.setIfInBounds_toArray, List.set_cons_zero, List.set_cons_succ])
  refine wpAnyP_one 7 rfl (by kernel_rfl) (fun K hK => ?_)
  go_simp
  refine (CD2 _).out.mono ?_
  rintro e w5 ⟨rfl, hb⟩
  have hy := hS.2.out.below hb
  clear hS
  have hS := hy.keep
  clear hy hb
  refine hK.out _ _ (fun _ => hS) ?_
  clear hK K
  (try simp only [Act.put, List.setIfInBounds_toArray, List.set_cons_zero, List.set_cons_succ])
  refine wpAnyP_take 8 29 [8, 9] (v := ?_) rfl (by kernel_rfl) (by kernel_rfl) (by kernel_rfl) (by kernel_rfl) (by kernel_rfl) (by kernel_rfl) (by rfl) (fun _ _ _ h => h) (Or.inl ⟨by rfl, ?_⟩) hS ?_; rotate_left
  · (intro w hSw; (try dsimp only at hSw); go_simp; (try with_reducible rfl))
  (try simp only [List.setIfInBounds_toArray, List.set_cons_zero, List.set_cons_succ])
  refine wpAnyP_one 9 rfl (by kernel_rfl) (fun K hK => ?_)
  go_simp
  refine hK.out _ _ (fun _ => hS) ?_
  clear hK K
  (try simp only [Act.put, List.setIfInBounds_toArray, List.set_cons_zero, List.set_cons_succ])
  refine wpAnyP_done (by kernel_rfl) ?_ _
  clear H4
  go_wp2_with fail
  refine (CB _).out.mono ?_
  rintro e w6 ⟨rfl, hb⟩
  have H6 := hide (hS.2.out.below hb)
  clear hb hS CB
  obtain ⟨e0, e1, _, _⟩ := H6.out.e.e.cells
  obtain ⟨v0, v1, _, _⟩ := H6.out.v.cells
  obtain ⟨h0, h1, h2⟩ := H6.out.e.h.cells
  obtain ⟨f0, f1, f2⟩ := H6.out.e.f.cells
  go_wp2_with fail
  refine (CD1 _).out.mono ?_
  rintro e w7 ⟨rfl, hb⟩
  have H4 := hide (H6.out.below hb)
  clear hb H6 f0 f1 f2 e0 e1 v0 v1 h0 h1 h2
  go_upto_region 13 with (fail)
  refine wp_region_P (fun W => ((W.cell? ⟨w.heap.size, 0, none⟩ = some (.int .i64 a1) ∧ W.cell? ⟨w.heap.size, 1, none⟩ = some (.int .i64 b1) ∧ W.cell? ⟨w.heap.size, 2, none⟩ = some (.int .i64 c1)) ∧ (W.cell? ⟨w.heap.size + 1, 0, none⟩ = some (.int .i64 a2) ∧ W.cell? ⟨w.heap.size + 1, 1, none⟩ = some (.int .i64 b2) ∧ W.cell? ⟨w.heap.size + 1, 2, none⟩ = some (.int .i64 c2)) ∧ (W.cell? ⟨q1, 0, none⟩ = some (.int .i64 A) ∧ W.cell? ⟨q1, 1, none⟩ = some (.int .i64 B) ∧ W.cell? ⟨q1, 2, none⟩ = some (.int .i64 C)) ∧ W.cell? ⟨q3, 0, none⟩ = some (.int .i64 0)) ∧ Hid (FL w W q1 q3 a1 b1 c1 a2 b2 c2 A B C 0 0 0 0)) 7 (by rfl) (H4.out.drw.keep) ?_
  intro hS
  refine wpAnyP_take 0 57 [0, 7] (v := ?_) rfl (by kernel_rfl) (by kernel_rfl) (by kernel_rfl) (by kernel_rfl) (by kernel_rfl) (by kernel_rfl) (by rfl) (fun _ _ _ h => h) (Or.inl ⟨by rfl, ?_⟩) hS ?_; rotate_left
  · (intro w hSw; (try dsimp only at hSw); go_simp; (try with_reducible rfl))
  (try simp only [List.setIfInBounds_toArray, List.set_cons_zero, List.set_cons_succ])
  refine wpAnyP_take 1 58 [1, 7] (v := ?_) rfl (by kernel_rfl) (by kernel_rfl) (by kernel_rfl) (by kernel_rfl) (by kernel_rfl) (by kernel_rfl) (by rfl) (fun _ _ _ h => h) (Or.inl ⟨by rfl, ?_⟩) hS ?_; rotate_left
  · (intro w hSw; (try dsimp only at hSw); go_simp; (try with_reducible rfl))
  (try simp only [List.setIfInBounds_toArray, List.set_cons_zero, List.set_cons_succ])
  refine wpAnyP_take 3 60 [3, 7] (v := ?_) rfl (by kernel_rfl) (by kernel_rfl) (by kernel_rfl) (by kernel_rfl) (by kernel_rfl) (by kernel_rfl) (by rfl) (fun _ _ _ h => h) (Or.inl ⟨by rfl, ?_⟩) hS ?_; rotate_left
  · (intro w hSw; (try dsimp only at hSw); go_simp; (try with_reducible rfl))
  (try simp only [List.setIfInBounds_toArray, List.set_cons_zero, List.set_cons_succ])
  refine wpAnyP_one 2 rfl (by kernel_rfl) (fun K hK => ?_)
  go_simp
  refine (CR1 _).out.mono ?_
  rintro e w5 ⟨⟨A1, B1, C1, rfl, hr1, ho1⟩, hb⟩
  have hy := hS.2.out.below hb
  clear hS
  have hS := hy.keep
  clear hy hb
  have O1 := hide (And.intro hr1 ho1)
  clear hr1 ho1
  refine hK.out _ _ (fun _ => hS) ?_
  clear hK K
  (try simp only [Act.put, List.setIfInBounds_toArray, List.set_cons_zero, List.set_cons_succ])
  refine wpAnyP_one 4 rfl (by kernel_rfl) (fun K hK => ?_)
  go_simp
  refine (CR2 _).out.mono ?_
  rintro e w5 ⟨⟨A2, B2, C2, rfl, hr2, ho2⟩, hb⟩
  have hy := hS.2.out.below hb
  clear hS
  have hS := hy.keep
  clear hy hb
  have O2 := hide (And.intro hr2 ho2)
  clear hr2 ho2
  refine hK.out _ _ (fun _ => hS) ?_
  clear hK K
  (try simp only [Act.put, List.setIfInBounds_toArray, List.set_cons_zero, List.set_cons_succ])
  refine wpAnyP_one 5 rfl (by kernel_rfl) (fun K hK => ?_)
  go_simp
  refine (HK'.out A1 B1 C1 A2 B2 C2 _ O1.out.1 O2.out.1 O1.out.2.d O2.out.2.d (gcd_same O2.out.2.g HG.out)).mono ?_
  rintro e w5 ⟨⟨A3, B3, C3, rfl, hr3, hd3, hs3⟩, hb⟩
  have hy := hS.2.out.below hb
  clear hS
  have hS := hy.keep
  clear hy hb
  obtain ⟨rfl, rfl, rfl⟩ := comp_same HN.out HF.out.1 HF.out.2.1 HF.out.2.2.2 O1.out.2 O2.out.2 hr3 hd3 hs3
  clear hr3 hd3 hs3
  refine hK.out _ _ (fun _ => hS) ?_
  clear hK K
  (try simp only [Act.put, List.setIfInBounds_toArray, List.set_cons_zero, List.set_cons_succ])
  refine wpAnyP_take 6 63 [6, 7] (v := ?_) rfl (by kernel_rfl) (by kernel_rfl) (by kernel_rfl) (by kernel_rfl) (by kernel_rfl) (by kernel_rfl) (by rfl) (fun _ _ _ h => h) (Or.inl ⟨by rfl, ?_⟩) hS ?_; rotate_left
  · (intro w hSw; (try dsimp only at hSw); go_simp; (try with_reducible rfl))
  (try simp only [List.setIfInBounds_toArray, List.set_cons_zero, List.set_cons_succ])
  refine wpAnyP_one 7 rfl (by kernel_rfl) (fun K hK => ?_)
  go_simp
  refine hK.out _ _ (fun _ => hS) ?_
  clear hK K
  (try simp only [Act.put, List.setIfInBounds_toArray, List.set_cons_zero, List.set_cons_succ])
  refine wpAnyP_done (by kernel_rfl) ?_ _
  go_wp2_with fail
  go_ret
  exact ⟨rfl, hS.2.out.e.b⟩
end Go.Proofs.Ytlchmaiflcnaoaa
