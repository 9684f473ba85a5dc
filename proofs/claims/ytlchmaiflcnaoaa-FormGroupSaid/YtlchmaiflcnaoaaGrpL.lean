/- The walk of the law FormGroup. -/
import Derived.Test.YtlchmaiflcnaoaaGrpM
namespace Go.Proofs.Ytlchmaiflcnaoaa
open Go.RowKit

theorem grp_start (w : World) (a1 b1 c1 a2 b2 c2 a3 b3 c3 : Int) : FMem w (((w.alloc (.cells #[.int .i64 a1, .int .i64 b1, .int .i64 c1] 23)).alloc (.cells #[.int .i64 a2, .int .i64 b2, .int .i64 c2] 23)).alloc (.cells #[.int .i64 a3, .int .i64 b3, .int .i64 c3] 23)) [(w.heap.size + 1 + 1, a3, b3, c3), (w.heap.size + 1, a2, b2, c2), (w.heap.size, a1, b1, c1)] [] := by
  have := (((FMem.start w).form a1 b1 c1).form a2 b2 c2).form a3 b3 c3
  rwa [World.size_alloc, World.size_alloc] at this

set_option maxRecDepth 100000 in
set_option maxHeartbeats 6400000 in
theorem group_c1 (a1 b1 c1 a2 b2 c2 a3 b3 c3 : Int) (w : World) (h : ¬ ((formF a1 b1 c1).1 = 0 ∧ (formF a2 b2 c2).1 = 0 ∧ b1 * b1 - 4 * a1 * c1 = b2 * b2 - 4 * a2 * c2)) : Calls Try.prog 5 #[.agg #[.int .i64 a1, .int .i64 b1, .int .i64 c1], .agg #[.int .i64 a2, .int .i64 b2, .int .i64 c2], .agg #[.int .i64 a3, .int .i64 b3, .int .i64 c3]] w fun e w' => e = .returned (.bool true) ∧ Below w.heap.size w w' := by
  have CC := fun W => hide (Compose_bad a1 b1 c1 a2 b2 c2 W h)
  clear h
  have CB := fun W => hide (formBegun_any W)
  have G0 := hide (grp_start w a1 b1 c1 a2 b2 c2 a3 b3 c3)
  go_enter Try.func5, Try.ntmps5
  go_wp2_with fail
  obtain ⟨W0, hW0⟩ : ∃ Z, ((w.alloc (.cells #[.int .i64 a1, .int .i64 b1, .int .i64 c1] 23)).alloc (.cells #[.int .i64 a2, .int .i64 b2, .int .i64 c2] 23)).alloc (.cells #[.int .i64 a3, .int .i64 b3, .int .i64 c3] 23) = Z := ⟨_, rfl⟩
  rw [hW0] at G0
  (try rw [hW0])
  obtain ⟨m, hm⟩ : ∃ m, w.heap.size = m := ⟨_, rfl⟩
  rw [hm] at G0
  (try rw [hm])
  clear hW0
  refine (CB _).out.mono ?_
  rintro e w1 ⟨rfl, hb⟩
  have G1 := hide (G0.out.below hb)
  clear hb G0 CB
  obtain ⟨f0, f1, f2⟩ := (G1.out.f (m, a1, b1, c1) (by simp)).cells
  obtain ⟨g0, g1, g2⟩ := (G1.out.f (m + 1, a2, b2, c2) (by simp)).cells
  go_wp2_with fail
  refine (CC _).out.mono ?_
  rintro e w2 ⟨⟨A, B, C, k, n, rfl, hk⟩, hb⟩
  have G2 := hide ((G1.out.below hb).two A B C k n)
  have k1 : (k != 0) = true := by simpa using hk
  have k2 : decide (k = 0) = false := by simpa using hk
  have k3 : ¬ k = 0 := hk
  clear hb hk G1 CC f0 f1 f2 g0 g1 g2
  go_upto_region 4 with (fail)
  obtain ⟨W3, hW3⟩ : ∃ Z, (w2.alloc (.cells #[.int .i64 A, .int .i64 B, .int .i64 C] 23)).alloc (.cells #[.int .i64 k, .int .i64 n] 26) = Z := ⟨_, rfl⟩
  rw [hW3] at G2
  (try rw [hW3])
  obtain ⟨q, hq⟩ : ∃ q, w2.heap.size + 1 = q := ⟨_, rfl⟩
  rw [hq] at G2
  (try rw [hq])
  clear hW3 hq
  obtain ⟨x0, x1, _, _⟩ := (G2.out.z (q, k, n) (by simp)).cells
  simp only at x0 x1
  refine wp_region_P (fun W => W.cell? ⟨q, 0, none⟩ = some (.int .i64 k)) 20 (by rfl) (x0) ?_
  intro hS
  refine wpAnyP_take 0 35 [0, 1, 2, 3, 7, 10, 12, 16, 20] (v := ?_) rfl (by kernel_rfl) (by kernel_rfl) (by kernel_rfl) (by kernel_rfl) (by kernel_rfl) (by kernel_rfl) (by rfl) (fun _ _ _ h => h) (Or.inl ⟨by rfl, ?_⟩) hS ?_; rotate_left
  · (intro w hSw; (try dsimp only at hSw); go_simp; (try with_reducible rfl))
  (try simp only [List.setIfInBounds_toArray, List.set_cons_zero, List.set_cons_succ])
  refine wpAnyP_take 1 36 [1, 2, 3, 7, 10, 12, 16, 20] (v := ?_) rfl (by kernel_rfl) (by kernel_rfl) (by kernel_rfl) (by kernel_rfl) (by kernel_rfl) (by kernel_rfl) (by rfl) (fun _ _ _ h => h) (Or.inl ⟨by rfl, ?_⟩) hS ?_; rotate_left
  · (intro w hSw; (try dsimp only at hSw); go_simp; (try with_reducible rfl))
  (try simp only [List.setIfInBounds_toArray, List.set_cons_zero, List.set_cons_succ])
  refine wpAnyP_take 2 37 [2, 3, 7, 10, 12, 16, 20] (v := ?_) rfl (by kernel_rfl) (by kernel_rfl) (by kernel_rfl) (by kernel_rfl) (by kernel_rfl) (by kernel_rfl) (by rfl) (fun _ _ _ h => h) (Or.inl ⟨by rfl, ?_⟩) hS ?_; rotate_left
  · (intro w hSw; (try dsimp only at hSw); go_simp; (try with_reducible rfl))
  (try simp only [List.setIfInBounds_toArray, List.set_cons_zero, List.set_cons_succ])
  refine wpAnyP_take 3 38 [3, 7, 10, 12, 16, 20] (v := ?_) rfl (by kernel_rfl) (by kernel_rfl) (by kernel_rfl) (by kernel_rfl) (by kernel_rfl) (by kernel_rfl) (by rfl) (fun _ _ _ h => h) (Or.inl ⟨by rfl, ?_⟩) hS ?_; rotate_left
  · (intro w hSw; (try dsimp only at hSw); go_simp; (try with_reducible rfl))
  (try simp only [List.setIfInBounds_toArray, List.set_cons_zero, List.set_cons_succ])
  refine wpAnyP_take 4 39 [4, 5, 7, 10, 12, 16, 20] (v := undef) rfl (by kernel_rfl) (by kernel_rfl) (by kernel_rfl) (by kernel_rfl) (by kernel_rfl) (by kernel_rfl) (by rfl) (fun _ _ _ h => h) (Or.inr ⟨by rfl, rfl⟩) hS ?_
  (try simp only [List.setIfInBounds_toArray, List.set_cons_zero, List.set_cons_succ])
  refine wpAnyP_take 6 41 [6, 7, 10, 12, 16, 20] (v := undef) rfl (by kernel_rfl) (by kernel_rfl) (by kernel_rfl) (by kernel_rfl) (by kernel_rfl) (by kernel_rfl) (by rfl) (fun _ _ _ h => h) (Or.inr ⟨by rfl, rfl⟩) hS ?_
  (try simp only [List.setIfInBounds_toArray, List.set_cons_zero, List.set_cons_succ])
  refine wpAnyP_take 5 40 [5, 7, 10, 12, 16, 20] (v := undef) rfl (by kernel_rfl) (by kernel_rfl) (by kernel_rfl) (by kernel_rfl) (by kernel_rfl) (by kernel_rfl) (by rfl) (fun _ _ _ h => h) (Or.inr ⟨by rfl, rfl⟩) hS ?_
  (try simp only [List.setIfInBounds_toArray, List.set_cons_zero, List.set_cons_succ])
  refine wpAnyP_take 7 42 [7, 10, 12, 16, 20] (v := undef) rfl (by kernel_rfl) (by kernel_rfl) (by kernel_rfl) (by kernel_rfl) (by kernel_rfl) (by kernel_rfl) (by rfl) (fun _ _ _ h => h) (Or.inr ⟨by rfl, rfl⟩) hS ?_
  (try simp only [List.setIfInBounds_toArray, List.set_cons_zero, List.set_cons_succ])
  refine wpAnyP_take 8 43 [8, 9, 10, 12, 16, 20] (v := undef) rfl (by kernel_rfl) (by kernel_rfl) (by kernel_rfl) (by kernel_rfl) (by kernel_rfl) (by kernel_rfl) (by rfl) (fun _ _ _ h => h) (Or.inr ⟨by rfl, rfl⟩) hS ?_
  (try simp only [List.setIfInBounds_toArray, List.set_cons_zero, List.set_cons_succ])
  refine wpAnyP_take 9 44 [9, 10, 12, 16, 20] (v := ?_) rfl (by kernel_rfl) (by kernel_rfl) (by kernel_rfl) (by kernel_rfl) (by kernel_rfl) (by kernel_rfl) (by rfl) (fun _ _ _ h => h) (Or.inl ⟨by rfl, ?_⟩) hS ?_; rotate_left
  · (intro w hSw; (try dsimp only at hSw); go_simp; (try with_reducible rfl))
  (try simp only [List.setIfInBounds_toArray, List.set_cons_zero, List.set_cons_succ])
  refine wpAnyP_take 10 45 [10, 12, 16, 20] (v := ?_) rfl (by kernel_rfl) (by kernel_rfl) (by kernel_rfl) (by kernel_rfl) (by kernel_rfl) (by kernel_rfl) (by rfl) (fun _ _ _ h => h) (Or.inl ⟨by rfl, ?_⟩) hS ?_; rotate_left
  · (intro w hSw; (try dsimp only at hSw); go_simp; (try with_reducible rfl))
  (try simp only [List.setIfInBounds_toArray, List.set_cons_zero, List.set_cons_succ])
  refine wpAnyP_take 11 46 [11, 12, 16, 20] (v := undef) rfl (by kernel_rfl) (by kernel_rfl) (by kernel_rfl) (by kernel_rfl) (by kernel_rfl) (by kernel_rfl) (by rfl) (fun _ _ _ h => h) (Or.inr ⟨by rfl, rfl⟩) hS ?_
  (try simp only [List.setIfInBounds_toArray, List.set_cons_zero, List.set_cons_succ])
  refine wpAnyP_take 12 47 [12, 16, 20] (v := undef) rfl (by kernel_rfl) (by kernel_rfl) (by kernel_rfl) (by kernel_rfl) (by kernel_rfl) (by kernel_rfl) (by rfl) (fun _ _ _ h => h) (Or.inr ⟨by rfl, rfl⟩) hS ?_
  (try simp only [List.setIfInBounds_toArray, List.set_cons_zero, List.set_cons_succ])
  refine wpAnyP_take 13 48 [13, 14, 15, 16, 20] (v := undef) rfl (by kernel_rfl) (by kernel_rfl) (by kernel_rfl) (by kernel_rfl) (by kernel_rfl) (by kernel_rfl) (by rfl) (fun _ _ _ h => h) (Or.inr ⟨by rfl, rfl⟩) hS ?_
  (try simp only [List.setIfInBounds_toArray, List.set_cons_zero, List.set_cons_succ])
  refine wpAnyP_take 14 49 [14, 15, 16, 20] (v := undef) rfl (by kernel_rfl) (by kernel_rfl) (by kernel_rfl) (by kernel_rfl) (by kernel_rfl) (by kernel_rfl) (by rfl) (fun _ _ _ h => h) (Or.inr ⟨by rfl, rfl⟩) hS ?_
  (try simp only [List.setIfInBounds_toArray, List.set_cons_zero, List.set_cons_succ])
  refine wpAnyP_take 15 50 [15, 16, 20] (v := ?_) rfl (by kernel_rfl) (by kernel_rfl) (by kernel_rfl) (by kernel_rfl) (by kernel_rfl) (by kernel_rfl) (by rfl) (fun _ _ _ h => h) (Or.inl ⟨by rfl, ?_⟩) hS ?_; rotate_left
  · (intro w hSw; (try dsimp only at hSw); go_simp; (try with_reducible rfl))
  (try simp only [List.setIfInBounds_toArray, List.set_cons_zero, List.set_cons_succ])
  refine wpAnyP_take 16 51 [16, 20] (v := ?_) rfl (by kernel_rfl) (by kernel_rfl) (by kernel_rfl) (by kernel_rfl) (by kernel_rfl) (by kernel_rfl) (by rfl) (fun _ _ _ h => h) (Or.inl ⟨by rfl, ?_⟩) hS ?_; rotate_left
  · (intro w hSw; (try dsimp only at hSw); go_simp; (try with_reducible rfl))
  (try simp only [List.setIfInBounds_toArray, List.set_cons_zero, List.set_cons_succ])
  refine wpAnyP_take 17 52 [17, 18, 19, 20] (v := undef) rfl (by kernel_rfl) (by kernel_rfl) (by kernel_rfl) (by kernel_rfl) (by kernel_rfl) (by kernel_rfl) (by rfl) (fun _ _ _ h => h) (Or.inr ⟨by rfl, rfl⟩) hS ?_
  (try simp only [List.setIfInBounds_toArray, List.set_cons_zero, List.set_cons_succ])
  refine wpAnyP_take 18 53 [18, 19, 20] (v := undef) rfl (by kernel_rfl) (by kernel_rfl) (by kernel_rfl) (by kernel_rfl) (by kernel_rfl) (by kernel_rfl) (by rfl) (fun _ _ _ h => h) (Or.inr ⟨by rfl, rfl⟩) hS ?_
  (try simp only [List.setIfInBounds_toArray, List.set_cons_zero, List.set_cons_succ])
  refine wpAnyP_take 19 54 [19, 20] (v := undef) rfl (by kernel_rfl) (by kernel_rfl) (by kernel_rfl) (by kernel_rfl) (by kernel_rfl) (by kernel_rfl) (by rfl) (fun _ _ _ h => h) (Or.inr ⟨by rfl, rfl⟩) hS ?_
  (try simp only [List.setIfInBounds_toArray, List.set_cons_zero, List.set_cons_succ])
  refine wpAnyP_one 20 rfl (by kernel_rfl) (fun K hK => ?_)
  go_simp
  refine hK.out _ _ (fun _ => hS) ?_
  clear hK K
  (try simp only [Act.put, List.setIfInBounds_toArray, List.set_cons_zero, List.set_cons_succ])
  refine wpAnyP_done (by kernel_rfl) ?_ _
  go_wp2_with fail
  go_ret
  exact ⟨rfl, hm ▸ below_drewN G2.out.b 1⟩

set_option maxRecDepth 100000 in
set_option maxHeartbeats 6400000 in
theorem group_c2 (a1 b1 c1 a2 b2 c2 a3 b3 c3 : Int) (w : World) (h1 : (formF a1 b1 c1).1 = 0) (h2 : (formF a2 b2 c2).1 = 0) (D : Int) (d1 : b1 * b1 - 4 * a1 * c1 = D) (d2 : b2 * b2 - 4 * a2 * c2 = D) (v : Int) (hv : D ≠ v) (CD3 : ∀ W, Hid (Calls Try.prog 18 #[.agg #[.int .i64 a3, .int .i64 b3, .int .i64 c3]] W fun e w' => e = .returned (.int .i64 v) ∧ Below W.heap.size W w')) : Calls Try.prog 5 #[.agg #[.int .i64 a1, .int .i64 b1, .int .i64 c1], .agg #[.int .i64 a2, .int .i64 b2, .int .i64 c2], .agg #[.int .i64 a3, .int .i64 b3, .int .i64 c3]] w fun e w' => e = .returned (.bool true) ∧ Below w.heap.size w w' := by
  have CC := fun W => hide (Compose_good a1 b1 c1 a2 b2 c2 D W h1 h2 d1 d2)
  have hz := formF_zero h1
  have CD1 := fun W => hide (rdisc_any a1 b1 c1 W (by omega) (by omega) (by omega))
  rw [d1] at CD1
  have k1 : (D != v) = true := by simpa using hv
  have k2 : decide (D = v) = false := by simpa using hv
  have k3 : ¬ D = v := hv
  clear hv
  clear h1 h2 d1 d2 hz
  have CB := fun W => hide (formBegun_any W)
  have G0 := hide (grp_start w a1 b1 c1 a2 b2 c2 a3 b3 c3)
  go_enter Try.func5, Try.ntmps5
  go_wp2_with fail
  obtain ⟨W0, hW0⟩ : ∃ Z, ((w.alloc (.cells #[.int .i64 a1, .int .i64 b1, .int .i64 c1] 23)).alloc (.cells #[.int .i64 a2, .int .i64 b2, .int .i64 c2] 23)).alloc (.cells #[.int .i64 a3, .int .i64 b3, .int .i64 c3] 23) = Z := ⟨_, rfl⟩
  rw [hW0] at G0
  (try rw [hW0])
  obtain ⟨m, hm⟩ : ∃ m, w.heap.size = m := ⟨_, rfl⟩
  rw [hm] at G0
  (try rw [hm])
  clear hW0
  refine (CB _).out.mono ?_
  rintro e w1 ⟨rfl, hb⟩
  have G1 := hide (G0.out.below hb)
  clear hb G0 CB
  obtain ⟨f0, f1, f2⟩ := (G1.out.f (m, a1, b1, c1) (by simp)).cells
  obtain ⟨g0, g1, g2⟩ := (G1.out.f (m + 1, a2, b2, c2) (by simp)).cells
  go_wp2_with fail
  refine (CC _).out.mono ?_
  rintro e w2 ⟨⟨A, B, C, rfl, hfact⟩, hb⟩
  have HF1 := hide hfact
  clear hfact
  have G2 := hide ((G1.out.below hb).two A B C 0 0)
  clear hb G1 CC f0 f1 f2 g0 g1 g2
  go_upto_region 4 with (fail)
  obtain ⟨W3, hW3⟩ : ∃ Z, (w2.alloc (.cells #[.int .i64 A, .int .i64 B, .int .i64 C] 23)).alloc (.cells #[.int .i64 0, .int .i64 0] 26) = Z := ⟨_, rfl⟩
  rw [hW3] at G2
  (try rw [hW3])
  obtain ⟨q, hq⟩ : ∃ q, w2.heap.size + 1 = q := ⟨_, rfl⟩
  rw [hq] at G2
  (try rw [hq])
  clear hW3 hq
  have KD := fun W (k : Below W3.heap.size W3 W) => hide (show (((W.cell? ⟨m, 0, none⟩ = some (.int .i64 a1) ∧ W.cell? ⟨m, 1, none⟩ = some (.int .i64 b1) ∧ W.cell? ⟨m, 2, none⟩ = some (.int .i64 c1)) ∧ (W.cell? ⟨m + 1 + 1, 0, none⟩ = some (.int .i64 a3) ∧ W.cell? ⟨m + 1 + 1, 1, none⟩ = some (.int .i64 b3) ∧ W.cell? ⟨m + 1 + 1, 2, none⟩ = some (.int .i64 c3)) ∧ W.cell? ⟨q, 0, none⟩ = some (.int .i64 0)) ∧ Hid (Below W3.heap.size W3 W)) from ⟨⟨(((G2.out.below k).f (m, a1, b1, c1) (by simp))).cells, ((G2.out.below k).f (m + 1 + 1, a3, b3, c3) (by simp)).cells, ((G2.out.below k).z (q, 0, 0) (by simp)).cells.1⟩, hide k⟩)
  refine wp_region_P (fun W => ((W.cell? ⟨m, 0, none⟩ = some (.int .i64 a1) ∧ W.cell? ⟨m, 1, none⟩ = some (.int .i64 b1) ∧ W.cell? ⟨m, 2, none⟩ = some (.int .i64 c1)) ∧ (W.cell? ⟨m + 1 + 1, 0, none⟩ = some (.int .i64 a3) ∧ W.cell? ⟨m + 1 + 1, 1, none⟩ = some (.int .i64 b3) ∧ W.cell? ⟨m + 1 + 1, 2, none⟩ = some (.int .i64 c3)) ∧ W.cell? ⟨q, 0, none⟩ = some (.int .i64 0)) ∧ Hid (Below W3.heap.size W3 W)) 20 (by rfl) ((KD _ (below_drewN (Below.refl _ _) 1)).out) ?_
  intro hS
  refine wpAnyP_take 0 35 [0, 1, 2, 3, 7, 10, 12, 16, 20] (v := ?_) rfl (by kernel_rfl) (by kernel_rfl) (by kernel_rfl) (by kernel_rfl) (by kernel_rfl) (by kernel_rfl) (by rfl) (fun _ _ _ h => h) (Or.inl ⟨by rfl, ?_⟩) hS ?_; rotate_left
  · (intro w hSw; (try dsimp only at hSw); go_simp; (try with_reducible rfl))
  (try simp only [List.setIfInBounds_toArray, List.set_cons_zero, List.set_cons_succ])
  refine wpAnyP_take 1 36 [1, 2, 3, 7, 10, 12, 16, 20] (v := ?_) rfl (by kernel_rfl) (by kernel_rfl) (by kernel_rfl) (by kernel_rfl) (by kernel_rfl) (by kernel_rfl) (by rfl) (fun _ _ _ h => h) (Or.inl ⟨by rfl, ?_⟩) hS ?_; rotate_left
  · (intro w hSw; (try dsimp only at hSw); go_simp; (try with_reducible rfl))
  (try simp only [List.setIfInBounds_toArray, List.set_cons_zero, List.set_cons_succ])
  refine wpAnyP_take 2 37 [2, 3, 7, 10, 12, 16, 20] (v := ?_) rfl (by kernel_rfl) (by kernel_rfl) (by kernel_rfl) (by kernel_rfl) (by kernel_rfl) (by kernel_rfl) (by rfl) (fun _ _ _ h => h) (Or.inl ⟨by rfl, ?_⟩) hS ?_; rotate_left
  · (intro w hSw; (try dsimp only at hSw); go_simp; (try with_reducible rfl))
  (try simp only [List.setIfInBounds_toArray, List.set_cons_zero, List.set_cons_succ])
  refine wpAnyP_take 3 38 [3, 7, 10, 12, 16, 20] (v := ?_) rfl (by kernel_rfl) (by kernel_rfl) (by kernel_rfl) (by kernel_rfl) (by kernel_rfl) (by kernel_rfl) (by rfl) (fun _ _ _ h => h) (Or.inl ⟨by rfl, ?_⟩) hS ?_; rotate_left
  · (intro w hSw; (try dsimp only at hSw); go_simp; (try with_reducible rfl))
  (try simp only [List.setIfInBounds_toArray, List.set_cons_zero, List.set_cons_succ])
  refine wpAnyP_take 4 39 [4, 5, 7, 10, 12, 16, 20] (v := ?_) rfl (by kernel_rfl) (by kernel_rfl) (by kernel_rfl) (by kernel_rfl) (by kernel_rfl) (by kernel_rfl) (by rfl) (fun _ _ _ h => h) (Or.inl ⟨by rfl, ?_⟩) hS ?_; rotate_left
  · (intro w hSw; (try dsimp only at hSw); go_simp; (try with_reducible rfl))
  (try simp only [List.setIfInBounds_toArray, List.set_cons_zero, List.set_cons_succ])
  refine wpAnyP_take 6 41 [6, 7, 10, 12, 16, 20] (v := ?_) rfl (by kernel_rfl) (by kernel_rfl) (by kernel_rfl) (by kernel_rfl) (by kernel_rfl) (by kernel_rfl) (by rfl) (fun _ _ _ h => h) (Or.inl ⟨by rfl, ?_⟩) hS ?_; rotate_left
  · (intro w hSw; (try dsimp only at hSw); go_simp; (try with_reducible rfl))
  (try simp only [List.setIfInBounds_toArray, List.set_cons_zero, List.set_cons_succ])
  refine wpAnyP_one 5 rfl (by kernel_rfl) (fun K hK => ?_)
  go_simp
  refine (CD1 _).out.mono ?_
  rintro e w5 ⟨rfl, hb⟩
  have hy := hS.2.out.trans (hb.mono hS.2.out.size)
  clear hS
  have hS := (KD _ hy).out
  refine hK.out _ _ (fun _ => hS) ?_
  clear hK K
  (try simp only [Act.put, List.setIfInBounds_toArray, List.set_cons_zero, List.set_cons_succ])
  refine wpAnyP_one 7 rfl (by kernel_rfl) (fun K hK => ?_)
  go_simp
  refine (CD3 _).out.mono ?_
  rintro e w5 ⟨rfl, hb⟩
  have hy := hS.2.out.trans (hb.mono hS.2.out.size)
  clear hS
  have hS := (KD _ hy).out
  refine hK.out _ _ (fun _ => hS) ?_
  clear hK K
  (try simp only [Act.put, List.setIfInBounds_toArray, List.set_cons_zero, List.set_cons_succ])
  refine wpAnyP_take 8 43 [8, 9, 10, 12, 16, 20] (v := ?_) rfl (by kernel_rfl) (by kernel_rfl) (by kernel_rfl) (by kernel_rfl) (by kernel_rfl) (by kernel_rfl) (by rfl) (fun _ _ _ h => h) (Or.inl ⟨by rfl, ?_⟩) hS ?_; rotate_left
  · (intro w hSw; (try dsimp only at hSw); go_simp; (try with_reducible rfl))
  (try simp only [List.setIfInBounds_toArray, List.set_cons_zero, List.set_cons_succ])
  refine wpAnyP_take 9 44 [9, 10, 12, 16, 20] (v := ?_) rfl (by kernel_rfl) (by kernel_rfl) (by kernel_rfl) (by kernel_rfl) (by kernel_rfl) (by kernel_rfl) (by rfl) (fun _ _ _ h => h) (Or.inl ⟨by rfl, ?_⟩) hS ?_; rotate_left
  · (intro w hSw; (try dsimp only at hSw); go_simp; (try with_reducible rfl))
  (try simp only [List.setIfInBounds_toArray, List.set_cons_zero, List.set_cons_succ])
  refine wpAnyP_take 10 45 [10, 12, 16, 20] (v := ?_) rfl (by kernel_rfl) (by kernel_rfl) (by kernel_rfl) (by kernel_rfl) (by kernel_rfl) (by kernel_rfl) (by rfl) (fun _ _ _ h => h) (Or.inl ⟨by rfl, ?_⟩) hS ?_; rotate_left
  · (intro w hSw; (try dsimp only at hSw); go_simp; (try with_reducible rfl))
  (try simp only [List.setIfInBounds_toArray, List.set_cons_zero, List.set_cons_succ])
  refine wpAnyP_take 11 46 [11, 12, 16, 20] (v := undef) rfl (by kernel_rfl) (by kernel_rfl) (by kernel_rfl) (by kernel_rfl) (by kernel_rfl) (by kernel_rfl) (by rfl) (fun _ _ _ h => h) (Or.inr ⟨by rfl, rfl⟩) hS ?_
  (try simp only [List.setIfInBounds_toArray, List.set_cons_zero, List.set_cons_succ])
  refine wpAnyP_take 12 47 [12, 16, 20] (v := undef) rfl (by kernel_rfl) (by kernel_rfl) (by kernel_rfl) (by kernel_rfl) (by kernel_rfl) (by kernel_rfl) (by rfl) (fun _ _ _ h => h) (Or.inr ⟨by rfl, rfl⟩) hS ?_
  (try simp only [List.setIfInBounds_toArray, List.set_cons_zero, List.set_cons_succ])
  refine wpAnyP_take 13 48 [13, 14, 15, 16, 20] (v := undef) rfl (by kernel_rfl) (by kernel_rfl) (by kernel_rfl) (by kernel_rfl) (by kernel_rfl) (by kernel_rfl) (by rfl) (fun _ _ _ h => h) (Or.inr ⟨by rfl, rfl⟩) hS ?_
  (try simp only [List.setIfInBounds_toArray, List.set_cons_zero, List.set_cons_succ])
  refine wpAnyP_take 14 49 [14, 15, 16, 20] (v := undef) rfl (by kernel_rfl) (by kernel_rfl) (by kernel_rfl) (by kernel_rfl) (by kernel_rfl) (by kernel_rfl) (by rfl) (fun _ _ _ h => h) (Or.inr ⟨by rfl, rfl⟩) hS ?_
  (try simp only [List.setIfInBounds_toArray, List.set_cons_zero, List.set_cons_succ])
  refine wpAnyP_take 15 50 [15, 16, 20] (v := ?_) rfl (by kernel_rfl) (by kernel_rfl) (by kernel_rfl) (by kernel_rfl) (by kernel_rfl) (by kernel_rfl) (by rfl) (fun _ _ _ h => h) (Or.inl ⟨by rfl, ?_⟩) hS ?_; rotate_left
  · (intro w hSw; (try dsimp only at hSw); go_simp; (try with_reducible rfl))
  (try simp only [List.setIfInBounds_toArray, List.set_cons_zero, List.set_cons_succ])
  refine wpAnyP_take 16 51 [16, 20] (v := ?_) rfl (by kernel_rfl) (by kernel_rfl) (by kernel_rfl) (by kernel_rfl) (by kernel_rfl) (by kernel_rfl) (by rfl) (fun _ _ _ h => h) (Or.inl ⟨by rfl, ?_⟩) hS ?_; rotate_left
  · (intro w hSw; (try dsimp only at hSw); go_simp; (try with_reducible rfl))
  (try simp only [List.setIfInBounds_toArray, List.set_cons_zero, List.set_cons_succ])
  refine wpAnyP_take 17 52 [17, 18, 19, 20] (v := undef) rfl (by kernel_rfl) (by kernel_rfl) (by kernel_rfl) (by kernel_rfl) (by kernel_rfl) (by kernel_rfl) (by rfl) (fun _ _ _ h => h) (Or.inr ⟨by rfl, rfl⟩) hS ?_
  (try simp only [List.setIfInBounds_toArray, List.set_cons_zero, List.set_cons_succ])
  refine wpAnyP_take 18 53 [18, 19, 20] (v := undef) rfl (by kernel_rfl) (by kernel_rfl) (by kernel_rfl) (by kernel_rfl) (by kernel_rfl) (by kernel_rfl) (by rfl) (fun _ _ _ h => h) (Or.inr ⟨by rfl, rfl⟩) hS ?_
  (try simp only [List.setIfInBounds_toArray, List.set_cons_zero, List.set_cons_succ])
  refine wpAnyP_take 19 54 [19, 20] (v := undef) rfl (by kernel_rfl) (by kernel_rfl) (by kernel_rfl) (by kernel_rfl) (by kernel_rfl) (by kernel_rfl) (by rfl) (fun _ _ _ h => h) (Or.inr ⟨by rfl, rfl⟩) hS ?_
  (try simp only [List.setIfInBounds_toArray, List.set_cons_zero, List.set_cons_succ])
  refine wpAnyP_one 20 rfl (by kernel_rfl) (fun K hK => ?_)
  go_simp
  refine hK.out _ _ (fun _ => hS) ?_
  clear hK K
  (try simp only [Act.put, List.setIfInBounds_toArray, List.set_cons_zero, List.set_cons_succ])
  refine wpAnyP_done (by kernel_rfl) ?_ _
  go_wp2_with fail
  go_ret
  exact ⟨rfl, hm ▸ G2.out.b.trans (hS.2.out.mono G2.out.b.size)⟩

set_option maxRecDepth 100000 in
set_option maxHeartbeats 6400000 in
theorem group_c3 (a1 b1 c1 a2 b2 c2 a3 b3 c3 : Int) (w : World) (h1 : (formF a1 b1 c1).1 = 0) (h2 : (formF a2 b2 c2).1 = 0) (D : Int) (d1 : b1 * b1 - 4 * a1 * c1 = D) (d2 : b2 * b2 - 4 * a2 * c2 = D) (CD3 : ∀ W, Hid (Calls Try.prog 18 #[.agg #[.int .i64 a3, .int .i64 b3, .int .i64 c3]] W fun e w' => e = .returned (.int .i64 D) ∧ Below W.heap.size W w')) (hf : (formF a3 b3 c3).1 ≠ 0) : Calls Try.prog 5 #[.agg #[.int .i64 a1, .int .i64 b1, .int .i64 c1], .agg #[.int .i64 a2, .int .i64 b2, .int .i64 c2], .agg #[.int .i64 a3, .int .i64 b3, .int .i64 c3]] w fun e w' => e = .returned (.bool true) ∧ Below w.heap.size w w' := by
  have CC := fun W => hide (Compose_good a1 b1 c1 a2 b2 c2 D W h1 h2 d1 d2)
  have hz := formF_zero h1
  have CD1 := fun W => hide (rdisc_any a1 b1 c1 W (by omega) (by omega) (by omega))
  rw [d1] at CD1
  have CF := fun W => hide (formFault_any a3 b3 c3 W)
  unfold RetFault at CF
  obtain ⟨k, n, hkn⟩ : ∃ k n, formF a3 b3 c3 = (k, n) := ⟨_, _, rfl⟩
  rw [hkn] at CF hf
  simp only [fv] at CF
  simp only at hf
  have k1 : (k != 0) = true := by simpa using hf
  have k2 : decide (k = 0) = false := by simpa using hf
  have k3 : ¬ k = 0 := hf
  have k4 : (D != D) = false := by simp
  have KF := field_code
  clear hf hkn
  clear h1 h2 d1 d2 hz
  have CB := fun W => hide (formBegun_any W)
  have G0 := hide (grp_start w a1 b1 c1 a2 b2 c2 a3 b3 c3)
  go_enter Try.func5, Try.ntmps5
  go_wp2_with fail
  obtain ⟨W0, hW0⟩ : ∃ Z, ((w.alloc (.cells #[.int .i64 a1, .int .i64 b1, .int .i64 c1] 23)).alloc (.cells #[.int .i64 a2, .int .i64 b2, .int .i64 c2] 23)).alloc (.cells #[.int .i64 a3, .int .i64 b3, .int .i64 c3] 23) = Z := ⟨_, rfl⟩
  rw [hW0] at G0
  (try rw [hW0])
  obtain ⟨m, hm⟩ : ∃ m, w.heap.size = m := ⟨_, rfl⟩
  rw [hm] at G0
  (try rw [hm])
  clear hW0
  refine (CB _).out.mono ?_
  rintro e w1 ⟨rfl, hb⟩
  have G1 := hide (G0.out.below hb)
  clear hb G0 CB
  obtain ⟨f0, f1, f2⟩ := (G1.out.f (m, a1, b1, c1) (by simp)).cells
  obtain ⟨g0, g1, g2⟩ := (G1.out.f (m + 1, a2, b2, c2) (by simp)).cells
  go_wp2_with fail
  refine (CC _).out.mono ?_
  rintro e w2 ⟨⟨A, B, C, rfl, hfact⟩, hb⟩
  have HF1 := hide hfact
  clear hfact
  have G2 := hide ((G1.out.below hb).two A B C 0 0)
  clear hb G1 CC f0 f1 f2 g0 g1 g2
  go_upto_region 4 with (fail)
  obtain ⟨W3, hW3⟩ : ∃ Z, (w2.alloc (.cells #[.int .i64 A, .int .i64 B, .int .i64 C] 23)).alloc (.cells #[.int .i64 0, .int .i64 0] 26) = Z := ⟨_, rfl⟩
  rw [hW3] at G2
  (try rw [hW3])
  obtain ⟨q, hq⟩ : ∃ q, w2.heap.size + 1 = q := ⟨_, rfl⟩
  rw [hq] at G2
  (try rw [hq])
  clear hW3 hq
  have KD := fun W (k : Below W3.heap.size W3 W) => hide (show (((W.cell? ⟨m, 0, none⟩ = some (.int .i64 a1) ∧ W.cell? ⟨m, 1, none⟩ = some (.int .i64 b1) ∧ W.cell? ⟨m, 2, none⟩ = some (.int .i64 c1)) ∧ (W.cell? ⟨m + 1 + 1, 0, none⟩ = some (.int .i64 a3) ∧ W.cell? ⟨m + 1 + 1, 1, none⟩ = some (.int .i64 b3) ∧ W.cell? ⟨m + 1 + 1, 2, none⟩ = some (.int .i64 c3)) ∧ W.cell? ⟨q, 0, none⟩ = some (.int .i64 0)) ∧ Hid (Below W3.heap.size W3 W)) from ⟨⟨(((G2.out.below k).f (m, a1, b1, c1) (by simp))).cells, ((G2.out.below k).f (m + 1 + 1, a3, b3, c3) (by simp)).cells, ((G2.out.below k).z (q, 0, 0) (by simp)).cells.1⟩, hide k⟩)
  refine wp_region_P (fun W => ((W.cell? ⟨m, 0, none⟩ = some (.int .i64 a1) ∧ W.cell? ⟨m, 1, none⟩ = some (.int .i64 b1) ∧ W.cell? ⟨m, 2, none⟩ = some (.int .i64 c1)) ∧ (W.cell? ⟨m + 1 + 1, 0, none⟩ = some (.int .i64 a3) ∧ W.cell? ⟨m + 1 + 1, 1, none⟩ = some (.int .i64 b3) ∧ W.cell? ⟨m + 1 + 1, 2, none⟩ = some (.int .i64 c3)) ∧ W.cell? ⟨q, 0, none⟩ = some (.int .i64 0)) ∧ Hid (Below W3.heap.size W3 W)) 20 (by rfl) ((KD _ (below_drewN (Below.refl _ _) 1)).out) ?_
  intro hS
  refine wpAnyP_take 0 35 [0, 1, 2, 3, 7, 10, 12, 16, 20] (v := ?_) rfl (by kernel_rfl) (by kernel_rfl) (by kernel_rfl) (by kernel_rfl) (by kernel_rfl) (by kernel_rfl) (by rfl) (fun _ _ _ h => h) (Or.inl ⟨by rfl, ?_⟩) hS ?_; rotate_left
  · (intro w hSw; (try dsimp only at hSw); go_simp; (try with_reducible rfl))
  (try simp only [List.setIfInBounds_toArray, List.set_cons_zero, List.set_cons_succ])
  refine wpAnyP_take 1 36 [1, 2, 3, 7, 10, 12, 16, 20] (v := ?_) rfl (by kernel_rfl) (by kernel_rfl) (by kernel_rfl) (by kernel_rfl) (by kernel_rfl) (by kernel_rfl) (by rfl) (fun _ _ _ h => h) (Or.inl ⟨by rfl, ?_⟩) hS ?_; rotate_left
  · (intro w hSw; (try dsimp only at hSw); go_simp; (try with_reducible rfl))
  (try simp only [List.setIfInBounds_toArray, List.set_cons_zero, List.set_cons_succ])
  refine wpAnyP_take 2 37 [2, 3, 7, 10, 12, 16, 20] (v := ?_) rfl (by kernel_rfl) (by kernel_rfl) (by kernel_rfl) (by kernel_rfl) (by kernel_rfl) (by kernel_rfl) (by rfl) (fun _ _ _ h => h) (Or.inl ⟨by rfl, ?_⟩) hS ?_; rotate_left
  · (intro w hSw; (try dsimp only at hSw); go_simp; (try with_reducible rfl))
  (try simp only [List.setIfInBounds_toArray, List.set_cons_zero, List.set_cons_succ])
  refine wpAnyP_take 3 38 [3, 7, 10, 12, 16, 20] (v := ?_) rfl (by kernel_rfl) (by kernel_rfl) (by kernel_rfl) (by kernel_rfl) (by kernel_rfl) (by kernel_rfl) (by rfl) (fun _ _ _ h => h) (Or.inl ⟨by rfl, ?_⟩) hS ?_; rotate_left
  · (intro w hSw; (try dsimp only at hSw); go_simp; (try with_reducible rfl))
  (try simp only [List.setIfInBounds_toArray, List.set_cons_zero, List.set_cons_succ])
  refine wpAnyP_take 4 39 [4, 5, 7, 10, 12, 16, 20] (v := ?_) rfl (by kernel_rfl) (by kernel_rfl) (by kernel_rfl) (by kernel_rfl) (by kernel_rfl) (by kernel_rfl) (by rfl) (fun _ _ _ h => h) (Or.inl ⟨by rfl, ?_⟩) hS ?_; rotate_left
  · (intro w hSw; (try dsimp only at hSw); go_simp; (try with_reducible rfl))
  (try simp only [List.setIfInBounds_toArray, List.set_cons_zero, List.set_cons_succ])
  refine wpAnyP_take 6 41 [6, 7, 10, 12, 16, 20] (v := ?_) rfl (by kernel_rfl) (by kernel_rfl) (by kernel_rfl) (by kernel_rfl) (by kernel_rfl) (by kernel_rfl) (by rfl) (fun _ _ _ h => h) (Or.inl ⟨by rfl, ?_⟩) hS ?_; rotate_left
  · (intro w hSw; (try dsimp only at hSw); go_simp; (try with_reducible rfl))
  (try simp only [List.setIfInBounds_toArray, List.set_cons_zero, List.set_cons_succ])
  refine wpAnyP_one 5 rfl (by kernel_rfl) (fun K hK => ?_)
  go_simp
  refine (CD1 _).out.mono ?_
  rintro e w5 ⟨rfl, hb⟩
  have hy := hS.2.out.trans (hb.mono hS.2.out.size)
  clear hS
  have hS := (KD _ hy).out
  refine hK.out _ _ (fun _ => hS) ?_
  clear hK K
  (try simp only [Act.put, List.setIfInBounds_toArray, List.set_cons_zero, List.set_cons_succ])
  refine wpAnyP_one 7 rfl (by kernel_rfl) (fun K hK => ?_)
  go_simp
  refine (CD3 _).out.mono ?_
  rintro e w5 ⟨rfl, hb⟩
  have hy := hS.2.out.trans (hb.mono hS.2.out.size)
  clear hS
  have hS := (KD _ hy).out
  refine hK.out _ _ (fun _ => hS) ?_
  clear hK K
  (try simp only [Act.put, List.setIfInBounds_toArray, List.set_cons_zero, List.set_cons_succ])
  refine wpAnyP_take 8 43 [8, 9, 10, 12, 16, 20] (v := ?_) rfl (by kernel_rfl) (by kernel_rfl) (by kernel_rfl) (by kernel_rfl) (by kernel_rfl) (by kernel_rfl) (by rfl) (fun _ _ _ h => h) (Or.inl ⟨by rfl, ?_⟩) hS ?_; rotate_left
  · (intro w hSw; (try dsimp only at hSw); go_simp; (try with_reducible rfl))
  (try simp only [List.setIfInBounds_toArray, List.set_cons_zero, List.set_cons_succ])
  refine wpAnyP_take 9 44 [9, 10, 12, 16, 20] (v := ?_) rfl (by kernel_rfl) (by kernel_rfl) (by kernel_rfl) (by kernel_rfl) (by kernel_rfl) (by kernel_rfl) (by rfl) (fun _ _ _ h => h) (Or.inl ⟨by rfl, ?_⟩) hS ?_; rotate_left
  · (intro w hSw; (try dsimp only at hSw); go_simp; (try with_reducible rfl))
  (try simp only [List.setIfInBounds_toArray, List.set_cons_zero, List.set_cons_succ])
  refine wpAnyP_take 10 45 [10, 12, 16, 20] (v := ?_) rfl (by kernel_rfl) (by kernel_rfl) (by kernel_rfl) (by kernel_rfl) (by kernel_rfl) (by kernel_rfl) (by rfl) (fun _ _ _ h => h) (Or.inl ⟨by rfl, ?_⟩) hS ?_; rotate_left
  · (intro w hSw; (try dsimp only at hSw); go_simp; (try with_reducible rfl))
  (try simp only [List.setIfInBounds_toArray, List.set_cons_zero, List.set_cons_succ])
  refine wpAnyP_take 11 46 [11, 12, 16, 20] (v := ?_) rfl (by kernel_rfl) (by kernel_rfl) (by kernel_rfl) (by kernel_rfl) (by kernel_rfl) (by kernel_rfl) (by rfl) (fun _ _ _ h => h) (Or.inl ⟨by rfl, ?_⟩) hS ?_; rotate_left
  · (intro w hSw; (try dsimp only at hSw); go_simp; (try with_reducible rfl))
  (try simp only [List.setIfInBounds_toArray, List.set_cons_zero, List.set_cons_succ])
  refine wpAnyP_one 12 rfl (by kernel_rfl) (fun K hK => ?_)
  go_simp
  refine (CF _).out.mono ?_
  rintro e w5 ⟨rfl, hb⟩
  have hy := hS.2.out.trans (hb.mono hS.2.out.size)
  clear hS
  have hS := (KD _ hy).out
  refine hK.out _ _ (fun _ => hS) ?_
  clear hK K
  (try simp only [Act.put, List.setIfInBounds_toArray, List.set_cons_zero, List.set_cons_succ])
  refine wpAnyP_take 13 48 [13, 14, 15, 16, 20] (v := ?_) rfl (by kernel_rfl) (by kernel_rfl) (by kernel_rfl) (by kernel_rfl) (by kernel_rfl) (by kernel_rfl) (by rfl) (fun _ _ _ h => h) (Or.inl ⟨by rfl, ?_⟩) hS ?_; rotate_left
  · (intro w hSw; (try dsimp only at hSw); go_simp; (try with_reducible rfl))
  (try simp only [List.setIfInBounds_toArray, List.set_cons_zero, List.set_cons_succ])
  refine wpAnyP_take 14 49 [14, 15, 16, 20] (v := ?_) rfl (by kernel_rfl) (by kernel_rfl) (by kernel_rfl) (by kernel_rfl) (by kernel_rfl) (by kernel_rfl) (by rfl) (fun _ _ _ h => h) (Or.inl ⟨by rfl, ?_⟩) hS ?_; rotate_left
  · (intro w hSw; (try dsimp only at hSw); go_simp; (try with_reducible rfl))
  (try simp only [List.setIfInBounds_toArray, List.set_cons_zero, List.set_cons_succ])
  refine wpAnyP_take 15 50 [15, 16, 20] (v := ?_) rfl (by kernel_rfl) (by kernel_rfl) (by kernel_rfl) (by kernel_rfl) (by kernel_rfl) (by kernel_rfl) (by rfl) (fun _ _ _ h => h) (Or.inl ⟨by rfl, ?_⟩) hS ?_; rotate_left
  · (intro w hSw; (try dsimp only at hSw); go_simp; (try with_reducible rfl))
  (try simp only [List.setIfInBounds_toArray, List.set_cons_zero, List.set_cons_succ])
  refine wpAnyP_take 16 51 [16, 20] (v := ?_) rfl (by kernel_rfl) (by kernel_rfl) (by kernel_rfl) (by kernel_rfl) (by kernel_rfl) (by kernel_rfl) (by rfl) (fun _ _ _ h => h) (Or.inl ⟨by rfl, ?_⟩) hS ?_; rotate_left
  · (intro w hSw; (try dsimp only at hSw); go_simp; (try with_reducible rfl))
  (try simp only [List.setIfInBounds_toArray, List.set_cons_zero, List.set_cons_succ])
  refine wpAnyP_take 17 52 [17, 18, 19, 20] (v := undef) rfl (by kernel_rfl) (by kernel_rfl) (by kernel_rfl) (by kernel_rfl) (by kernel_rfl) (by kernel_rfl) (by rfl) (fun _ _ _ h => h) (Or.inr ⟨by rfl, rfl⟩) hS ?_
  (try simp only [List.setIfInBounds_toArray, List.set_cons_zero, List.set_cons_succ])
  refine wpAnyP_take 18 53 [18, 19, 20] (v := undef) rfl (by kernel_rfl) (by kernel_rfl) (by kernel_rfl) (by kernel_rfl) (by kernel_rfl) (by kernel_rfl) (by rfl) (fun _ _ _ h => h) (Or.inr ⟨by rfl, rfl⟩) hS ?_
  (try simp only [List.setIfInBounds_toArray, List.set_cons_zero, List.set_cons_succ])
  refine wpAnyP_take 19 54 [19, 20] (v := undef) rfl (by kernel_rfl) (by kernel_rfl) (by kernel_rfl) (by kernel_rfl) (by kernel_rfl) (by kernel_rfl) (by rfl) (fun _ _ _ h => h) (Or.inr ⟨by rfl, rfl⟩) hS ?_
  (try simp only [List.setIfInBounds_toArray, List.set_cons_zero, List.set_cons_succ])
  refine wpAnyP_one 20 rfl (by kernel_rfl) (fun K hK => ?_)
  go_simp
  refine hK.out _ _ (fun _ => hS) ?_
  clear hK K
  (try simp only [Act.put, List.setIfInBounds_toArray, List.set_cons_zero, List.set_cons_succ])
  refine wpAnyP_done (by kernel_rfl) ?_ _
  go_wp2_with fail
  go_ret
  exact ⟨rfl, hm ▸ G2.out.b.trans (hS.2.out.mono G2.out.b.size)⟩

set_option maxRecDepth 100000 in
set_option maxHeartbeats 6400000 in
theorem group_c4 (a1 b1 c1 a2 b2 c2 a3 b3 c3 : Int) (w : World) (h1 : (formF a1 b1 c1).1 = 0) (h2 : (formF a2 b2 c2).1 = 0) (h3 : (formF a3 b3 c3).1 = 0) (D : Int) (d1 : b1 * b1 - 4 * a1 * c1 = D) (d2 : b2 * b2 - 4 * a2 * c2 = D) (d3 : b3 * b3 - 4 * a3 * c3 = D) (hl : D < -1000000) : Calls Try.prog 5 #[.agg #[.int .i64 a1, .int .i64 b1, .int .i64 c1], .agg #[.int .i64 a2, .int .i64 b2, .int .i64 c2], .agg #[.int .i64 a3, .int .i64 b3, .int .i64 c3]] w fun e w' => e = .returned (.bool true) ∧ Below w.heap.size w w' := by
  have CC := fun W => hide (Compose_good a1 b1 c1 a2 b2 c2 D W h1 h2 d1 d2)
  have hz := formF_zero h1
  have hz3 := formF_zero h3
  have CD1 := fun W => hide (rdisc_any a1 b1 c1 W (by omega) (by omega) (by omega))
  rw [d1] at CD1
  have CD3 := fun W => hide (rdisc_any a3 b3 c3 W (by omega) (by omega) (by omega))
  rw [d3] at CD3
  have CF := fun W => hide (formFault_any a3 b3 c3 W)
  unfold RetFault at CF
  rw [hz3.1] at CF
  simp only [fv] at CF
  have k4 : (D != D) = false := by simp
  have KF := field_code
  have k1 : decide (D < -1000000) = true := by simpa using hl
  clear h1 h2 h3 d1 d2 d3 hz hz3
  have CB := fun W => hide (formBegun_any W)
  have G0 := hide (grp_start w a1 b1 c1 a2 b2 c2 a3 b3 c3)
  go_enter Try.func5, Try.ntmps5
  go_wp2_with fail
  obtain ⟨W0, hW0⟩ : ∃ Z, ((w.alloc (.cells #[.int .i64 a1, .int .i64 b1, .int .i64 c1] 23)).alloc (.cells #[.int .i64 a2, .int .i64 b2, .int .i64 c2] 23)).alloc (.cells #[.int .i64 a3, .int .i64 b3, .int .i64 c3] 23) = Z := ⟨_, rfl⟩
  rw [hW0] at G0
  (try rw [hW0])
  obtain ⟨m, hm⟩ : ∃ m, w.heap.size = m := ⟨_, rfl⟩
  rw [hm] at G0
  (try rw [hm])
  clear hW0
  refine (CB _).out.mono ?_
  rintro e w1 ⟨rfl, hb⟩
  have G1 := hide (G0.out.below hb)
  clear hb G0 CB
  obtain ⟨f0, f1, f2⟩ := (G1.out.f (m, a1, b1, c1) (by simp)).cells
  obtain ⟨g0, g1, g2⟩ := (G1.out.f (m + 1, a2, b2, c2) (by simp)).cells
  go_wp2_with fail
  refine (CC _).out.mono ?_
  rintro e w2 ⟨⟨A1, B1, C1, rfl, hfact⟩, hb⟩
  have HF1 := hide hfact
  clear hfact
  have G2 := hide ((G1.out.below hb).two A1 B1 C1 0 0)
  clear hb G1 CC f0 f1 f2 g0 g1 g2
  go_upto_region 4 with (fail)
  obtain ⟨W3, hW3⟩ : ∃ Z, (w2.alloc (.cells #[.int .i64 A1, .int .i64 B1, .int .i64 C1] 23)).alloc (.cells #[.int .i64 0, .int .i64 0] 26) = Z := ⟨_, rfl⟩
  rw [hW3] at G2
  (try rw [hW3])
  obtain ⟨p1, hp1⟩ : ∃ q, w2.heap.size = q := ⟨_, rfl⟩
  rw [hp1] at G2
  (try rw [hp1])
  clear hW3 hp1
  have KD := fun W (k : Below W3.heap.size W3 W) => hide (show (((W.cell? ⟨m, 0, none⟩ = some (.int .i64 a1) ∧ W.cell? ⟨m, 1, none⟩ = some (.int .i64 b1) ∧ W.cell? ⟨m, 2, none⟩ = some (.int .i64 c1)) ∧ (W.cell? ⟨m + 1 + 1, 0, none⟩ = some (.int .i64 a3) ∧ W.cell? ⟨m + 1 + 1, 1, none⟩ = some (.int .i64 b3) ∧ W.cell? ⟨m + 1 + 1, 2, none⟩ = some (.int .i64 c3)) ∧ W.cell? ⟨p1 + 1, 0, none⟩ = some (.int .i64 0)) ∧ Hid (Below W3.heap.size W3 W)) from ⟨⟨(((G2.out.below k).f (m, a1, b1, c1) (by simp))).cells, ((G2.out.below k).f (m + 1 + 1, a3, b3, c3) (by simp)).cells, ((G2.out.below k).z (p1 + 1, 0, 0) (by simp)).cells.1⟩, hide k⟩)
  refine wp_region_P (fun W => ((W.cell? ⟨m, 0, none⟩ = some (.int .i64 a1) ∧ W.cell? ⟨m, 1, none⟩ = some (.int .i64 b1) ∧ W.cell? ⟨m, 2, none⟩ = some (.int .i64 c1)) ∧ (W.cell? ⟨m + 1 + 1, 0, none⟩ = some (.int .i64 a3) ∧ W.cell? ⟨m + 1 + 1, 1, none⟩ = some (.int .i64 b3) ∧ W.cell? ⟨m + 1 + 1, 2, none⟩ = some (.int .i64 c3)) ∧ W.cell? ⟨p1 + 1, 0, none⟩ = some (.int .i64 0)) ∧ Hid (Below W3.heap.size W3 W)) 20 (by rfl) ((KD _ (below_drewN (Below.refl _ _) 1)).out) ?_
  intro hS
  refine wpAnyP_take 0 35 [0, 1, 2, 3, 7, 10, 12, 16, 20] (v := ?_) rfl (by kernel_rfl) (by kernel_rfl) (by kernel_rfl) (by kernel_rfl) (by kernel_rfl) (by kernel_rfl) (by rfl) (fun _ _ _ h => h) (Or.inl ⟨by rfl, ?_⟩) hS ?_; rotate_left
  · (intro w hSw; (try dsimp only at hSw); go_simp; (try with_reducible rfl))
  (try simp only [List.setIfInBounds_toArray, List.set_cons_zero, List.set_cons_succ])
  refine wpAnyP_take 1 36 [1, 2, 3, 7, 10, 12, 16, 20] (v := ?_) rfl (by kernel_rfl) (by kernel_rfl) (by kernel_rfl) (by kernel_rfl) (by kernel_rfl) (by kernel_rfl) (by rfl) (fun _ _ _ h => h) (Or.inl ⟨by rfl, ?_⟩) hS ?_; rotate_left
  · (intro w hSw; (try dsimp only at hSw); go_simp; (try with_reducible rfl))
  (try simp only [List.setIfInBounds_toArray, List.set_cons_zero, List.set_cons_succ])
  refine wpAnyP_take 2 37 [2, 3, 7, 10, 12, 16, 20] (v := ?_) rfl (by kernel_rfl) (by kernel_rfl) (by kernel_rfl) (by kernel_rfl) (by kernel_rfl) (by kernel_rfl) (by rfl) (fun _ _ _ h => h) (Or.inl ⟨by rfl, ?_⟩) hS ?_; rotate_left
  · (intro w hSw; (try dsimp only at hSw); go_simp; (try with_reducible rfl))
  (try simp only [List.setIfInBounds_toArray, List.set_cons_zero, List.set_cons_succ])
  refine wpAnyP_take 3 38 [3, 7, 10, 12, 16, 20] (v := ?_) rfl (by kernel_rfl) (by kernel_rfl) (by kernel_rfl) (by kernel_rfl) (by kernel_rfl) (by kernel_rfl) (by rfl) (fun _ _ _ h => h) (Or.inl ⟨by rfl, ?_⟩) hS ?_; rotate_left
  · (intro w hSw; (try dsimp only at hSw); go_simp; (try with_reducible rfl))
  (try simp only [List.setIfInBounds_toArray, List.set_cons_zero, List.set_cons_succ])
  refine wpAnyP_take 4 39 [4, 5, 7, 10, 12, 16, 20] (v := ?_) rfl (by kernel_rfl) (by kernel_rfl) (by kernel_rfl) (by kernel_rfl) (by kernel_rfl) (by kernel_rfl) (by rfl) (fun _ _ _ h => h) (Or.inl ⟨by rfl, ?_⟩) hS ?_; rotate_left
  · (intro w hSw; (try dsimp only at hSw); go_simp; (try with_reducible rfl))
  (try simp only [List.setIfInBounds_toArray, List.set_cons_zero, List.set_cons_succ])
  refine wpAnyP_take 6 41 [6, 7, 10, 12, 16, 20] (v := ?_) rfl (by kernel_rfl) (by kernel_rfl) (by kernel_rfl) (by kernel_rfl) (by kernel_rfl) (by kernel_rfl) (by rfl) (fun _ _ _ h => h) (Or.inl ⟨by rfl, ?_⟩) hS ?_; rotate_left
  · (intro w hSw; (try dsimp only at hSw); go_simp; (try with_reducible rfl))
  (try simp only [List.setIfInBounds_toArray, List.set_cons_zero, List.set_cons_succ])
  refine wpAnyP_one 5 rfl (by kernel_rfl) (fun K hK => ?_)
  go_simp
  refine (CD1 _).out.mono ?_
  rintro e w5 ⟨rfl, hb⟩
  have hy := hS.2.out.trans (hb.mono hS.2.out.size)
  clear hS
  have hS := (KD _ hy).out
  refine hK.out _ _ (fun _ => hS) ?_
  clear hK K
  (try simp only [Act.put, List.setIfInBounds_toArray, List.set_cons_zero, List.set_cons_succ])
  refine wpAnyP_one 7 rfl (by kernel_rfl) (fun K hK => ?_)
  go_simp
  refine (CD3 _).out.mono ?_
  rintro e w5 ⟨rfl, hb⟩
  have hy := hS.2.out.trans (hb.mono hS.2.out.size)
  clear hS
  have hS := (KD _ hy).out
  refine hK.out _ _ (fun _ => hS) ?_
  clear hK K
  (try simp only [Act.put, List.setIfInBounds_toArray, List.set_cons_zero, List.set_cons_succ])
  refine wpAnyP_take 8 43 [8, 9, 10, 12, 16, 20] (v := ?_) rfl (by kernel_rfl) (by kernel_rfl) (by kernel_rfl) (by kernel_rfl) (by kernel_rfl) (by kernel_rfl) (by rfl) (fun _ _ _ h => h) (Or.inl ⟨by rfl, ?_⟩) hS ?_; rotate_left
  · (intro w hSw; (try dsimp only at hSw); go_simp; (try with_reducible rfl))
  (try simp only [List.setIfInBounds_toArray, List.set_cons_zero, List.set_cons_succ])
  refine wpAnyP_take 9 44 [9, 10, 12, 16, 20] (v := ?_) rfl (by kernel_rfl) (by kernel_rfl) (by kernel_rfl) (by kernel_rfl) (by kernel_rfl) (by kernel_rfl) (by rfl) (fun _ _ _ h => h) (Or.inl ⟨by rfl, ?_⟩) hS ?_; rotate_left
  · (intro w hSw; (try dsimp only at hSw); go_simp; (try with_reducible rfl))
  (try simp only [List.setIfInBounds_toArray, List.set_cons_zero, List.set_cons_succ])
  refine wpAnyP_take 10 45 [10, 12, 16, 20] (v := ?_) rfl (by kernel_rfl) (by kernel_rfl) (by kernel_rfl) (by kernel_rfl) (by kernel_rfl) (by kernel_rfl) (by rfl) (fun _ _ _ h => h) (Or.inl ⟨by rfl, ?_⟩) hS ?_; rotate_left
  · (intro w hSw; (try dsimp only at hSw); go_simp; (try with_reducible rfl))
  (try simp only [List.setIfInBounds_toArray, List.set_cons_zero, List.set_cons_succ])
  refine wpAnyP_take 11 46 [11, 12, 16, 20] (v := ?_) rfl (by kernel_rfl) (by kernel_rfl) (by kernel_rfl) (by kernel_rfl) (by kernel_rfl) (by kernel_rfl) (by rfl) (fun _ _ _ h => h) (Or.inl ⟨by rfl, ?_⟩) hS ?_; rotate_left
  · (intro w hSw; (try dsimp only at hSw); go_simp; (try with_reducible rfl))
  (try simp only [List.setIfInBounds_toArray, List.set_cons_zero, List.set_cons_succ])
  refine wpAnyP_one 12 rfl (by kernel_rfl) (fun K hK => ?_)
  go_simp
  refine (CF _).out.mono ?_
  rintro e w5 ⟨rfl, hb⟩
  have hy := hS.2.out.trans (hb.mono hS.2.out.size)
  clear hS
  have hS := (KD _ hy).out
  refine hK.out _ _ (fun _ => hS) ?_
  clear hK K
  (try simp only [Act.put, List.setIfInBounds_toArray, List.set_cons_zero, List.set_cons_succ])
  refine wpAnyP_take 13 48 [13, 14, 15, 16, 20] (v := ?_) rfl (by kernel_rfl) (by kernel_rfl) (by kernel_rfl) (by kernel_rfl) (by kernel_rfl) (by kernel_rfl) (by rfl) (fun _ _ _ h => h) (Or.inl ⟨by rfl, ?_⟩) hS ?_; rotate_left
  · (intro w hSw; (try dsimp only at hSw); go_simp; (try with_reducible rfl))
  (try simp only [List.setIfInBounds_toArray, List.set_cons_zero, List.set_cons_succ])
  refine wpAnyP_take 14 49 [14, 15, 16, 20] (v := ?_) rfl (by kernel_rfl) (by kernel_rfl) (by kernel_rfl) (by kernel_rfl) (by kernel_rfl) (by kernel_rfl) (by rfl) (fun _ _ _ h => h) (Or.inl ⟨by rfl, ?_⟩) hS ?_; rotate_left
  · (intro w hSw; (try dsimp only at hSw); go_simp; (try with_reducible rfl))
  (try simp only [List.setIfInBounds_toArray, List.set_cons_zero, List.set_cons_succ])
  refine wpAnyP_take 15 50 [15, 16, 20] (v := ?_) rfl (by kernel_rfl) (by kernel_rfl) (by kernel_rfl) (by kernel_rfl) (by kernel_rfl) (by kernel_rfl) (by rfl) (fun _ _ _ h => h) (Or.inl ⟨by rfl, ?_⟩) hS ?_; rotate_left
  · (intro w hSw; (try dsimp only at hSw); go_simp; (try with_reducible rfl))
  (try simp only [List.setIfInBounds_toArray, List.set_cons_zero, List.set_cons_succ])
  refine wpAnyP_take 16 51 [16, 20] (v := ?_) rfl (by kernel_rfl) (by kernel_rfl) (by kernel_rfl) (by kernel_rfl) (by kernel_rfl) (by kernel_rfl) (by rfl) (fun _ _ _ h => h) (Or.inl ⟨by rfl, ?_⟩) hS ?_; rotate_left
  · (intro w hSw; (try dsimp only at hSw); go_simp; (try with_reducible rfl))
  (try simp only [List.setIfInBounds_toArray, List.set_cons_zero, List.set_cons_succ])
  refine wpAnyP_take 17 52 [17, 18, 19, 20] (v := ?_) rfl (by kernel_rfl) (by kernel_rfl) (by kernel_rfl) (by kernel_rfl) (by kernel_rfl) (by kernel_rfl) (by rfl) (fun _ _ _ h => h) (Or.inl ⟨by rfl, ?_⟩) hS ?_; rotate_left
  · (intro w hSw; (try dsimp only at hSw); go_simp; (try with_reducible rfl))
  (try simp only [List.setIfInBounds_toArray, List.set_cons_zero, List.set_cons_succ])
  refine wpAnyP_one 18 rfl (by kernel_rfl) (fun K hK => ?_)
  go_simp
  refine (CD1 _).out.mono ?_
  rintro e w5 ⟨rfl, hb⟩
  have hy := hS.2.out.trans (hb.mono hS.2.out.size)
  clear hS
  have hS := (KD _ hy).out
  refine hK.out _ _ (fun _ => hS) ?_
  clear hK K
  (try simp only [Act.put, List.setIfInBounds_toArray, List.set_cons_zero, List.set_cons_succ])
  refine wpAnyP_take 19 54 [19, 20] (v := ?_) rfl (by kernel_rfl) (by kernel_rfl) (by kernel_rfl) (by kernel_rfl) (by kernel_rfl) (by kernel_rfl) (by rfl) (fun _ _ _ h => h) (Or.inl ⟨by rfl, ?_⟩) hS ?_; rotate_left
  · (intro w hSw; (try dsimp only at hSw); go_simp; (try with_reducible rfl))
  (try simp only [List.setIfInBounds_toArray, List.set_cons_zero, List.set_cons_succ])
  refine wpAnyP_one 20 rfl (by kernel_rfl) (fun K hK => ?_)
  go_simp
  refine hK.out _ _ (fun _ => hS) ?_
  clear hK K
  (try simp only [Act.put, List.setIfInBounds_toArray, List.set_cons_zero, List.set_cons_succ])
  refine wpAnyP_done (by kernel_rfl) ?_ _
  go_wp2_with fail
  go_ret
  exact ⟨rfl, hm ▸ G2.out.b.trans (hS.2.out.mono G2.out.b.size)⟩
end Go.Proofs.Ytlchmaiflcnaoaa
