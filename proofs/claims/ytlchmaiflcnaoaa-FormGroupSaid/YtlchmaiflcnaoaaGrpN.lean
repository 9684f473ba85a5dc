/- The walk of the law FormGroup at three good forms of one discriminant from -10^6 on. -/
import Derived.Test.YtlchmaiflcnaoaaGrpL
namespace Go.Proofs.Ytlchmaiflcnaoaa
open Go.RowKit

set_option maxRecDepth 100000 in
set_option maxHeartbeats 6400000 in
theorem group_c5 (a1 b1 c1 a2 b2 c2 a3 b3 c3 : Int) (w : World) (h1 : (formF a1 b1 c1).1 = 0) (h2 : (formF a2 b2 c2).1 = 0) (h3 : (formF a3 b3 c3).1 = 0) (D : Int) (d1 : b1 * b1 - 4 * a1 * c1 = D) (d2 : b2 * b2 - 4 * a2 * c2 = D) (d3 : b3 * b3 - 4 * a3 * c3 = D) (hl : -1000000 ≤ D) : Calls Try.prog 5 #[.agg #[.int .i64 a1, .int .i64 b1, .int .i64 c1], .agg #[.int .i64 a2, .int .i64 b2, .int .i64 c2], .agg #[.int .i64 a3, .int .i64 b3, .int .i64 c3]] w fun e w' => e = .returned (.bool true) ∧ Below w.heap.size w w' := by
  have CC := fun W => hide (Compose_good a1 b1 c1 a2 b2 c2 D W h1 h2 d1 d2)
  have hz := formF_zero h1
  have hz3 := formF_zero h3
  have CD1 := fun W => hide (rdisc_any a1 b1 c1 W (by omega) (by omega) (by omega))
  rw [d1] at CD1
  have CD3 := fun W => hide (rdisc_any a3 b3 c3 W (by omega) (by omega) (by omega))
  rw [d3] at CD3
  have CF := fun W => hide (formFault_any a3 b3 c3 W)
  unfold RetFault at CF
  rw [hz3.1] at CF
  simp only [fv] at CF
  have k4 : (D != D) = false := by simp
  have KF := field_code
  have hfn := first_nums (D := D) (b := b1) (x := a1 * c1) (by rw [← d1, Int.mul_assoc]) (by rw [← d1]; exact hz.2.2.2.2.2.2.1) hl
  have hff := first_form (D := D) (b := b1) (x := a1 * c1) (by rw [← d1, Int.mul_assoc]) (by rw [← d1]; exact hz.2.2.2.2.2.2.1) hl
  have CFi := fun W => hide (first_any D W (by rw [← d1]; exact hz.2.2.2.2.2.2.1) (by omega))
  have hfd : sg D * sg D - 4 * 1 * c0 D = D := by have := hfn.1; omega
  have HK6 := fun W => hide (Compose_good a1 b1 c1 1 (sg D) (c0 D) D W h1 (by rw [hff]) d1 hfd)
  have HK7 := fun W => hide (Reduce_good a1 b1 c1 D W h1 d1)
  have HK9 := fun W => hide (Reduce_good 1 (sg D) (c0 D) D W (by rw [hff]) hfd)
  have hfb := form_back h1
  have HK8 := fun W => hide (Compose_good a1 b1 c1 a1 (-b1) c1 D W h1 hfb d1 (by rw [← d1]; grind))
  have HFN := hide hfn
  have HDD := hide (And.intro h1 (And.intro d1 hl))
  clear hfn hff hfd hfb
  obtain ⟨hb11, hb12⟩ := hz.2.2.1
  have k1 : decide (D < -1000000) = false := by rw [decide_eq_false_iff_not]; omega
  have hn : D < 0 := by rw [← d1]; exact hz.2.2.2.2.2.2.1
  have HK2 := fun W => hide (Compose_good a2 b2 c2 a1 b1 c1 D W h2 h1 d2 d1)
  have HK3 := fun A B C (r : RedF A B C) (e : D = B * B - 4 * A * C) (g : Int.gcd A (Int.gcd B C) = 1) W => hide (Compose_good A B C a3 b3 c3 D W (by rw [form_ok r e hl hn g]) h3 e.symm d3)
  have HK4 := fun W => hide (Compose_good a2 b2 c2 a3 b3 c3 D W h2 h3 d2 d3)
  have HK5 := fun A B C (r : RedF A B C) (e : D = B * B - 4 * A * C) (g : Int.gcd A (Int.gcd B C) = 1) W => hide (Compose_good a1 b1 c1 A B C D W h1 (by rw [form_ok r e hl hn g]) d1 e.symm)
  clear h1 h2 h3 d1 d2 d3 hz hz3
  have CB := fun W => hide (formBegun_any W)
  have G0 := hide (grp_start w a1 b1 c1 a2 b2 c2 a3 b3 c3)
  go_enter Try.func5, Try.ntmps5
  go_wp2_with fail
  obtain ⟨W0, hW0⟩ : ∃ Z, ((w.alloc (.cells #[.int .i64 a1, .int .i64 b1, .int .i64 c1] 23)).alloc (.cells #[.int .i64 a2, .int .i64 b2, .int .i64 c2] 23)).alloc (.cells #[.int .i64 a3, .int .i64 b3, .int .i64 c3] 23) = Z := ⟨_, rfl⟩
  rw [hW0] at G0
  (try rw [hW0])
  obtain ⟨m, hm⟩ : ∃ m, w.heap.size = m := ⟨_, rfl⟩
  rw [hm] at G0
  (try rw [hm])
  clear hW0
  refine (CB _).out.mono ?_
  rintro e w1 ⟨rfl, hb⟩
  have G1 := hide (G0.out.below hb)
  clear hb G0 CB
  obtain ⟨f0, f1, f2⟩ := (G1.out.f (m, a1, b1, c1) (by simp)).cells
  obtain ⟨g0, g1, g2⟩ := (G1.out.f (m + 1, a2, b2, c2) (by simp)).cells
  go_wp2_with fail
  refine (CC _).out.mono ?_
  rintro e w2 ⟨⟨A1, B1, C1, rfl, hfact⟩, hb⟩
  have HF1 := hide hfact
  clear hfact
  have G2 := hide ((G1.out.below hb).two A1 B1 C1 0 0)
  clear hb G1 CC f0 f1 f2 g0 g1 g2
  go_upto_region 4 with (fail)
  obtain ⟨W3, hW3⟩ : ∃ Z, (w2.alloc (.cells #[.int .i64 A1, .int .i64 B1, .int .i64 C1] 23)).alloc (.cells #[.int .i64 0, .int .i64 0] 26) = Z := ⟨_, rfl⟩
  rw [hW3] at G2
  (try rw [hW3])
  obtain ⟨p1, hp1⟩ : ∃ q, w2.heap.size = q := ⟨_, rfl⟩
  rw [hp1] at G2
  (try rw [hp1])
  clear hW3 hp1
  have KD := fun W (k : Below W3.heap.size W3 W) => hide (show (((W.cell? ⟨m, 0, none⟩ = some (.int .i64 a1) ∧ W.cell? ⟨m, 1, none⟩ = some (.int .i64 b1) ∧ W.cell? ⟨m, 2, none⟩ = some (.int .i64 c1)) ∧ (W.cell? ⟨m + 1 + 1, 0, none⟩ = some (.int .i64 a3) ∧ W.cell? ⟨m + 1 + 1, 1, none⟩ = some (.int .i64 b3) ∧ W.cell? ⟨m + 1 + 1, 2, none⟩ = some (.int .i64 c3)) ∧ W.cell? ⟨p1 + 1, 0, none⟩ = some (.int .i64 0)) ∧ Hid (Below W3.heap.size W3 W)) from ⟨⟨(((G2.out.below k).f (m, a1, b1, c1) (by simp))).cells, ((G2.out.below k).f (m + 1 + 1, a3, b3, c3) (by simp)).cells, ((G2.out.below k).z (p1 + 1, 0, 0) (by simp)).cells.1⟩, hide k⟩)
  refine wp_region_P (fun W => ((W.cell? ⟨m, 0, none⟩ = some (.int .i64 a1) ∧ W.cell? ⟨m, 1, none⟩ = some (.int .i64 b1) ∧ W.cell? ⟨m, 2, none⟩ = some (.int .i64 c1)) ∧ (W.cell? ⟨m + 1 + 1, 0, none⟩ = some (.int .i64 a3) ∧ W.cell? ⟨m + 1 + 1, 1, none⟩ = some (.int .i64 b3) ∧ W.cell? ⟨m + 1 + 1, 2, none⟩ = some (.int .i64 c3)) ∧ W.cell? ⟨p1 + 1, 0, none⟩ = some (.int .i64 0)) ∧ Hid (Below W3.heap.size W3 W)) 20 (by rfl) ((KD _ (below_drewN (Below.refl _ _) 1)).out) ?_
  intro hS
  refine wpAnyP_take 0 35 [0, 1, 2, 3, 7, 10, 12, 16, 20] (v := ?_) rfl (by kernel_rfl) (by kernel_rfl) (by kernel_rfl) (by kernel_rfl) (by kernel_rfl) (by kernel_rfl) (by rfl) (fun _ _ _ h => h) (Or.inl ⟨by rfl, ?_⟩) hS ?_; rotate_left
  · (intro w hSw; (try dsimp only at hSw); go_simp; (try with_reducible rfl))
  (try simp only [List.setIfInBounds_toArray, List.set_cons_zero, List.set_cons_succ])
  refine wpAnyP_take 1 36 [1, 2, 3, 7, 10, 12, 16, 20] (v := ?_) rfl (by kernel_rfl) (by kernel_rfl) (by kernel_rfl) (by kernel_rfl) (by kernel_rfl) (by kernel_rfl) (by rfl) (fun _ _ _ h => h) (Or.inl ⟨by rfl, ?_⟩) hS ?_; rotate_left
  · (intro w hSw; (try dsimp only at hSw); go_simp; (try with_reducible rfl))
  (try simp only [List.setIfInBounds_toArray, List.set_cons_zero, List.set_cons_succ])
  refine wpAnyP_take 2 37 [2, 3, 7, 10, 12, 16, 20] (v := ?_) rfl (by kernel_rfl) (by kernel_rfl) (by kernel_rfl) (by kernel_rfl) (by kernel_rfl) (by kernel_rfl) (by rfl) (fun _ _ _ h => h) (Or.inl ⟨by rfl, ?_⟩) hS ?_; rotate_left
  · (intro w hSw; (try dsimp only at hSw); go_simp; (try with_reducible rfl))
  (try simp only [List.setIfInBounds_toArray, List.set_cons_zero, List.set_cons_succ])
  refine wpAnyP_take 3 38 [3, 7, 10, 12, 16, 20] (v := ?_) rfl (by kernel_rfl) (by kernel_rfl) (by kernel_rfl) (by kernel_rfl) (by kernel_rfl) (by kernel_rfl) (by rfl) (fun _ _ _ h => h) (Or.inl ⟨by rfl, ?_⟩) hS ?_; rotate_left
  · (intro w hSw; (try dsimp only at hSw); go_simp; (try with_reducible rfl))
  (try simp only [List.setIfInBounds_toArray, List.set_cons_zero, List.set_cons_succ])
  refine wpAnyP_take 4 39 [4, 5, 7, 10, 12, 16, 20] (v := ?_) rfl (by kernel_rfl) (by kernel_rfl) (by kernel_rfl) (by kernel_rfl) (by kernel_rfl) (by kernel_rfl) (by rfl) (fun _ _ _ h => h) (Or.inl ⟨by rfl, ?_⟩) hS ?_; rotate_left
  · (intro w hSw; (try dsimp only at hSw); go_simp; (try with_reducible rfl))
  (try simp only [List.setIfInBounds_toArray, List.set_cons_zero, List.set_cons_succ])
  refine wpAnyP_take 6 41 [6, 7, 10, 12, 16, 20] (v := ?_) rfl (by kernel_rfl) (by kernel_rfl) (by kernel_rfl) (by kernel_rfl) (by kernel_rfl) (by kernel_rfl) (by rfl) (fun _ _ _ h => h) (Or.inl ⟨by rfl, ?_⟩) hS ?_; rotate_left
  · (intro w hSw; (try dsimp only at hSw); go_simp; (try with_reducible rfl))
  (try simp only [List.setIfInBounds_toArray, List.set_cons_zero, List.set_cons_succ])
  refine wpAnyP_one 5 rfl (by kernel_rfl) (fun K hK => ?_)
  go_simp
  refine (CD1 _).out.mono ?_
  rintro e w5 ⟨rfl, hb⟩
  have hy := hS.2.out.trans (hb.mono hS.2.out.size)
  clear hS
  have hS := (KD _ hy).out
  refine hK.out _ _ (fun _ => hS) ?_
  clear hK K
  (try simp only [Act.put, List.setIfInBounds_toArray, List.set_cons_zero, List.set_cons_succ])
  refine wpAnyP_one 7 rfl (by kernel_rfl) (fun K hK => ?_)
  go_simp
  refine (CD3 _).out.mono ?_
  rintro e w5 ⟨rfl, hb⟩
  have hy := hS.2.out.trans (hb.mono hS.2.out.size)
  clear hS
  have hS := (KD _ hy).out
  refine hK.out _ _ (fun _ => hS) ?_
  clear hK K
  (try simp only [Act.put, List.setIfInBounds_toArray, List.set_cons_zero, List.set_cons_succ])
  refine wpAnyP_take 8 43 [8, 9, 10, 12, 16, 20] (v := ?_) rfl (by kernel_rfl) (by kernel_rfl) (by kernel_rfl) (by kernel_rfl) (by kernel_rfl) (by kernel_rfl) (by rfl) (fun _ _ _ h => h) (Or.inl ⟨by rfl, ?_⟩) hS ?_; rotate_left
  · (intro w hSw; (try dsimp only at hSw); go_simp; (try with_reducible rfl))
  (try simp only [List.setIfInBounds_toArray, List.set_cons_zero, List.set_cons_succ])
  refine wpAnyP_take 9 44 [9, 10, 12, 16, 20] (v := ?_) rfl (by kernel_rfl) (by kernel_rfl) (by kernel_rfl) (by kernel_rfl) (by kernel_rfl) (by kernel_rfl) (by rfl) (fun _ _ _ h => h) (Or.inl ⟨by rfl, ?_⟩) hS ?_; rotate_left
  · (intro w hSw; (try dsimp only at hSw); go_simp; (try with_reducible rfl))
  (try simp only [List.setIfInBounds_toArray, List.set_cons_zero, List.set_cons_succ])
  refine wpAnyP_take 10 45 [10, 12, 16, 20] (v := ?_) rfl (by kernel_rfl) (by kernel_rfl) (by kernel_rfl) (by kernel_rfl) (by kernel_rfl) (by kernel_rfl) (by rfl) (fun _ _ _ h => h) (Or.inl ⟨by rfl, ?_⟩) hS ?_; rotate_left
  · (intro w hSw; (try dsimp only at hSw); go_simp; (try with_reducible rfl))
  (try simp only [List.setIfInBounds_toArray, List.set_cons_zero, List.set_cons_succ])
  refine wpAnyP_take 11 46 [11, 12, 16, 20] (v := ?_) rfl (by kernel_rfl) (by kernel_rfl) (by kernel_rfl) (by kernel_rfl) (by kernel_rfl) (by kernel_rfl) (by rfl) (fun _ _ _ h => h) (Or.inl ⟨by rfl, ?_⟩) hS ?_; rotate_left
  · (intro w hSw; (try dsimp only at hSw); go_simp; (try with_reducible rfl))
  (try simp only [List.setIfInBounds_toArray, List.set_cons_zero, List.set_cons_succ])
  refine wpAnyP_one 12 rfl (by kernel_rfl) (fun K hK => ?_)
  go_simp
  refine (CF _).out.mono ?_
  rintro e w5 ⟨rfl, hb⟩
  have hy := hS.2.out.trans (hb.mono hS.2.out.size)
  clear hS
  have hS := (KD _ hy).out
  refine hK.out _ _ (fun _ => hS) ?_
  clear hK K
  (try simp only [Act.put, List.setIfInBounds_toArray, List.set_cons_zero, List.set_cons_succ])
  refine wpAnyP_take 13 48 [13, 14, 15, 16, 20] (v := ?_) rfl (by kernel_rfl) (by kernel_rfl) (by kernel_rfl) (by kernel_rfl) (by kernel_rfl) (by kernel_rfl) (by rfl) (fun _ _ _ h => h) (Or.inl ⟨by rfl, ?_⟩) hS ?_; rotate_left
  · (intro w hSw; (try dsimp only at hSw); go_simp; (try with_reducible rfl))
  (try simp only [List.setIfInBounds_toArray, List.set_cons_zero, List.set_cons_succ])
  refine wpAnyP_take 14 49 [14, 15, 16, 20] (v := ?_) rfl (by kernel_rfl) (by kernel_rfl) (by kernel_rfl) (by kernel_rfl) (by kernel_rfl) (by kernel_rfl) (by rfl) (fun _ _ _ h => h) (Or.inl ⟨by rfl, ?_⟩) hS ?_; rotate_left
  · (intro w hSw; (try dsimp only at hSw); go_simp; (try with_reducible rfl))
  (try simp only [List.setIfInBounds_toArray, List.set_cons_zero, List.set_cons_succ])
  refine wpAnyP_take 15 50 [15, 16, 20] (v := ?_) rfl (by kernel_rfl) (by kernel_rfl) (by kernel_rfl) (by kernel_rfl) (by kernel_rfl) (by kernel_rfl) (by rfl) (fun _ _ _ h => h) (Or.inl ⟨by rfl, ?_⟩) hS ?_; rotate_left
  · (intro w hSw; (try dsimp only at hSw); go_simp; (try with_reducible rfl))
  (try simp only [List.setIfInBounds_toArray, List.set_cons_zero, List.set_cons_succ])
  refine wpAnyP_take 16 51 [16, 20] (v := ?_) rfl (by kernel_rfl) (by kernel_rfl) (by kernel_rfl) (by kernel_rfl) (by kernel_rfl) (by kernel_rfl) (by rfl) (fun _ _ _ h => h) (Or.inl ⟨by rfl, ?_⟩) hS ?_; rotate_left
  · (intro w hSw; (try dsimp only at hSw); go_simp; (try with_reducible rfl))
  (try simp only [List.setIfInBounds_toArray, List.set_cons_zero, List.set_cons_succ])
  refine wpAnyP_take 17 52 [17, 18, 19, 20] (v := ?_) rfl (by kernel_rfl) (by kernel_rfl) (by kernel_rfl) (by kernel_rfl) (by kernel_rfl) (by kernel_rfl) (by rfl) (fun _ _ _ h => h) (Or.inl ⟨by rfl, ?_⟩) hS ?_; rotate_left
  · (intro w hSw; (try dsimp only at hSw); go_simp; (try with_reducible rfl))
  (try simp only [List.setIfInBounds_toArray, List.set_cons_zero, List.set_cons_succ])
  refine wpAnyP_one 18 rfl (by kernel_rfl) (fun K hK => ?_)
  go_simp
  refine (CD1 _).out.mono ?_
  rintro e w5 ⟨rfl, hb⟩
  have hy := hS.2.out.trans (hb.mono hS.2.out.size)
  clear hS
  have hS := (KD _ hy).out
  refine hK.out _ _ (fun _ => hS) ?_
  clear hK K
  (try simp only [Act.put, List.setIfInBounds_toArray, List.set_cons_zero, List.set_cons_succ])
  refine wpAnyP_take 19 54 [19, 20] (v := ?_) rfl (by kernel_rfl) (by kernel_rfl) (by kernel_rfl) (by kernel_rfl) (by kernel_rfl) (by kernel_rfl) (by rfl) (fun _ _ _ h => h) (Or.inl ⟨by rfl, ?_⟩) hS ?_; rotate_left
  · (intro w hSw; (try dsimp only at hSw); go_simp; (try with_reducible rfl))
  (try simp only [List.setIfInBounds_toArray, List.set_cons_zero, List.set_cons_succ])
  refine wpAnyP_one 20 rfl (by kernel_rfl) (fun K hK => ?_)
  go_simp
  refine hK.out _ _ (fun _ => hS) ?_
  clear hK K
  (try simp only [Act.put, List.setIfInBounds_toArray, List.set_cons_zero, List.set_cons_succ])
  refine wpAnyP_done (by kernel_rfl) ?_ _
  have G3 := hide (G2.out.below hS.2.out)
  clear hS G2 KD CD3 CF k4 KF
  obtain ⟨x0, x1, x2⟩ := (G3.out.f (m, a1, b1, c1) (by simp)).cells
  obtain ⟨y0, y1, y2⟩ := (G3.out.f (m + 1, a2, b2, c2) (by simp)).cells
  go_wp2_with fail
  refine (HK2 _).out.mono ?_
  rintro e v2 ⟨⟨A2, B2, C2, rfl, hfact⟩, hb⟩
  have HF2 := hide hfact
  have G2 := hide ((G3.out.below hb).two A2 B2 C2 0 0)
  clear hfact hb G3 HK2 x0 x1 x2 y0 y1 y2
  go_upto_region 7 with (fail)
  obtain ⟨W2, hW⟩ : ∃ Z, (v2.alloc (.cells #[.int .i64 A2, .int .i64 B2, .int .i64 C2] 23)).alloc (.cells #[.int .i64 0, .int .i64 0] 26) = Z := ⟨_, rfl⟩
  rw [hW] at G2
  (try rw [hW])
  obtain ⟨p2, hp⟩ : ∃ q, v2.heap.size = q := ⟨_, rfl⟩
  rw [hp] at G2
  (try rw [hp])
  clear hW hp
  obtain ⟨x0, x1, x2⟩ := (G2.out.f (p1, A1, B1, C1) (by simp)).cells
  obtain ⟨y0, y1, y2⟩ := (G2.out.f (m + 1 + 1, a3, b3, c3) (by simp)).cells
  have HK3' := fun W => HK3 A1 B1 C1 HF1.out.1 HF1.out.2.1 HF1.out.2.2.1 W
  clear HK3
  go_wp2_with fail
  refine (HK3' _).out.mono ?_
  rintro e v3 ⟨⟨A3, B3, C3, rfl, hfact⟩, hb⟩
  have HF3 := hide hfact
  have G3 := hide ((G2.out.below hb).two A3 B3 C3 0 0)
  clear hfact hb G2 HK3' x0 x1 x2 y0 y1 y2
  go_upto_region 8 with (fail)
  obtain ⟨W3, hW⟩ : ∃ Z, (v3.alloc (.cells #[.int .i64 A3, .int .i64 B3, .int .i64 C3] 23)).alloc (.cells #[.int .i64 0, .int .i64 0] 26) = Z := ⟨_, rfl⟩
  rw [hW] at G3
  (try rw [hW])
  obtain ⟨p3, hp⟩ : ∃ q, v3.heap.size = q := ⟨_, rfl⟩
  rw [hp] at G3
  (try rw [hp])
  clear hW hp
  obtain ⟨x0, x1, x2⟩ := (G3.out.f (m + 1, a2, b2, c2) (by simp)).cells
  obtain ⟨y0, y1, y2⟩ := (G3.out.f (m + 1 + 1, a3, b3, c3) (by simp)).cells
  go_wp2_with fail
  refine (HK4 _).out.mono ?_
  rintro e v4 ⟨⟨A4, B4, C4, rfl, hfact⟩, hb⟩
  have HF4 := hide hfact
  have G4 := hide ((G3.out.below hb).two A4 B4 C4 0 0)
  clear hfact hb G3 HK4 x0 x1 x2 y0 y1 y2
  go_upto_region 9 with (fail)
  obtain ⟨W4, hW⟩ : ∃ Z, (v4.alloc (.cells #[.int .i64 A4, .int .i64 B4, .int .i64 C4] 23)).alloc (.cells #[.int .i64 0, .int .i64 0] 26) = Z := ⟨_, rfl⟩
  rw [hW] at G4
  (try rw [hW])
  obtain ⟨p4, hp⟩ : ∃ q, v4.heap.size = q := ⟨_, rfl⟩
  rw [hp] at G4
  (try rw [hp])
  clear hW hp
  obtain ⟨x0, x1, x2⟩ := (G4.out.f (m, a1, b1, c1) (by simp)).cells
  obtain ⟨y0, y1, y2⟩ := (G4.out.f (p4, A4, B4, C4) (by simp)).cells
  have HK5' := fun W => HK5 A4 B4 C4 HF4.out.1 HF4.out.2.1 HF4.out.2.2.1 W
  clear HK5
  go_wp2_with fail
  refine (HK5' _).out.mono ?_
  rintro e v5 ⟨⟨A5, B5, C5, rfl, hfact⟩, hb⟩
  have HF5 := hide hfact
  have G5 := hide ((G4.out.below hb).two A5 B5 C5 0 0)
  clear hfact hb G4 HK5' x0 x1 x2 y0 y1 y2
  go_upto_region 10 with (fail)
  obtain ⟨W5, hW⟩ : ∃ Z, (v5.alloc (.cells #[.int .i64 A5, .int .i64 B5, .int .i64 C5] 23)).alloc (.cells #[.int .i64 0, .int .i64 0] 26) = Z := ⟨_, rfl⟩
  rw [hW] at G5
  (try rw [hW])
  obtain ⟨p5, hp⟩ : ∃ q, v5.heap.size = q := ⟨_, rfl⟩
  rw [hp] at G5
  (try rw [hp])
  clear hW hp
  obtain ⟨x0, x1, x2⟩ := (G5.out.f (m, a1, b1, c1) (by simp)).cells
  have M := hide (FMem.start W5)
  have hm5 : m < W5.heap.size := (G5.out.f (m, a1, b1, c1) (by simp)).lt
  have KM := fun W (k : Below W5.heap.size W5 W) => hide (show (W.cell? ⟨m, 0, none⟩ = some (.int .i64 a1) ∧ W.cell? ⟨m, 1, none⟩ = some (.int .i64 b1) ∧ W.cell? ⟨m, 2, none⟩ = some (.int .i64 c1)) ∧ Hid (Below W5.heap.size W5 W) from ⟨((G5.out.below k).f (m, a1, b1, c1) (by simp)).cells, hide k⟩)
  go_cut [17, 18] (fun u v wx => ∃ p q A B C, u = .pointer (some ⟨p, 0, none⟩) ∧ v = .pointer (some ⟨q, 0, none⟩) ∧ Hid (RedF A B C ∧ D = B * B - 4 * A * C ∧ Int.gcd A (Int.gcd B C) = 1 ∧ Sim D (Pr D (Lf a1 b1) (Lf 1 (sg D))) (Lf A B)) ∧ Hid (FMem W5 wx [(p, A, B, C)] [(q, 0, 0)]))
  case first => as_aux_lemma =>
    clear HK7 HK8 HK9
    go_region_held3 (fun W => (W.cell? ⟨m, 0, none⟩ = some (.int .i64 a1) ∧ W.cell? ⟨m, 1, none⟩ = some (.int .i64 b1) ∧ W.cell? ⟨m, 2, none⟩ = some (.int .i64 c1)) ∧ Hid (Below W5.heap.size W5 W)) (first | with_reducible exact (KM _ M.out.b).out | with_reducible exact (KM _ M.out.drw.b).out | with_reducible exact (KM _ M.out.nf.b).out | with_reducible exact (KM _ M.out.nz.b).out | with_reducible exact (KM _ M.out.nfz.b).out | with_reducible exact (KM _ M.out.nzf.b).out | with_reducible exact (KM _ M.out.nf.drw.b).out | with_reducible exact (KM _ M.out.nz.drw.b).out | with_reducible exact (KM _ M.out.nfz.drw.b).out | with_reducible exact (KM _ M.out.nzf.drw.b).out | exact (KM _ (by repeat' (first | with_reducible exact M.out.b | (with_reducible refine Below.setCell ?_ ?_ _) | (with_reducible refine Below.alloc ?_ ?_ _) | (have hms := M.out.b.size; (try simp only [World.size_alloc, World.size_setCell]); omega)))).out) (first | (go_at_call 18; refine calls_mono' (FMem.call (by first | with_reducible exact M.out | with_reducible exact M.out.drw | with_reducible exact M.out.nf | with_reducible exact M.out.nz | with_reducible exact M.out.nfz | with_reducible exact M.out.nzf | with_reducible exact M.out.nf.drw | with_reducible exact M.out.nz.drw | with_reducible exact M.out.nfz.drw | with_reducible exact M.out.nzf.drw) (CD1 _).out) ?_; rintro e w6 ⟨rfl, M'⟩; have M := hide M'; clear M') | (go_at_call 21; refine calls_mono' (FMem.call (by first | with_reducible exact M.out | with_reducible exact M.out.drw | with_reducible exact M.out.nf | with_reducible exact M.out.nz | with_reducible exact M.out.nfz | with_reducible exact M.out.nzf | with_reducible exact M.out.nf.drw | with_reducible exact M.out.nz.drw | with_reducible exact M.out.nfz.drw | with_reducible exact M.out.nzf.drw) (CFi _).out) ?_; rintro e w6 ⟨rfl, M'⟩; have M := hide M'; clear M') | (go_at_call 17; refine calls_mono' (FMem.call (by first | with_reducible exact M.out | with_reducible exact M.out.drw | with_reducible exact M.out.nf | with_reducible exact M.out.nz | with_reducible exact M.out.nfz | with_reducible exact M.out.nzf | with_reducible exact M.out.nf.drw | with_reducible exact M.out.nz.drw | with_reducible exact M.out.nfz.drw | with_reducible exact M.out.nzf.drw) (HK6 _).out) ?_; rintro e w6 ⟨⟨A6, B6, C6, rfl, hfact⟩, M'⟩; have HF6 := hide hfact; have M := hide M'; (try (have hlp := M'.flo _ (List.mem_cons_self ..); have hlt := (M'.f _ (List.mem_cons_self ..)).lt; obtain ⟨c0, c1', c2'⟩ := (M'.f _ (List.mem_cons_self ..)).cells; have z0 := (M'.f _ (List.mem_cons_self ..)).frozen 0; have z1 := (M'.f _ (List.mem_cons_self ..)).frozen 1; have z2 := (M'.f _ (List.mem_cons_self ..)).frozen 2)); (try (have hlq := M'.zlo _ (List.mem_cons_self ..); have hltq := (M'.z _ (List.mem_cons_self ..)).lt; obtain ⟨d0, d1', e0, e1⟩ := (M'.z _ (List.mem_cons_self ..)).cells)); (try (have hne := mc_ne (M'.f _ (List.mem_cons_self ..)) (M'.z _ (List.mem_cons_self ..)); have hne2 := hne.symm)); clear hfact M'))
    all_goals
      clear HK6 CFi CD1 KM
      go_wp2_with fail
      go_meet
      refine ⟨_, _, A6, B6, C6, rfl, rfl, HF6, hide ?_⟩
      first
        | with_reducible exact M.out.e1 A6 B6 C6 0 0
        | with_reducible exact M.out.e2 A6 B6 C6 0 0
        | with_reducible exact M.out.e3 A6 B6 C6 0 0
        | with_reducible exact M.out.e4 A6 B6 C6 0 0
        | with_reducible exact M.out.e5 A6 B6 C6 0 0
  case rest =>
    obtain ⟨p6, q6, A6, B6, C6, rfl, rfl, HF6, M6⟩ := hcut
    obtain ⟨W6, rfl⟩ : ∃ Z, Z = wc := ⟨_, rfl⟩
    have G6 := hide (G5.out.join M6.out)
    simp only [List.cons_append, List.nil_append] at G6
    clear M6 M KM HK6 G5 x0 x1 x2 hm5
    obtain ⟨x0, x1, x2⟩ := (G6.out.f (m, a1, b1, c1) (by simp)).cells
    go_wp2_with fail
    refine (HK7 _).out.mono ?_
    rintro e v7 ⟨⟨A7, B7, C7, i7, j7, k7, l7, rfl, hfact⟩, hb⟩
    have HF7 := hide hfact
    have G7 := hide ((G6.out.below hb).three A7 B7 C7 i7 j7 k7 l7 0 0)
    clear hfact hb G6 HK7 x0 x1 x2
    go_upto_region 12 with (fail)
    obtain ⟨W7, hW⟩ : ∃ Z, ((v7.alloc (.cells #[.int .i64 A7, .int .i64 B7, .int .i64 C7] 23)).alloc (.cells #[.int .i64 i7, .int .i64 j7, .int .i64 k7, .int .i64 l7] 47)).alloc (.cells #[.int .i64 0, .int .i64 0] 26) = Z := ⟨_, rfl⟩
    rw [hW] at G7
    (try rw [hW])
    obtain ⟨p7, hp⟩ : ∃ q, v7.heap.size = q := ⟨_, rfl⟩
    rw [hp] at G7
    (try rw [hp])
    clear hW hp
    obtain ⟨x0, x1, x2⟩ := (G7.out.f (m, a1, b1, c1) (by simp)).cells
    go_wp2_with fail
    refine (HK8 _).out.mono ?_
    rintro e v8 ⟨⟨A8, B8, C8, rfl, hfact⟩, hb⟩
    have HF8 := hide hfact
    have G8 := hide ((G7.out.below hb).two A8 B8 C8 0 0)
    clear hfact hb G7 HK8 x0 x1 x2
    go_upto_region 13 with (fail)
    obtain ⟨W8, hW⟩ : ∃ Z, (v8.alloc (.cells #[.int .i64 A8, .int .i64 B8, .int .i64 C8] 23)).alloc (.cells #[.int .i64 0, .int .i64 0] 26) = Z := ⟨_, rfl⟩
    rw [hW] at G8
    (try rw [hW])
    obtain ⟨p8, hp⟩ : ∃ q, v8.heap.size = q := ⟨_, rfl⟩
    rw [hp] at G8
    (try rw [hp])
    clear hW hp
    obtain ⟨x0, x1, x2⟩ := (G8.out.f (m, a1, b1, c1) (by simp)).cells
    go_wp2_with fail
    refine (CD1 _).out.mono ?_
    rintro e v10 ⟨rfl, hb⟩
    have G10 := hide (G8.out.below hb)
    clear hb G8 CD1 x0 x1 x2
    go_wp2_with fail
    refine (CFi _).out.mono ?_
    rintro e v11 ⟨rfl, hb⟩
    have G11 := hide (G10.out.below hb)
    clear hb G10 CFi
    go_wp2_with fail
    refine (HK9 _).out.mono ?_
    rintro e v9 ⟨⟨A9, B9, C9, i9, j9, k9, l9, rfl, hfact⟩, hb⟩
    have HF9 := hide hfact
    have G9 := hide ((G11.out.below hb).three A9 B9 C9 i9 j9 k9 l9 0 0)
    clear hfact hb G11 HK9
    go_upto_region 14 with (fail)
    obtain ⟨W9, hW⟩ : ∃ Z, ((v9.alloc (.cells #[.int .i64 A9, .int .i64 B9, .int .i64 C9] 23)).alloc (.cells #[.int .i64 i9, .int .i64 j9, .int .i64 k9, .int .i64 l9] 47)).alloc (.cells #[.int .i64 0, .int .i64 0] 26) = Z := ⟨_, rfl⟩
    rw [hW] at G9
    (try rw [hW])
    obtain ⟨p9, hp⟩ : ∃ q, v9.heap.size = q := ⟨_, rfl⟩
    rw [hp] at G9
    (try rw [hp])
    clear hW hp
    have KF := field_code
    have y2 := (G9.out.z (p2 + 1, 0, 0) (by simp)).cells.1
    have y3 := (G9.out.z (p3 + 1, 0, 0) (by simp)).cells.1
    have y4 := (G9.out.z (p4 + 1, 0, 0) (by simp)).cells.1
    have y5 := (G9.out.z (p5 + 1, 0, 0) (by simp)).cells.1
    have y6 := (G9.out.z (q6, 0, 0) (by simp)).cells.1
    have y7 := (G9.out.z (p7 + 1 + 1, 0, 0) (by simp)).cells.1
    have y8 := (G9.out.z (p8 + 1, 0, 0) (by simp)).cells.1
    have y9 := (G9.out.z (p9 + 1 + 1, 0, 0) (by simp)).cells.1
    simp only at y2 y3 y4 y5 y6 y7 y8 y9
    have HL := grp_law hn HDD.out HFN.out HF1.out HF2.out HF3.out HF4.out HF5.out HF6.out HF7.out HF8.out HF9.out
    obtain ⟨⟨rfl, rfl, rfl⟩, ⟨rfl, rfl, rfl⟩, ⟨rfl, rfl, rfl⟩, ⟨rfl, rfl, rfl⟩⟩ := HL
    clear HF1 HF2 HF3 HF4 HF5 HF6 HF7 HF8 HF9 HFN HDD
    obtain ⟨c10, c11, c12⟩ := (G9.out.f (p1, A1, B1, C1) (by simp)).cells
    obtain ⟨c20, c21, c22⟩ := (G9.out.f (p2, A1, B1, C1) (by simp)).cells
    obtain ⟨c30, c31, c32⟩ := (G9.out.f (p3, A3, B3, C3) (by simp)).cells
    obtain ⟨c50, c51, c52⟩ := (G9.out.f (p5, A3, B3, C3) (by simp)).cells
    obtain ⟨c60, c61, c62⟩ := (G9.out.f (p6, A6, B6, C6) (by simp)).cells
    obtain ⟨c70, c71, c72⟩ := (G9.out.f (p7, A6, B6, C6) (by simp)).cells
    obtain ⟨c80, c81, c82⟩ := (G9.out.f (p8, A8, B8, C8) (by simp)).cells
    obtain ⟨c90, c91, c92⟩ := (G9.out.f (p9, A8, B8, C8) (by simp)).cells
    go_wp2_with fail
    go_ret
    exact ⟨rfl, hm ▸ G9.out.b⟩
end Go.Proofs.Ytlchmaiflcnaoaa
