/- The walk of curve.Order (printed by gen_curvk.py). -/
import Derived.Test.YtonclhchbgmaiaaGreatDoorKCurvN
import Derived.Test.YtonclhchbgmaiaaGreatDoorKCurvY
namespace Go.Proofs.YtonclhchbgmaiaaGreatDoor
open Go.RowKit
open CV

set_option maxRecDepth 100000 in
set_option maxHeartbeats 6400000 in
theorem Order_bad (p a b : Int) (P : CP) (w : World) (hT : TabW w) (c k : Int) (hlk : lookC p a b [P] = (c, k)) (hc : c ≠ 0) :
    Calls Tryz.prog 16 #[.int .i64 p, .int .i64 a, .int .i64 b, ptv P] w fun e w' => e = .returned (.tuple #[.int .i64 0, fv (c, k)]) ∧ Below w.heap.size w w' := by
  have q1 : (c != 0) = true := by simpa using hc
  have HC := hide hc
  have H0 : Hid (Blks w w []) := hide ⟨Below.refl _ _, hT, by simp, by simp⟩
  have H1 := hide ((H0.out.new #[.int .i64 P.x, .int .i64 P.y, .bool P.far] 30).new #[.int .i64 0, .int .i64 0] 23)
  obtain ⟨W4, hW4⟩ : ∃ ZZ, ((w.alloc (.cells #[.int .i64 P.x, .int .i64 P.y, .bool P.far] 30)).alloc (.cells #[.int .i64 0, .int .i64 0] 23)) = ZZ := ⟨_, rfl⟩
  simp only [World.size_alloc] at H1
  rw [hW4] at H1
  have H2 := hide (H1.out.new #[.int .i64 P.x, .int .i64 P.y, .bool P.far] 30)
  have CL := hide (clook_any p a b (.slice (some ⟨W4.heap.size, 0, none⟩) 1 1) [P] (W4.alloc (.cells #[.int .i64 P.x, .int .i64 P.y, .bool P.far] 30)) H2.out.tab (PtS.one P) (by simp))
  rw [hlk] at CL
  obtain ⟨u0, u1, u2⟩ := (H1.out.get 1 rfl).three
  clear hT hlk hc
  unfold ptv
  go_enter Tryz.func16, Tryz.ntmps16
  go_upto_region 1 with (fail)
  (try rw [hW4])
  clear hW4
  go_wp2_with fail
  refine CL.out.mono ?_
  rintro e w1 ⟨rfl, hb⟩
  rw [if_neg HC.out]
  unfold cvv fv
  have H3 := hide ((H2.out.below hb).two #[.int .i64 0, .int .i64 0, .int .i64 0] 50 #[.int .i64 c, .int .i64 k] 23)
  clear hb CL u0 u1 u2 H1 H2 H0
  go_upto_region 2 with (fail)
  obtain ⟨W5, hW5⟩ : ∃ Z, ((w1.alloc (.cells #[.int .i64 0, .int .i64 0, .int .i64 0] 50)).alloc (.cells #[.int .i64 c, .int .i64 k] 23)) = Z := ⟨_, rfl⟩
  obtain ⟨g, hg⟩ : ∃ Z, w1.heap.size = Z := ⟨_, rfl⟩
  rw [hW5, hg] at H3
  rw [hW5]
  (try rw [hg])
  clear hW5 hg
  have f0 := (H3.out.get 0 rfl).cell (i := 0) (v := .int .i64 c) rfl
  go_upto_region 3 with (fail)
  clear f0
  have HX := hide (H3.out.below (below_drewN (Below.refl _ _) 1))
  obtain ⟨W6, hW6⟩ : ∃ ZZ, W5.drewN 1 = ZZ := ⟨_, rfl⟩
  rw [hW6] at HX
  have hS0 := And.intro ((HX.out.get 0 rfl).cell (i := 0) (v := .int .i64 c) rfl) ((HX.out.get 0 rfl).cell (i := 1) (v := .int .i64 k) rfl)
  have HW6 : Hid (W5.drew = W6) := hide hW6
  refine wp_region_P (fun W => W.cell? ⟨g + 1, 0, none⟩ = some (.int .i64 c) ∧ W.cell? ⟨g + 1, 1, none⟩ = some (.int .i64 k)) 2 (by rfl) (by rw [HW6.out]; exact hS0) ?_
  rw [HW6.out]
  clear hS0 HW6 hW6
  intro hS
  refine wpAnyP_take 0 24 [0, 2] (v := ?_) rfl (by kernel_rfl) (by kernel_rfl) (by kernel_rfl) (by kernel_rfl) (by kernel_rfl) (by kernel_rfl) (by rfl) (fun _ _ _ h => h) (Or.inl ⟨by rfl, ?_⟩) hS ?_; rotate_left
  · (intro w hSw; (try dsimp only at hSw); go_simp; (try with_reducible rfl))
  (try simp only [List.setIfInBounds_toArray, List.set_cons_zero, List.set_cons_succ])
  refine wpAnyP_take 1 8 [1, 2] (v := ?_) rfl (by kernel_rfl) (by kernel_rfl) (by kernel_rfl) (by kernel_rfl) (by kernel_rfl) (by kernel_rfl) (by rfl) (fun _ _ _ h => h) (Or.inl ⟨by rfl, ?_⟩) hS ?_; rotate_left
  · (intro w hSw; (try dsimp only at hSw); go_simp; (try with_reducible rfl))
  (try simp only [List.setIfInBounds_toArray, List.set_cons_zero, List.set_cons_succ])
  obtain ⟨s0, s1, y0, y1⟩ := FC.cells (HX.out.get 3 rfl : KB _ _ _ _)
  refine wpAnyP_one 2 rfl (by kernel_rfl) (fun K hK => ?_)
  go_simp
  refine hK.out _ _ (fun h => by simp at h) ?_
  clear hK K
  (try simp only [Act.put, List.setIfInBounds_toArray, List.set_cons_zero, List.set_cons_succ])
  refine wpAnyP_done (by kernel_rfl) ?_ _
  have HB := hide (below_fault (u := .int .i64 c) (v := .int .i64 k) HX.out.b (show w.heap.size ≤ w.heap.size + 1 by omega))
  obtain ⟨p0, p1⟩ := FC.put (HX.out.get 3 rfl : KB _ _ _ _) c k
  clear s0 s1 y0 y1
  go_wp2_with fail
  exact bodyPost_ret (v := .tuple #[.int .i64 0, fv (c, k)]) (by simp [results, Tryz.results16, go_sem, fv, p0, p1]) rfl ⟨rfl, HB.out⟩

set_option maxRecDepth 100000 in
set_option maxHeartbeats 6400000 in
theorem Order_ok (p : Nat) (a b : Int) (P : CP) (w : World) (hT : TabW w) (h : OkCv p a b) (hP : okC p a b P) :
    Calls Tryz.prog 16 #[.int .i64 (p : Int), .int .i64 a, .int .i64 b, ptv P] w fun e w' => ∃ n : Nat, e = .returned (.tuple #[.int .i64 (n : Int), fv (0, 0)]) ∧ IsOrd (addC p a) farC P n ∧ Below w.heap.size w w' := by
  have hlk : lookC p a b [P] = (0, 0) := by
    unfold lookC
    rw [h.chk, if_neg (by simp)]
    exact offP_ok (by simp; exact hP)
  have hlen : (ptsC p a b).length ≤ 5000000 := by
    have k1 := pts_len p a b
    have k2 : p * p ≤ 2000 * 2000 := Nat.mul_le_mul (by have := h.p2; omega) (by have := h.p2; omega)
    omega
  have CPT := fun W => hide (points_any p a b W h)
  have CO := fun W (hW : TabW W) => hide (corder_any p a b (ptsC p a b).length P W h hP (pts_pos p a b) (by omega) (pts_whole h hP) hW)
  unfold cvv at CPT
  unfold cvv ptv at CO
  obtain ⟨N, hN⟩ : ∃ N, (ptsC p a b).length = N := ⟨_, rfl⟩
  rw [hN] at CO
  have HNN := hide hN
  have H0 : Hid (Blks w w []) := hide ⟨Below.refl _ _, hT, by simp, by simp⟩
  have H1 := hide ((H0.out.new #[.int .i64 P.x, .int .i64 P.y, .bool P.far] 30).new #[.int .i64 0, .int .i64 0] 23)
  obtain ⟨W4, hW4⟩ : ∃ ZZ, ((w.alloc (.cells #[.int .i64 P.x, .int .i64 P.y, .bool P.far] 30)).alloc (.cells #[.int .i64 0, .int .i64 0] 23)) = ZZ := ⟨_, rfl⟩
  simp only [World.size_alloc] at H1
  rw [hW4] at H1
  have H2 := hide (H1.out.new #[.int .i64 P.x, .int .i64 P.y, .bool P.far] 30)
  have CL := hide (clook_any p a b (.slice (some ⟨W4.heap.size, 0, none⟩) 1 1) [P] (W4.alloc (.cells #[.int .i64 P.x, .int .i64 P.y, .bool P.far] 30)) H2.out.tab (PtS.one P) (by simp))
  rw [hlk] at CL
  obtain ⟨u0, u1, u2⟩ := (H1.out.get 1 rfl).three
  clear hT hlk h hP hlen hN
  unfold ptv
  go_enter Tryz.func16, Tryz.ntmps16
  go_upto_region 1 with (fail)
  (try rw [hW4])
  clear hW4
  go_wp2_with fail
  refine CL.out.mono ?_
  rintro e w1 ⟨rfl, hb⟩
  rw [if_pos rfl]
  unfold cvv fv
  have H3 := hide ((H2.out.below hb).two #[.int .i64 (p : Int), .int .i64 a, .int .i64 b] 50 #[.int .i64 0, .int .i64 0] 23)
  clear hb CL u0 u1 u2 H1 H2 H0
  go_upto_region 2 with (fail)
  obtain ⟨W5, hW5⟩ : ∃ Z, ((w1.alloc (.cells #[.int .i64 (p : Int), .int .i64 a, .int .i64 b] 50)).alloc (.cells #[.int .i64 0, .int .i64 0] 23)) = Z := ⟨_, rfl⟩
  obtain ⟨g, hg⟩ : ∃ Z, w1.heap.size = Z := ⟨_, rfl⟩
  rw [hW5, hg] at H3
  rw [hW5]
  (try rw [hg])
  clear hW5 hg
  have f0 := (H3.out.get 0 rfl).cell (i := 0) (v := .int .i64 0) rfl
  go_upto_region 4 with (fail)
  clear f0
  have HX := hide (H3.out.below (below_drewN (Below.refl _ _) 1))
  obtain ⟨W6, hW6⟩ : ∃ ZZ, W5.drewN 1 = ZZ := ⟨_, rfl⟩
  rw [hW6] at HX
  have KS := fun W (hX : Blks w W _) => (show ((W.cell? ⟨g, 0, none⟩ = some (.int .i64 (p : Int)) ∧ W.cell? ⟨g, 1, none⟩ = some (.int .i64 a) ∧ W.cell? ⟨g, 2, none⟩ = some (.int .i64 b)) ∧ (W.cell? ⟨w.heap.size, 0, none⟩ = some (.int .i64 P.x) ∧ W.cell? ⟨w.heap.size, 1, none⟩ = some (.int .i64 P.y) ∧ W.cell? ⟨w.heap.size, 2, none⟩ = some (.bool P.far)) ∧ (W.cell? ⟨g + 1, 0, none⟩ = some (.int .i64 0) ∧ W.cell? ⟨g + 1, 1, none⟩ = some (.int .i64 0))) from
    ⟨(hX.get (l := [(g + 1, #[.int .i64 0, .int .i64 0], 23), (g, #[.int .i64 (p : Int), .int .i64 a, .int .i64 b], 50), (W4.heap.size, #[.int .i64 P.x, .int .i64 P.y, .bool P.far], 30), (w.heap.size + 1, #[.int .i64 0, .int .i64 0], 23), (w.heap.size, #[.int .i64 P.x, .int .i64 P.y, .bool P.far], 30)]) 1 rfl).three, (hX.get 4 rfl).three, (hX.get 0 rfl).cell rfl, (hX.get 0 rfl).cell rfl⟩)
  have hS0 := KS _ HX.out
  have HW6 : Hid (W5.drew = W6) := hide hW6
  refine wp_region_P (fun W => ((W.cell? ⟨g, 0, none⟩ = some (.int .i64 (p : Int)) ∧ W.cell? ⟨g, 1, none⟩ = some (.int .i64 a) ∧ W.cell? ⟨g, 2, none⟩ = some (.int .i64 b)) ∧ (W.cell? ⟨w.heap.size, 0, none⟩ = some (.int .i64 P.x) ∧ W.cell? ⟨w.heap.size, 1, none⟩ = some (.int .i64 P.y) ∧ W.cell? ⟨w.heap.size, 2, none⟩ = some (.bool P.far)) ∧ (W.cell? ⟨g + 1, 0, none⟩ = some (.int .i64 0) ∧ W.cell? ⟨g + 1, 1, none⟩ = some (.int .i64 0)))) 8 (by rfl) (by rw [HW6.out]; exact hS0) ?_
  rw [HW6.out]
  clear hS0 HW6 hW6
  intro hS
  refine wpAnyP_take 0 25 [0, 8] (v := ?_) rfl (by kernel_rfl) (by kernel_rfl) (by kernel_rfl) (by kernel_rfl) (by kernel_rfl) (by kernel_rfl) (by rfl) (fun _ _ _ h => h) (Or.inl ⟨by rfl, ?_⟩) hS ?_; rotate_left
  · (intro w hSw; (try dsimp only at hSw); go_simp; (try with_reducible rfl))
  (try simp only [List.setIfInBounds_toArray, List.set_cons_zero, List.set_cons_succ])
  refine wpAnyP_take 1 26 [1, 8] (v := ?_) rfl (by kernel_rfl) (by kernel_rfl) (by kernel_rfl) (by kernel_rfl) (by kernel_rfl) (by kernel_rfl) (by rfl) (fun _ _ _ h => h) (Or.inl ⟨by rfl, ?_⟩) hS ?_; rotate_left
  · (intro w hSw; (try dsimp only at hSw); go_simp; (try with_reducible rfl))
  (try simp only [List.setIfInBounds_toArray, List.set_cons_zero, List.set_cons_succ])
  refine wpAnyP_take 4 29 [4, 8] (v := ?_) rfl (by kernel_rfl) (by kernel_rfl) (by kernel_rfl) (by kernel_rfl) (by kernel_rfl) (by kernel_rfl) (by rfl) (fun _ _ _ h => h) (Or.inl ⟨by rfl, ?_⟩) hS ?_; rotate_left
  · (intro w hSw; (try dsimp only at hSw); go_simp; (try with_reducible rfl))
  (try simp only [List.setIfInBounds_toArray, List.set_cons_zero, List.set_cons_succ])
  refine wpAnyP_take 6 31 [6, 8] (v := ?_) rfl (by kernel_rfl) (by kernel_rfl) (by kernel_rfl) (by kernel_rfl) (by kernel_rfl) (by kernel_rfl) (by rfl) (fun _ _ _ h => h) (Or.inl ⟨by rfl, ?_⟩) hS ?_; rotate_left
  · (intro w hSw; (try dsimp only at hSw); go_simp; (try with_reducible rfl))
  (try simp only [List.setIfInBounds_toArray, List.set_cons_zero, List.set_cons_succ])
  refine wpAnyP_one 2 rfl (by kernel_rfl) (fun K hK => ?_)
  go_simp
  refine (CPT _).out.mono ?_
  rintro e w7 ⟨v, rfl, hrow, hb⟩
  have HX2 := hide (HX.out.below hb)
  obtain ⟨A, cp, rfl⟩ := hrow.form
  clear hb hrow hS HX
  rw [HNN.out]
  have hS := KS _ HX2.out
  refine hK.out _ _ (fun _ => hS) ?_
  clear hK K
  (try simp only [Act.put, List.setIfInBounds_toArray, List.set_cons_zero, List.set_cons_succ])
  refine wpAnyP_take 3 28 [3, 8] (v := ?_) rfl (by kernel_rfl) (by kernel_rfl) (by kernel_rfl) (by kernel_rfl) (by kernel_rfl) (by kernel_rfl) (by rfl) (fun _ _ _ h => h) (Or.inl ⟨by rfl, ?_⟩) hS ?_; rotate_left
  · (intro w hSw; (try dsimp only at hSw); go_simp; (try with_reducible rfl))
  (try simp only [List.setIfInBounds_toArray, List.set_cons_zero, List.set_cons_succ])
  refine wpAnyP_one 5 rfl (by kernel_rfl) (fun K hK => ?_)
  go_simp
  refine (CO _ HX2.out.tab).out.mono ?_
  rintro e w8 ⟨n, rfl, hord, hb⟩
  have HX := hide (HX2.out.below hb)
  have HORD := hide hord
  clear hb hord hS HX2
  have hS := KS _ HX.out
  refine hK.out _ _ (fun _ => hS) ?_
  clear hK K
  (try simp only [Act.put, List.setIfInBounds_toArray, List.set_cons_zero, List.set_cons_succ])
  refine wpAnyP_take 7 8 [7, 8] (v := ?_) rfl (by kernel_rfl) (by kernel_rfl) (by kernel_rfl) (by kernel_rfl) (by kernel_rfl) (by kernel_rfl) (by rfl) (fun _ _ _ h => h) (Or.inl ⟨by rfl, ?_⟩) hS ?_; rotate_left
  · (intro w hSw; (try dsimp only at hSw); go_simp; (try with_reducible rfl))
  (try simp only [List.setIfInBounds_toArray, List.set_cons_zero, List.set_cons_succ])
  obtain ⟨s0, s1, y0, y1⟩ := FC.cells (HX.out.get 3 rfl : KB _ _ _ _)
  refine wpAnyP_one 8 rfl (by kernel_rfl) (fun K hK => ?_)
  go_simp
  refine hK.out _ _ (fun h => by simp at h) ?_
  clear hK K
  (try simp only [Act.put, List.setIfInBounds_toArray, List.set_cons_zero, List.set_cons_succ])
  refine wpAnyP_done (by kernel_rfl) ?_ _
  have HB := hide (below_fault (u := .int .i64 0) (v := .int .i64 0) HX.out.b (show w.heap.size ≤ w.heap.size + 1 by omega))
  obtain ⟨p0, p1⟩ := FC.put (HX.out.get 3 rfl : KB _ _ _ _) 0 0
  clear s0 s1 y0 y1
  go_wp2_with fail
  exact bodyPost_ret (v := .tuple #[.int .i64 (n : Int), fv (0, 0)]) (by simp [results, Tryz.results16, go_sem, fv, p0, p1]) rfl ⟨n, rfl, HORD.out, HB.out⟩
end Go.Proofs.YtonclhchbgmaiaaGreatDoor
