/- The walk of curve.Times where it answers a fault (printed by gen_curvn.py). -/
import Derived.Test.YtonclhchbgmaiaaGreatDoorKCurvV
namespace Go.Proofs.YtonclhchbgmaiaaGreatDoor
open Go.RowKit
open CV

set_option maxRecDepth 100000 in
set_option maxHeartbeats 6400000 in
theorem Times_bad (p a b n : Int) (P : CP) (w : World) (hT : TabW w) (c k : Int) (hlk : lookC p a b [P] = (c, k)) (hc : c ≠ 0) :
    Calls Tryz.prog 15 #[.int .i64 p, .int .i64 a, .int .i64 b, .int .i64 n, ptv P] w (RetAdd w ⟨0, 0, false⟩ (c, k)) := by
  have q1 : (c != 0) = true := by simpa using hc
  have q2 : (c == 0) = false := by simpa using hc
  have HC := hide hc
  obtain ⟨k1, k3, k4, k5⟩ := tp_start w P
  obtain ⟨W4, hW4⟩ : ∃ Z, (((w.alloc (.cells #[.int .i64 P.x, .int .i64 P.y, .bool P.far] 30)).alloc (.cells #[.int .i64 0, .int .i64 0, .bool false] 30)).alloc (.cells #[.int .i64 0, .int .i64 0] 23)) = Z := ⟨_, rfl⟩
  rw [hW4] at k1 k3 k4 k5
  have HK := hide (And.intro k1 (And.intro k3 (And.intro k4 k5)))
  have b4 := bel_x W4 (.cells #[.int .i64 P.x, .int .i64 P.y, .bool P.far] 30)
  have CL := hide (clook_any p a b (.slice (some ⟨W4.heap.size, 0, none⟩) 1 1) [P] (W4.alloc (.cells #[.int .i64 P.x, .int .i64 P.y, .bool P.far] 30)) (hT.below (k5.trans (b4.mono k5.size))) (PtS.one P) (by simp))
  rw [hlk] at CL
  obtain ⟨u0, u1, u2⟩ := k1.three
  clear hT hlk hc k1 k3 k4 k5 b4
  unfold ptv
  go_enter Tryz.func15, Tryz.ntmps15
  go_upto_region 1 with (fail)
  (try rw [hW4])
  clear hW4
  go_wp2_with fail
  refine CL.out.mono ?_
  rintro e w1 ⟨rfl, hb⟩
  rw [if_neg HC.out]
  unfold cvv fv
  have HM : Hid (TpM w ((w1.alloc (.cells #[.int .i64 0, .int .i64 0, .int .i64 0] 50)).alloc (.cells #[.int .i64 c, .int .i64 k] 23)) w1.heap.size 0 0 0 P c k) := by
    obtain ⟨k1, k3, k4, k5⟩ := HK.out
    have b4 := bel_x W4 (.cells #[.int .i64 P.x, .int .i64 P.y, .bool P.far] 30)
    have b5 := b4.trans (hb.mono b4.size)
    have b6 := b5.trans ((bel_x w1 (.cells #[.int .i64 0, .int .i64 0, .int .i64 0] 50)).mono b5.size)
    have b7 := b6.trans ((bel_x (w1.alloc (.cells #[.int .i64 0, .int .i64 0, .int .i64 0] 50)) (.cells #[.int .i64 c, .int .i64 k] 23)).mono b6.size)
    have f := FC.made (w1.alloc (.cells #[.int .i64 0, .int .i64 0, .int .i64 0] 50)) c k
    rw [World.size_alloc] at f
    have hl := k4.lt
    have hs := b5.size
    exact hide ⟨k1.below b7, k3.below b7, k4.below b7, (KB.made w1 _ _).below (bel_x _ _), f, by omega, k5.trans (b7.mono k5.size)⟩
  clear hb CL u0 u1 u2
  go_upto_region 2 with (fail)
  obtain ⟨W5, hW5⟩ : ∃ Z, ((w1.alloc (.cells #[.int .i64 0, .int .i64 0, .int .i64 0] 50)).alloc (.cells #[.int .i64 c, .int .i64 k] 23)) = Z := ⟨_, rfl⟩
  obtain ⟨g, hg⟩ : ∃ Z, w1.heap.size = Z := ⟨_, rfl⟩
  rw [hW5, hg] at HM
  rw [hW5]
  (try rw [hg])
  clear hW5 hg HK
  obtain ⟨f0, f1, _, _⟩ := HM.out.f.cells
  go_upto_region 5 with (fail)
  have KS := fun W (h : TpS w W g 0 0 0 P c k) => (show W.cell? ⟨g + 1, 0, none⟩ = some (.int .i64 c) ∧ W.cell? ⟨g + 1, 1, none⟩ = some (.int .i64 k) from ⟨h.f.cells.1, h.f.cells.2.1⟩)
  have HM6 : Hid (TpM w W5.drew g 0 0 0 P c k) := hide (HM.out.below (below_drewN (Below.refl _ _) 1))
  clear f0 f1
  refine wp_region_P (fun W => W.cell? ⟨g + 1, 0, none⟩ = some (.int .i64 c) ∧ W.cell? ⟨g + 1, 1, none⟩ = some (.int .i64 k)) 3 (by rfl) (KS _ HM6.out.s') ?_
  intro hS
  generalize W5.drew = W6 at HM6 hS ⊢
  refine wpAnyP_take 0 35 [0, 3] (v := ?_) rfl (by kernel_rfl) (by kernel_rfl) (by kernel_rfl) (by kernel_rfl) (by kernel_rfl) (by kernel_rfl) (by rfl) (fun _ _ _ h => h) (Or.inl ⟨by rfl, ?_⟩) hS ?_; rotate_left
  · (intro w hSw; (try dsimp only at hSw); go_simp; (try with_reducible rfl))
  (try simp only [List.setIfInBounds_toArray, List.set_cons_zero, List.set_cons_succ])
  refine wpAnyP_take 1 36 [1, 3] (v := ?_) rfl (by kernel_rfl) (by kernel_rfl) (by kernel_rfl) (by kernel_rfl) (by kernel_rfl) (by kernel_rfl) (by rfl) (fun _ _ _ h => h) (Or.inl ⟨by rfl, ?_⟩) hS ?_; rotate_left
  · (intro w hSw; (try dsimp only at hSw); go_simp; (try with_reducible rfl))
  (try simp only [List.setIfInBounds_toArray, List.set_cons_zero, List.set_cons_succ])
  obtain ⟨r0, r1, r2⟩ := HM6.out.r.three
  have z0 := HM6.out.r.frozen 0
  have z1 := HM6.out.r.frozen 1
  have z2 := HM6.out.r.frozen 2
  obtain ⟨s0, s1, y0, y1⟩ := HM6.out.s.cells
  refine wpAnyP_one 2 rfl (by kernel_rfl) (fun K hK => ?_)
  go_simp
  refine hK.out _ _ (fun _ => KS _ (((HM6.out.s'.set 0 _).set 1 _).set 2 _)) ?_
  clear hK K hS
  (try simp only [Act.put, List.setIfInBounds_toArray, List.set_cons_zero, List.set_cons_succ])
  refine wpAnyP_one 3 rfl (by kernel_rfl) (fun K hK => ?_)
  go_simp
  refine hK.out _ _ (fun h => by simp at h) ?_
  clear hK K
  (try simp only [Act.put, List.setIfInBounds_toArray, List.set_cons_zero, List.set_cons_succ])
  refine wpAnyP_done (by kernel_rfl) ?_ _
  clear r0 r1 r2 z0 z1 z2 s0 s1 y0 y1
  obtain ⟨r1, r2, r3⟩ := tp_put HM6.out ⟨0, 0, false⟩ c k
  have HR3 := hide r3
  obtain ⟨p0, p1, _, _⟩ := r2.cells
  obtain ⟨t0, t1, t2⟩ := r1.three
  clear r1 r2 r3
  go_wp2_with fail
  exact bodyPost_ret (v := .tuple #[.agg #[.int .i64 0, .int .i64 0, .bool false], fv (c, k)]) (by simp [results, Tryz.results15, go_sem, fv, p0, p1, t0, t1, t2]) rfl ⟨rfl, HR3.out⟩

set_option maxRecDepth 100000 in
set_option maxHeartbeats 6400000 in
theorem Times_over (p a b n : Int) (P : CP) (w : World) (hT : TabW w) (hlk : lookC p a b [P] = (0, 0)) (hn : okB n = false) :
    Calls Tryz.prog 15 #[.int .i64 p, .int .i64 a, .int .i64 b, .int .i64 n, ptv P] w (RetAdd w ⟨0, 0, false⟩ (3, 4)) := by
  have CK := fun W => hide (ok_any n W)
  rw [hn] at CK
  have CF := fun W => hide (cfault_any 3 4 W)
  obtain ⟨k1, k3, k4, k5⟩ := tp_start w P
  obtain ⟨W4, hW4⟩ : ∃ Z, (((w.alloc (.cells #[.int .i64 P.x, .int .i64 P.y, .bool P.far] 30)).alloc (.cells #[.int .i64 0, .int .i64 0, .bool false] 30)).alloc (.cells #[.int .i64 0, .int .i64 0] 23)) = Z := ⟨_, rfl⟩
  rw [hW4] at k1 k3 k4 k5
  have HK := hide (And.intro k1 (And.intro k3 (And.intro k4 k5)))
  have b4 := bel_x W4 (.cells #[.int .i64 P.x, .int .i64 P.y, .bool P.far] 30)
  have CL := hide (clook_any p a b (.slice (some ⟨W4.heap.size, 0, none⟩) 1 1) [P] (W4.alloc (.cells #[.int .i64 P.x, .int .i64 P.y, .bool P.far] 30)) (hT.below (k5.trans (b4.mono k5.size))) (PtS.one P) (by simp))
  rw [hlk] at CL
  obtain ⟨u0, u1, u2⟩ := k1.three
  clear hT hlk hn k1 k3 k4 k5 b4
  unfold ptv
  go_enter Tryz.func15, Tryz.ntmps15
  go_upto_region 1 with (fail)
  (try rw [hW4])
  clear hW4
  go_wp2_with fail
  refine CL.out.mono ?_
  rintro e w1 ⟨rfl, hb⟩
  rw [if_pos rfl]
  unfold cvv fv
  have HM : Hid (TpM w ((w1.alloc (.cells #[.int .i64 p, .int .i64 a, .int .i64 b] 50)).alloc (.cells #[.int .i64 0, .int .i64 0] 23)) w1.heap.size p a b P 0 0) := by
    obtain ⟨k1, k3, k4, k5⟩ := HK.out
    have b4 := bel_x W4 (.cells #[.int .i64 P.x, .int .i64 P.y, .bool P.far] 30)
    have b5 := b4.trans (hb.mono b4.size)
    have b6 := b5.trans ((bel_x w1 (.cells #[.int .i64 p, .int .i64 a, .int .i64 b] 50)).mono b5.size)
    have b7 := b6.trans ((bel_x (w1.alloc (.cells #[.int .i64 p, .int .i64 a, .int .i64 b] 50)) (.cells #[.int .i64 0, .int .i64 0] 23)).mono b6.size)
    have f := FC.made (w1.alloc (.cells #[.int .i64 p, .int .i64 a, .int .i64 b] 50)) 0 0
    rw [World.size_alloc] at f
    have hl := k4.lt
    have hs := b5.size
    exact hide ⟨k1.below b7, k3.below b7, k4.below b7, (KB.made w1 _ _).below (bel_x _ _), f, by omega, k5.trans (b7.mono k5.size)⟩
  clear hb CL u0 u1 u2
  go_upto_region 2 with (fail)
  obtain ⟨W5, hW5⟩ : ∃ Z, ((w1.alloc (.cells #[.int .i64 p, .int .i64 a, .int .i64 b] 50)).alloc (.cells #[.int .i64 0, .int .i64 0] 23)) = Z := ⟨_, rfl⟩
  obtain ⟨g, hg⟩ : ∃ Z, w1.heap.size = Z := ⟨_, rfl⟩
  rw [hW5, hg] at HM
  rw [hW5]
  (try rw [hg])
  clear hW5 hg HK
  obtain ⟨f0, f1, _, _⟩ := HM.out.f.cells
  go_wp2_with fail
  refine (CK _).out.mono ?_
  rintro e w9 ⟨rfl, rfl⟩
  clear CK f0 f1
  go_wp2_with fail
  refine (CF _).out.mono ?_
  rintro e w10 ⟨rfl, hb⟩
  have HM2 := hide (HM.out.below hb)
  clear hb HM CF
  have HM : Hid (TpM w ((w10.setCell ⟨g + 1, 0, none⟩ (.int .i64 3)).setCell ⟨g + 1, 1, none⟩ (.int .i64 4)) g p a b P 3 4) := by
    have hn := HM2.out.n
    exact hide ⟨(HM2.out.u.far (p := ⟨g + 1, 0, none⟩) (by show w.heap.size ≠ g + 1; omega) _).far (p := ⟨g + 1, 1, none⟩) (by show w.heap.size ≠ g + 1; omega) _, (HM2.out.r.far (p := ⟨g + 1, 0, none⟩) (by show w.heap.size + 1 ≠ g + 1; omega) _).far (p := ⟨g + 1, 1, none⟩) (by show w.heap.size + 1 ≠ g + 1; omega) _,
      (Below.heap_setCell _ ⟨g + 1, 1, none⟩ _ _ (by show w.heap.size + 1 + 1 ≠ g + 1; omega)).trans ((Below.heap_setCell _ ⟨g + 1, 0, none⟩ _ _ (by show w.heap.size + 1 + 1 ≠ g + 1; omega)).trans HM2.out.s), (HM2.out.cu.far (p := ⟨g + 1, 0, none⟩) (by show g ≠ g + 1; omega) _).far (p := ⟨g + 1, 1, none⟩) (by show g ≠ g + 1; omega) _, (HM2.out.f.set0 3).set1 4, hn, below_fault HM2.out.b (by omega)⟩
  obtain ⟨f0, f1, z0, z1⟩ := HM2.out.f.cells
  obtain ⟨W11, hW11⟩ : ∃ ZZ, ((w10.setCell ⟨g + 1, 0, none⟩ (.int .i64 3)).setCell ⟨g + 1, 1, none⟩ (.int .i64 4)) = ZZ := ⟨_, rfl⟩
  rw [hW11] at HM
  clear HM2
  go_upto_region 4 with (fail)
  (try rw [hW11])
  clear f0 f1 z0 z1 hW11
  obtain ⟨f0, f1, _, _⟩ := HM.out.f.cells
  go_upto_region 5 with (fail)
  have KS := fun W (h : TpS w W g p a b P 3 4) => (show W.cell? ⟨g + 1, 0, none⟩ = some (.int .i64 3) ∧ W.cell? ⟨g + 1, 1, none⟩ = some (.int .i64 4) from ⟨h.f.cells.1, h.f.cells.2.1⟩)
  have HM6 : Hid (TpM w W11.drew g p a b P 3 4) := hide (HM.out.below (below_drewN (Below.refl _ _) 1))
  clear f0 f1
  refine wp_region_P (fun W => W.cell? ⟨g + 1, 0, none⟩ = some (.int .i64 3) ∧ W.cell? ⟨g + 1, 1, none⟩ = some (.int .i64 4)) 3 (by rfl) (KS _ HM6.out.s') ?_
  intro hS
  generalize W11.drew = W6 at HM6 hS ⊢
  refine wpAnyP_take 0 35 [0, 3] (v := ?_) rfl (by kernel_rfl) (by kernel_rfl) (by kernel_rfl) (by kernel_rfl) (by kernel_rfl) (by kernel_rfl) (by rfl) (fun _ _ _ h => h) (Or.inl ⟨by rfl, ?_⟩) hS ?_; rotate_left
  · (intro w hSw; (try dsimp only at hSw); go_simp; (try with_reducible rfl))
  (try simp only [List.setIfInBounds_toArray, List.set_cons_zero, List.set_cons_succ])
  refine wpAnyP_take 1 36 [1, 3] (v := ?_) rfl (by kernel_rfl) (by kernel_rfl) (by kernel_rfl) (by kernel_rfl) (by kernel_rfl) (by kernel_rfl) (by rfl) (fun _ _ _ h => h) (Or.inl ⟨by rfl, ?_⟩) hS ?_; rotate_left
  · (intro w hSw; (try dsimp only at hSw); go_simp; (try with_reducible rfl))
  (try simp only [List.setIfInBounds_toArray, List.set_cons_zero, List.set_cons_succ])
  obtain ⟨r0, r1, r2⟩ := HM6.out.r.three
  have z0 := HM6.out.r.frozen 0
  have z1 := HM6.out.r.frozen 1
  have z2 := HM6.out.r.frozen 2
  obtain ⟨s0, s1, y0, y1⟩ := HM6.out.s.cells
  refine wpAnyP_one 2 rfl (by kernel_rfl) (fun K hK => ?_)
  go_simp
  refine hK.out _ _ (fun _ => KS _ (((HM6.out.s'.set 0 _).set 1 _).set 2 _)) ?_
  clear hK K hS
  (try simp only [Act.put, List.setIfInBounds_toArray, List.set_cons_zero, List.set_cons_succ])
  refine wpAnyP_one 3 rfl (by kernel_rfl) (fun K hK => ?_)
  go_simp
  refine hK.out _ _ (fun h => by simp at h) ?_
  clear hK K
  (try simp only [Act.put, List.setIfInBounds_toArray, List.set_cons_zero, List.set_cons_succ])
  refine wpAnyP_done (by kernel_rfl) ?_ _
  clear r0 r1 r2 z0 z1 z2 s0 s1 y0 y1
  obtain ⟨r1, r2, r3⟩ := tp_put HM6.out ⟨0, 0, false⟩ 3 4
  have HR3 := hide r3
  obtain ⟨p0, p1, _, _⟩ := r2.cells
  obtain ⟨t0, t1, t2⟩ := r1.three
  clear r1 r2 r3
  go_wp2_with fail
  exact bodyPost_ret (v := .tuple #[.agg #[.int .i64 0, .int .i64 0, .bool false], fv (3, 4)]) (by simp [results, Tryz.results15, go_sem, fv, p0, p1, t0, t1, t2]) rfl ⟨rfl, HR3.out⟩
end Go.Proofs.YtonclhchbgmaiaaGreatDoor
