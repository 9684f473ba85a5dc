/- The walk of curve.Times of a number and a point that fit. -/
import Derived.Test.YtonclhchbgmaiaaGreatDoorKCurvU
namespace Go.Proofs.YtonclhchbgmaiaaGreatDoor
open Go.RowKit
open CV

/-- Times' memory -/
structure TpM (w W : World) (g : Nat) (p a b : Int) (P : CP) (c k : Int) : Prop where
  u : KB W w.heap.size #[.int .i64 P.x, .int .i64 P.y, .bool P.far] 30
  r : KB W (w.heap.size + 1) #[.int .i64 0, .int .i64 0, .bool false] 30
  s : FC W (w.heap.size + 1 + 1) 0 0
  cu : KB W g #[.int .i64 p, .int .i64 a, .int .i64 b] 50
  f : FC W (g + 1) c k
  n : w.heap.size + 1 + 1 < g
  b : Below w.heap.size w W
theorem TpM.below {w W W' : World} {g : Nat} {p a b c k : Int} {P : CP} (h : TpM w W g p a b P c k) (hb : Below W.heap.size W W') : TpM w W' g p a b P c k :=
  ⟨h.u.below hb, h.r.below hb, h.s.below hb, h.cu.below hb, h.f.below hb, h.n, h.b.trans (hb.mono h.b.size)⟩
/-- what Times reads at its end -/
structure TpS (w W : World) (g : Nat) (p a b : Int) (P : CP) (c k : Int) : Prop where
  u : KB W w.heap.size #[.int .i64 P.x, .int .i64 P.y, .bool P.far] 30
  cu : KB W g #[.int .i64 p, .int .i64 a, .int .i64 b] 50
  f : FC W (g + 1) c k
  n : w.heap.size + 1 + 1 < g
theorem TpM.s' {w W : World} {g : Nat} {p a b c k : Int} {P : CP} (h : TpM w W g p a b P c k) : TpS w W g p a b P c k := ⟨h.u, h.cu, h.f, h.n⟩
theorem TpS.set {w W : World} {g : Nat} {p a b c k : Int} {P : CP} (h : TpS w W g p a b P c k) (i : Nat) (v : Value) : TpS w (W.setCell ⟨w.heap.size + 1, i, none⟩ v) g p a b P c k := by
  have := h.n
  exact ⟨h.u.far (by show w.heap.size ≠ w.heap.size + 1; omega) _, h.cu.far (by show g ≠ w.heap.size + 1; omega) _, (Below.heap_setCell _ ⟨w.heap.size + 1, i, none⟩ _ _ (by show g + 1 ≠ w.heap.size + 1; omega)).trans h.f, h.n⟩
theorem tp_start (w : World) (P : CP) :
    KB (((w.alloc (.cells #[.int .i64 P.x, .int .i64 P.y, .bool P.far] 30)).alloc (.cells #[.int .i64 0, .int .i64 0, .bool false] 30)).alloc (.cells #[.int .i64 0, .int .i64 0] 23)) w.heap.size #[.int .i64 P.x, .int .i64 P.y, .bool P.far] 30 ∧
    KB (((w.alloc (.cells #[.int .i64 P.x, .int .i64 P.y, .bool P.far] 30)).alloc (.cells #[.int .i64 0, .int .i64 0, .bool false] 30)).alloc (.cells #[.int .i64 0, .int .i64 0] 23)) (w.heap.size + 1) #[.int .i64 0, .int .i64 0, .bool false] 30 ∧
    FC (((w.alloc (.cells #[.int .i64 P.x, .int .i64 P.y, .bool P.far] 30)).alloc (.cells #[.int .i64 0, .int .i64 0, .bool false] 30)).alloc (.cells #[.int .i64 0, .int .i64 0] 23)) (w.heap.size + 1 + 1) 0 0 ∧
    Below w.heap.size w (((w.alloc (.cells #[.int .i64 P.x, .int .i64 P.y, .bool P.far] 30)).alloc (.cells #[.int .i64 0, .int .i64 0, .bool false] 30)).alloc (.cells #[.int .i64 0, .int .i64 0] 23)) := by
  have k1 := KB.made w #[.int .i64 P.x, .int .i64 P.y, .bool P.far] 30
  have b1 := bel_x w (.cells #[.int .i64 P.x, .int .i64 P.y, .bool P.far] 30)
  obtain ⟨W1, hW1⟩ : ∃ Z, w.alloc (.cells #[.int .i64 P.x, .int .i64 P.y, .bool P.far] 30) = Z := ⟨_, rfl⟩
  have s1 : W1.heap.size = w.heap.size + 1 := by rw [← hW1, World.size_alloc]
  rw [hW1] at k1 b1 ⊢
  have k3 := KB.made W1 #[.int .i64 0, .int .i64 0, .bool false] 30
  have b3 := bel_x W1 (.cells #[.int .i64 0, .int .i64 0, .bool false] 30)
  obtain ⟨W3, hW3⟩ : ∃ Z, W1.alloc (.cells #[.int .i64 0, .int .i64 0, .bool false] 30) = Z := ⟨_, rfl⟩
  have s3 : W3.heap.size = w.heap.size + 1 + 1 := by rw [← hW3, World.size_alloc, s1]
  rw [hW3] at k3 b3 ⊢
  have k4 := FC.made W3 0 0
  have b4 := bel_x W3 (.cells #[.int .i64 0, .int .i64 0] 23)
  rw [s1] at k3
  rw [s3] at k4
  have c3 := b1.trans (b3.mono b1.size)
  exact ⟨(k1.below b3).below b4, k3.below b4, k4, c3.trans (b4.mono c3.size)⟩
/-- the answers' cells, written -/
theorem tp_put {w W : World} {g : Nat} {p a b c k : Int} {P : CP} (h : TpM w W g p a b P c k) (R : CP) (x y : Int) :
    KB (((((W.setCell ⟨w.heap.size + 1, 0, none⟩ (.int .i64 R.x)).setCell ⟨w.heap.size + 1, 1, none⟩ (.int .i64 R.y)).setCell ⟨w.heap.size + 1, 2, none⟩ (.bool R.far)).setCell ⟨w.heap.size + 1 + 1, 0, none⟩ (.int .i64 x)).setCell ⟨w.heap.size + 1 + 1, 1, none⟩ (.int .i64 y)) (w.heap.size + 1) #[.int .i64 R.x, .int .i64 R.y, .bool R.far] 30 ∧
    FC (((((W.setCell ⟨w.heap.size + 1, 0, none⟩ (.int .i64 R.x)).setCell ⟨w.heap.size + 1, 1, none⟩ (.int .i64 R.y)).setCell ⟨w.heap.size + 1, 2, none⟩ (.bool R.far)).setCell ⟨w.heap.size + 1 + 1, 0, none⟩ (.int .i64 x)).setCell ⟨w.heap.size + 1 + 1, 1, none⟩ (.int .i64 y)) (w.heap.size + 1 + 1) x y ∧
    Below w.heap.size w (((((W.setCell ⟨w.heap.size + 1, 0, none⟩ (.int .i64 R.x)).setCell ⟨w.heap.size + 1, 1, none⟩ (.int .i64 R.y)).setCell ⟨w.heap.size + 1, 2, none⟩ (.bool R.far)).setCell ⟨w.heap.size + 1 + 1, 0, none⟩ (.int .i64 x)).setCell ⟨w.heap.size + 1 + 1, 1, none⟩ (.int .i64 y)) := by
  have h1 := ((h.r.set 0 (.int .i64 R.x)).set 1 (.int .i64 R.y)).set 2 (.bool R.far)
  have h2 : FC (((W.setCell ⟨w.heap.size + 1, 0, none⟩ (.int .i64 R.x)).setCell ⟨w.heap.size + 1, 1, none⟩ (.int .i64 R.y)).setCell ⟨w.heap.size + 1, 2, none⟩ (.bool R.far)) (w.heap.size + 1 + 1) 0 0 :=
    ((Below.heap_setCell _ ⟨w.heap.size + 1, 2, none⟩ _ _ (by show w.heap.size + 1 + 1 ≠ w.heap.size + 1; omega)).trans ((Below.heap_setCell _ ⟨w.heap.size + 1, 1, none⟩ _ _ (by show w.heap.size + 1 + 1 ≠ w.heap.size + 1; omega)).trans ((Below.heap_setCell _ ⟨w.heap.size + 1, 0, none⟩ _ _ (by show w.heap.size + 1 + 1 ≠ w.heap.size + 1; omega)).trans h.s)))
  refine ⟨(h1.far (by show w.heap.size + 1 ≠ w.heap.size + 1 + 1; omega) _).far (by show w.heap.size + 1 ≠ w.heap.size + 1 + 1; omega) _, (h2.set0 x).set1 y, ?_⟩
  exact below_fault (((h.b.setCell (p := ⟨w.heap.size + 1, 0, none⟩) (show w.heap.size ≤ w.heap.size + 1 by omega) _).setCell (p := ⟨w.heap.size + 1, 1, none⟩) (show w.heap.size ≤ w.heap.size + 1 by omega) _).setCell (p := ⟨w.heap.size + 1, 2, none⟩) (show w.heap.size ≤ w.heap.size + 1 by omega) _) (by omega)

set_option maxRecDepth 100000 in
set_option maxHeartbeats 6400000 in
theorem Times_ok (p : Nat) (a b n : Int) (P : CP) (w : World) (hT : TabW w) (h : OkCv p a b) (hP : okC p a b P) (hn : -1000000000000000000 ≤ n ∧ n ≤ 1000000000000000000) :
    Calls Tryz.prog 15 #[.int .i64 (p : Int), .int .i64 a, .int .i64 b, .int .i64 n, ptv P] w (RetAdd w (zC p a n P) (0, 0)) := by
  have hlk : lookC p a b [P] = (0, 0) := by
    unfold lookC
    rw [h.chk, if_neg (by simp)]
    exact offP_ok (by simp; exact hP)
  obtain ⟨k1, k3, k4, k5⟩ := tp_start w P
  have CA := fun W => hide (ctimes_any p a b n P W h hP hn.1 hn.2)
  have CK := fun W => hide (ok_any n W)
  rw [show okB n = true by unfold okB; simp; omega] at CK
  unfold cvv ptv at CA
  obtain ⟨W4, hW4⟩ : ∃ Z, (((w.alloc (.cells #[.int .i64 P.x, .int .i64 P.y, .bool P.far] 30)).alloc (.cells #[.int .i64 0, .int .i64 0, .bool false] 30)).alloc (.cells #[.int .i64 0, .int .i64 0] 23)) = Z := ⟨_, rfl⟩
  rw [hW4] at k1 k3 k4 k5
  have HK := hide (And.intro k1 (And.intro k3 (And.intro k4 k5)))
  have b4 := bel_x W4 (.cells #[.int .i64 P.x, .int .i64 P.y, .bool P.far] 30)
  have CL := hide (clook_any p a b (.slice (some ⟨W4.heap.size, 0, none⟩) 1 1) [P] (W4.alloc (.cells #[.int .i64 P.x, .int .i64 P.y, .bool P.far] 30)) (hT.below (k5.trans (b4.mono k5.size))) (PtS.one P) (by simp))
  rw [hlk] at CL
  obtain ⟨u0, u1, u2⟩ := k1.three
  clear hT h hP hlk k1 k3 k4 k5 b4 hn
  unfold ptv
  go_enter Tryz.func15, Tryz.ntmps15
  go_upto_region 1 with (fail)
  (try rw [hW4])
  clear hW4
  go_wp2_with fail
  refine CL.out.mono ?_
  rintro e w1 ⟨rfl, hb⟩
  rw [if_pos rfl]
  unfold cvv fv
  have HM : Hid (TpM w ((w1.alloc (.cells #[.int .i64 (p : Int), .int .i64 a, .int .i64 b] 50)).alloc (.cells #[.int .i64 0, .int .i64 0] 23)) w1.heap.size p a b P 0 0) := by
    obtain ⟨k1, k3, k4, k5⟩ := HK.out
    have b4 := bel_x W4 (.cells #[.int .i64 P.x, .int .i64 P.y, .bool P.far] 30)
    have b5 := b4.trans (hb.mono b4.size)
    have b6 := b5.trans ((bel_x w1 (.cells #[.int .i64 (p : Int), .int .i64 a, .int .i64 b] 50)).mono b5.size)
    have b7 := b6.trans ((bel_x (w1.alloc (.cells #[.int .i64 (p : Int), .int .i64 a, .int .i64 b] 50)) (.cells #[.int .i64 0, .int .i64 0] 23)).mono b6.size)
    have f := FC.made (w1.alloc (.cells #[.int .i64 (p : Int), .int .i64 a, .int .i64 b] 50)) 0 0
    rw [World.size_alloc] at f
    have hl := k4.lt
    have hs := b5.size
    exact hide ⟨k1.below b7, k3.below b7, k4.below b7, (KB.made w1 _ _).below (bel_x _ _), f, by omega, k5.trans (b7.mono k5.size)⟩
  clear hb CL u0 u1 u2
  go_upto_region 2 with (fail)
  obtain ⟨W5, hW5⟩ : ∃ Z, ((w1.alloc (.cells #[.int .i64 (p : Int), .int .i64 a, .int .i64 b] 50)).alloc (.cells #[.int .i64 0, .int .i64 0] 23)) = Z := ⟨_, rfl⟩
  obtain ⟨g, hg⟩ : ∃ Z, w1.heap.size = Z := ⟨_, rfl⟩
  rw [hW5, hg] at HM
  rw [hW5]
  (try rw [hg])
  clear hW5 hg HK
  obtain ⟨f0, f1, _, _⟩ := HM.out.f.cells
  go_wp2_with fail
  refine (CK _).out.mono ?_
  rintro e w9 ⟨rfl, rfl⟩
  go_upto_region 6 with (fail)
  obtain ⟨u0, u1, u2⟩ := HM.out.u.three
  obtain ⟨c0, c1, c2⟩ := HM.out.cu.three
  have KS := fun W (h : TpS w W g p a b P 0 0) => (show ((W.cell? ⟨g, 0, none⟩ = some (.int .i64 (p : Int)) ∧ W.cell? ⟨g, 1, none⟩ = some (.int .i64 a) ∧ W.cell? ⟨g, 2, none⟩ = some (.int .i64 b)) ∧ (W.cell? ⟨w.heap.size, 0, none⟩ = some (.int .i64 P.x) ∧ W.cell? ⟨w.heap.size, 1, none⟩ = some (.int .i64 P.y) ∧ W.cell? ⟨w.heap.size, 2, none⟩ = some (.bool P.far)) ∧ (W.cell? ⟨g + 1, 0, none⟩ = some (.int .i64 0) ∧ W.cell? ⟨g + 1, 1, none⟩ = some (.int .i64 0))) from ⟨h.cu.three, h.u.three, h.f.cells.1, h.f.cells.2.1⟩)
  clear u0 u1 u2 c0 c1 c2 f0 f1
  refine wp_region_P (fun W => ((W.cell? ⟨g, 0, none⟩ = some (.int .i64 (p : Int)) ∧ W.cell? ⟨g, 1, none⟩ = some (.int .i64 a) ∧ W.cell? ⟨g, 2, none⟩ = some (.int .i64 b)) ∧ (W.cell? ⟨w.heap.size, 0, none⟩ = some (.int .i64 P.x) ∧ W.cell? ⟨w.heap.size, 1, none⟩ = some (.int .i64 P.y) ∧ W.cell? ⟨w.heap.size, 2, none⟩ = some (.bool P.far)) ∧ (W.cell? ⟨g + 1, 0, none⟩ = some (.int .i64 0) ∧ W.cell? ⟨g + 1, 1, none⟩ = some (.int .i64 0)))) 6 (by rfl) (KS _ (HM.out.below (below_drewN (Below.refl _ _) 1)).s') ?_
  intro hS
  refine wpAnyP_take 0 37 [0, 6] (v := ?_) rfl (by kernel_rfl) (by kernel_rfl) (by kernel_rfl) (by kernel_rfl) (by kernel_rfl) (by kernel_rfl) (by rfl) (fun _ _ _ h => h) (Or.inl ⟨by rfl, ?_⟩) hS ?_; rotate_left
  · (intro w hSw; (try dsimp only at hSw); go_simp; (try with_reducible rfl))
  (try simp only [List.setIfInBounds_toArray, List.set_cons_zero, List.set_cons_succ])
  refine wpAnyP_take 1 38 [1, 6] (v := ?_) rfl (by kernel_rfl) (by kernel_rfl) (by kernel_rfl) (by kernel_rfl) (by kernel_rfl) (by kernel_rfl) (by rfl) (fun _ _ _ h => h) (Or.inl ⟨by rfl, ?_⟩) hS ?_; rotate_left
  · (intro w hSw; (try dsimp only at hSw); go_simp; (try with_reducible rfl))
  (try simp only [List.setIfInBounds_toArray, List.set_cons_zero, List.set_cons_succ])
  refine wpAnyP_take 2 39 [2, 6] (v := ?_) rfl (by kernel_rfl) (by kernel_rfl) (by kernel_rfl) (by kernel_rfl) (by kernel_rfl) (by kernel_rfl) (by rfl) (fun _ _ _ h => h) (Or.inl ⟨by rfl, ?_⟩) hS ?_; rotate_left
  · (intro w hSw; (try dsimp only at hSw); go_simp; (try with_reducible rfl))
  (try simp only [List.setIfInBounds_toArray, List.set_cons_zero, List.set_cons_succ])
  refine wpAnyP_take 4 41 [4, 6] (v := ?_) rfl (by kernel_rfl) (by kernel_rfl) (by kernel_rfl) (by kernel_rfl) (by kernel_rfl) (by kernel_rfl) (by rfl) (fun _ _ _ h => h) (Or.inl ⟨by rfl, ?_⟩) hS ?_; rotate_left
  · (intro w hSw; (try dsimp only at hSw); go_simp; (try with_reducible rfl))
  (try simp only [List.setIfInBounds_toArray, List.set_cons_zero, List.set_cons_succ])
  refine wpAnyP_one 3 rfl (by kernel_rfl) (fun K hK => ?_)
  go_simp
  refine (CA _).out.mono ?_
  rintro e w6 ⟨rfl, hb⟩
  have HM6 := hide (HM.out.below ((below_drewN (Below.refl _ _) 1).trans (hb.mono (Nat.le_refl _))))
  clear hb hS
  have hS := KS _ HM6.out.s'
  refine hK.out _ _ (fun _ => hS) ?_
  clear hK K
  (try simp only [Act.put, List.setIfInBounds_toArray, List.set_cons_zero, List.set_cons_succ])
  obtain ⟨r0, r1, r2⟩ := HM6.out.r.three
  have z0 := HM6.out.r.frozen 0
  have z1 := HM6.out.r.frozen 1
  have z2 := HM6.out.r.frozen 2
  obtain ⟨s0, s1, y0, y1⟩ := HM6.out.s.cells
  refine wpAnyP_one 5 rfl (by kernel_rfl) (fun K hK => ?_)
  go_simp
  refine hK.out _ _ (fun _ => KS _ (((HM6.out.s'.set 0 _).set 1 _).set 2 _)) ?_
  clear hK K hS
  (try simp only [Act.put, List.setIfInBounds_toArray, List.set_cons_zero, List.set_cons_succ])
  refine wpAnyP_one 6 rfl (by kernel_rfl) (fun K hK => ?_)
  go_simp
  refine hK.out _ _ (fun h => by simp at h) ?_
  clear hK K
  (try simp only [Act.put, List.setIfInBounds_toArray, List.set_cons_zero, List.set_cons_succ])
  refine wpAnyP_done (by kernel_rfl) ?_ _
  clear r0 r1 r2 z0 z1 z2 s0 s1 y0 y1
  obtain ⟨r1, r2, r3⟩ := tp_put HM6.out (zC p a n P) 0 0
  have HR3 := hide r3
  obtain ⟨p0, p1, _, _⟩ := r2.cells
  obtain ⟨t0, t1, t2⟩ := r1.three
  clear r1 r2 r3
  go_wp2_with fail
  exact bodyPost_ret (v := .tuple #[.agg #[.int .i64 (zC p a n P).x, .int .i64 (zC p a n P).y, .bool (zC p a n P).far], fv (0, 0)]) (by simp [results, Tryz.results15, go_sem, fv, p0, p1, t0, t1, t2]) rfl ⟨rfl, HR3.out⟩
end Go.Proofs.YtonclhchbgmaiaaGreatDoor
