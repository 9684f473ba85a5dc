/- The law CurveAdds where look finds a fault (printed by gen_curvbad.py). -/
import Derived.Test.YtonclhchbgmaiaaGreatDoorKCurvJ
namespace Go.Proofs.YtonclhchbgmaiaaGreatDoor
open Go.RowKit
open CV

set_option maxRecDepth 100000 in
set_option maxHeartbeats 6400000 in
theorem adds_bok (p : Nat) (a b n : Int) (Q R : CP) (w : World) (hT : TabW w) (h : OkCv p a b) (hQ : okC p a b Q) (cc kk : Int) (hlk2 : lookC p a b [Q, R] = (cc, kk)) (hc : cc ≠ 0) (hn : okB n = true) :
    Calls Tryz.prog 4 #[.int .i64 (p : Int), .int .i64 a, .int .i64 b, .int .i64 n, ptv Q, ptv R] w fun e w' => e = .returned (.bool true) ∧ Below w.heap.size w w' := by
  obtain ⟨t, ht⟩ : ∃ t : Int, 0 = t := ⟨_, rfl⟩
  have t1 : (t != 0) = false := by rw [← ht]; rfl
  have t2 : (t == 0) = true := by rw [← ht]; rfl
  have e1 : (cc != 0) = true := by simpa using hc
  have e2 : (cc == 0) = false := by simpa using hc
  have CA := fun W (hW : TabW W) => hide (Add_bad p a b Q R W hW cc kk hlk2 hc)
  have CO := fun W => hide (offCurve_any p a b _ [Q, R] _ (PtS.two (w := W) Q R) (by simp))
  have CB := fun W (hW : TabW W) => hide (curveBegun_any W hW)
  have CT := fun W (hW : TabW W) => hide (Times_ok p a b n Q W hW h hQ (by unfold okB at hn; simp at hn; omega))
  have CD := fun W (hW : TabW W) => hide (Order_ok p a b Q W hW h hQ)
  have CK := fun W (hW : TabW W) => hide (ROrder_any p a b Q W hW h hQ)
  have HOQ := hide (And.intro h hQ)
  have HCA : Hid (∀ i W, TabW W → Hid (Calls Tryz.prog 14 #[.int .i64 (p : Int), .int .i64 a, ptv (mulC p a i Q), ptv Q] W fun e w' => e = .returned (ptv (mulC p a (i + 1) Q)) ∧ Below W.heap.size W w')) := hide fun i W hW => hide (Added_any p a b (mulC p a i Q) Q W hW h ((cgroup h).nmok hQ i) hQ)
  have HNR : Hid (-1000000000000000000 ≤ n ∧ n ≤ 1000000000000000000) := hide (by unfold okB at hn; simp at hn; omega)
  have CN := fun W => hide (number_any n W)
  rw [hn] at CN
  have CO1 := fun W => hide (offCurve_any p a b _ [Q] _ (PtS.one (w := W) Q) (by simp))
  have hlk1 : lookC p a b [Q] = (0, 0) := by
    unfold lookC
    rw [h.chk, if_neg (by simp)]
    exact offP_ok (by simp; exact hQ)
  rw [hlk1] at CO1
  unfold RetOff at CO1
  rw [hlk2] at CO
  unfold RetOff at CO
  unfold RetAdd at CA CT
  rw [ht] at CT CO1
  obtain ⟨Z, hZ⟩ : ∃ Z, zC p a n Q = Z := ⟨_, rfl⟩
  have HZ := hide hZ
  rw [hZ] at CT
  unfold ptv at CA CT CD CK HCA
  simp only [fv] at CA CO CT CD CO1
  rw [ht] at CD
  have H0 : Hid (Blks w w []) := hide ⟨Below.refl _ _, hT, by simp, by simp⟩
  have H1 := hide ((H0.out.new #[.int .i64 Q.x, .int .i64 Q.y, .bool Q.far] 30).new #[.int .i64 R.x, .int .i64 R.y, .bool R.far] 30)
  obtain ⟨W1, hW1⟩ : ∃ ZZ, ((w.alloc (.cells #[.int .i64 Q.x, .int .i64 Q.y, .bool Q.far] 30)).alloc (.cells #[.int .i64 R.x, .int .i64 R.y, .bool R.far] 30)) = ZZ := ⟨_, rfl⟩
  simp only [World.size_alloc] at H1
  rw [hW1] at H1
  clear hT h hQ hlk2 hc hlk1 H0 ht hn hZ
  obtain ⟨P', hP'⟩ : ∃ P' : Int, (p : Int) = P' := ⟨_, rfl⟩
  rw [hP'] at CA CO CT CD CK CO1 HCA ⊢
  clear hP'
  unfold ptv
  obtain ⟨q0, q1, q2⟩ := (H1.out.get 1 rfl).three
  obtain ⟨r0, r1, r2⟩ := (H1.out.get 0 rfl).three
  go_enter Tryz.func4, Tryz.ntmps4
  go_wp2_with fail
  refine (CA W1 H1.out.tab).out.mono ?_
  rintro e w2 ⟨rfl, hb⟩
  have H2 := hide ((H1.out.below hb).two #[.int .i64 0, .int .i64 0, .bool false] 30 #[.int .i64 cc, .int .i64 kk] 23)
  obtain ⟨W2, hW2⟩ : ∃ ZZ, ((w2.alloc (.cells #[.int .i64 0, .int .i64 0, .bool false] 30)).alloc (.cells #[.int .i64 cc, .int .i64 kk] 23)) = ZZ := ⟨_, rfl⟩
  obtain ⟨g, hg⟩ : ∃ ZZ, w2.heap.size = ZZ := ⟨_, rfl⟩
  rw [hW2, hg] at H2
  have L1 : Hid (w.heap.size + 1 < g) := hide (by rw [← hg]; exact Nat.lt_of_lt_of_le (H1.out.get 0 rfl).lt hb.size)
  clear hb H1 q0 q1 q2 r0 r1 r2 hW1 CA
  obtain ⟨q0, q1, q2⟩ := (H2.out.get 3 rfl).three
  obtain ⟨r0, r1, r2⟩ := (H2.out.get 2 rfl).three
  go_wp2_with fail
  have H3 := hide (H2.out.new #[.int .i64 Q.x, .int .i64 Q.y, .bool Q.far, .int .i64 R.x, .int .i64 R.y, .bool R.far] 30)
  refine (CO _).out.mono ?_
  rintro e w3 ⟨rfl, hb⟩
  have H5 := hide ((H3.out.below hb).new #[.int .i64 cc, .int .i64 kk] 23)
  obtain ⟨l, hl⟩ : ∃ ZZ, W2.heap.size = ZZ := ⟨_, rfl⟩
  obtain ⟨h, hh⟩ : ∃ ZZ, w3.heap.size = ZZ := ⟨_, rfl⟩
  obtain ⟨W6, hW6⟩ : ∃ ZZ, w3.alloc (.cells #[.int .i64 cc, .int .i64 kk] 23) = ZZ := ⟨_, rfl⟩
  rw [hW6, hl, hh] at H5
  have H6 : Hid (Blks w W6 [(h, #[.int .i64 cc, .int .i64 kk], 23), (l, #[.int .i64 Q.x, .int .i64 Q.y, .bool Q.far, .int .i64 R.x, .int .i64 R.y, .bool R.far], 30), (g + 1, #[.int .i64 cc, .int .i64 kk], 23), (g, #[.int .i64 0, .int .i64 0, .bool false], 30), (w.heap.size + 1, #[.int .i64 R.x, .int .i64 R.y, .bool R.far], 30), (w.heap.size, #[.int .i64 Q.x, .int .i64 Q.y, .bool Q.far], 30)]) := H5
  have L2 : Hid (g + 1 < l ∧ l < h) := hide ⟨by rw [← hl]; exact (H2.out.get 0 rfl).lt, by rw [← hh, ← hl]; exact ((H3.out.below hb).get 0 rfl).lt⟩
  clear hb H2 H3 H5 q0 q1 q2 r0 r1 r2 hW2 hg CO
  go_upto_region 3 with (fail)
  (try rw [hW6])
  (try rw [hh])
  clear hW6 hl hh
  have KS := fun W (hX : Blks w W [(h, #[.int .i64 cc, .int .i64 kk], 23), (l, #[.int .i64 Q.x, .int .i64 Q.y, .bool Q.far, .int .i64 R.x, .int .i64 R.y, .bool R.far], 30), (g + 1, #[.int .i64 cc, .int .i64 kk], 23), (g, #[.int .i64 0, .int .i64 0, .bool false], 30), (w.heap.size + 1, #[.int .i64 R.x, .int .i64 R.y, .bool R.far], 30), (w.heap.size, #[.int .i64 Q.x, .int .i64 Q.y, .bool Q.far], 30)]) => (show (W.cell? ⟨w.heap.size, 0, none⟩ = some (.int .i64 Q.x) ∧ W.cell? ⟨w.heap.size, 1, none⟩ = some (.int .i64 Q.y) ∧ W.cell? ⟨w.heap.size, 2, none⟩ = some (.bool Q.far)) ∧ (W.cell? ⟨w.heap.size + 1, 0, none⟩ = some (.int .i64 R.x) ∧ W.cell? ⟨w.heap.size + 1, 1, none⟩ = some (.int .i64 R.y) ∧ W.cell? ⟨w.heap.size + 1, 2, none⟩ = some (.bool R.far)) ∧ (W.cell? ⟨g, 0, none⟩ = some (.int .i64 0) ∧ W.cell? ⟨g, 1, none⟩ = some (.int .i64 0) ∧ W.cell? ⟨g, 2, none⟩ = some (.bool false)) ∧ (W.cell? ⟨g + 1, 0, none⟩ = some (.int .i64 cc) ∧ W.cell? ⟨g + 1, 1, none⟩ = some (.int .i64 kk)) ∧ (W.cell? ⟨h, 0, none⟩ = some (.int .i64 cc) ∧ W.cell? ⟨h, 1, none⟩ = some (.int .i64 kk)) from ⟨(hX.get 5 rfl).three, (hX.get 4 rfl).three, (hX.get 3 rfl).three, ⟨(hX.get 2 rfl).cell rfl, (hX.get 2 rfl).cell rfl⟩, (hX.get 0 rfl).cell rfl, (hX.get 0 rfl).cell rfl⟩)
  refine wp_region_P (fun W => (W.cell? ⟨w.heap.size, 0, none⟩ = some (.int .i64 Q.x) ∧ W.cell? ⟨w.heap.size, 1, none⟩ = some (.int .i64 Q.y) ∧ W.cell? ⟨w.heap.size, 2, none⟩ = some (.bool Q.far)) ∧ (W.cell? ⟨w.heap.size + 1, 0, none⟩ = some (.int .i64 R.x) ∧ W.cell? ⟨w.heap.size + 1, 1, none⟩ = some (.int .i64 R.y) ∧ W.cell? ⟨w.heap.size + 1, 2, none⟩ = some (.bool R.far)) ∧ (W.cell? ⟨g, 0, none⟩ = some (.int .i64 0) ∧ W.cell? ⟨g, 1, none⟩ = some (.int .i64 0) ∧ W.cell? ⟨g, 2, none⟩ = some (.bool false)) ∧ (W.cell? ⟨g + 1, 0, none⟩ = some (.int .i64 cc) ∧ W.cell? ⟨g + 1, 1, none⟩ = some (.int .i64 kk)) ∧ (W.cell? ⟨h, 0, none⟩ = some (.int .i64 cc) ∧ W.cell? ⟨h, 1, none⟩ = some (.int .i64 kk))) 30 (by rfl) (KS _ (H6.out.below (below_drewN (Below.refl _ _) 1))) ?_
  intro hS
  have H7 := hide (H6.out.below (below_drewN (Below.refl _ _) 1))
  refine wpAnyP_one 0 rfl (by kernel_rfl) (fun K hK => ?_)
  go_simp
  refine (CB _ H7.out.tab).out.mono ?_
  rintro e w7 ⟨rfl, hb⟩
  have H8 := hide (H7.out.below hb)
  clear hb hS
  have hS := KS _ H8.out
  refine hK.out _ _ (fun _ => hS) ?_
  clear hK K
  (try simp only [Act.put, List.setIfInBounds_toArray, List.set_cons_zero, List.set_cons_succ])
  refine wpAnyP_take 1 40 [1, 2, 7, 11, 17, 30] (v := ?_) rfl (by kernel_rfl) (by kernel_rfl) (by kernel_rfl) (by kernel_rfl) (by kernel_rfl) (by kernel_rfl) (by rfl) (fun _ _ _ h => h) (Or.inl ⟨by rfl, ?_⟩) hS ?_; rotate_left
  · (intro w hSw; (try dsimp only at hSw); go_simp; (try with_reducible rfl))
  (try simp only [List.setIfInBounds_toArray, List.set_cons_zero, List.set_cons_succ])
  refine wpAnyP_take 2 41 [2, 7, 11, 17, 30] (v := ?_) rfl (by kernel_rfl) (by kernel_rfl) (by kernel_rfl) (by kernel_rfl) (by kernel_rfl) (by kernel_rfl) (by rfl) (fun _ _ _ h => h) (Or.inl ⟨by rfl, ?_⟩) hS ?_; rotate_left
  · (intro w hSw; (try dsimp only at hSw); go_simp; (try with_reducible rfl))
  (try simp only [List.setIfInBounds_toArray, List.set_cons_zero, List.set_cons_succ])
  refine wpAnyP_take 3 42 [3, 5, 6, 7, 11, 17, 30] (v := ?_) rfl (by kernel_rfl) (by kernel_rfl) (by kernel_rfl) (by kernel_rfl) (by kernel_rfl) (by kernel_rfl) (by rfl) (fun _ _ _ h => h) (Or.inl ⟨by rfl, ?_⟩) hS ?_; rotate_left
  · (intro w hSw; (try dsimp only at hSw); go_simp; (try with_reducible rfl))
  (try simp only [List.setIfInBounds_toArray, List.set_cons_zero, List.set_cons_succ])
  refine wpAnyP_take 4 43 [4, 5, 6, 7, 11, 17, 30] (v := ?_) rfl (by kernel_rfl) (by kernel_rfl) (by kernel_rfl) (by kernel_rfl) (by kernel_rfl) (by kernel_rfl) (by rfl) (fun _ _ _ h => h) (Or.inl ⟨by rfl, ?_⟩) hS ?_; rotate_left
  · (intro w hSw; (try dsimp only at hSw); go_simp; (try with_reducible rfl))
  (try simp only [List.setIfInBounds_toArray, List.set_cons_zero, List.set_cons_succ])
  refine wpAnyP_take 5 44 [5, 6, 7, 11, 17, 30] (v := ?_) rfl (by kernel_rfl) (by kernel_rfl) (by kernel_rfl) (by kernel_rfl) (by kernel_rfl) (by kernel_rfl) (by rfl) (fun _ _ _ h => h) (Or.inl ⟨by rfl, ?_⟩) hS ?_; rotate_left
  · (intro w hSw; (try dsimp only at hSw); go_simp; (try with_reducible rfl))
  (try simp only [List.setIfInBounds_toArray, List.set_cons_zero, List.set_cons_succ])
  refine wpAnyP_take 6 45 [6, 7, 11, 17, 30] (v := ?_) rfl (by kernel_rfl) (by kernel_rfl) (by kernel_rfl) (by kernel_rfl) (by kernel_rfl) (by kernel_rfl) (by rfl) (fun _ _ _ h => h) (Or.inl ⟨by rfl, ?_⟩) hS ?_; rotate_left
  · (intro w hSw; (try dsimp only at hSw); go_simp; (try with_reducible rfl))
  (try simp only [List.setIfInBounds_toArray, List.set_cons_zero, List.set_cons_succ])
  refine wpAnyP_take 7 46 [7, 11, 17, 30] (v := ?_) rfl (by kernel_rfl) (by kernel_rfl) (by kernel_rfl) (by kernel_rfl) (by kernel_rfl) (by kernel_rfl) (by rfl) (fun _ _ _ h => h) (Or.inl ⟨by rfl, ?_⟩) hS ?_; rotate_left
  · (intro w hSw; (try dsimp only at hSw); go_simp; (try with_reducible rfl))
  (try simp only [List.setIfInBounds_toArray, List.set_cons_zero, List.set_cons_succ])
  refine wpAnyP_take 8 47 [8, 9, 10, 11, 17, 30] (v := ?_) rfl (by kernel_rfl) (by kernel_rfl) (by kernel_rfl) (by kernel_rfl) (by kernel_rfl) (by kernel_rfl) (by rfl) (fun _ _ _ h => h) (Or.inl ⟨by rfl, ?_⟩) hS ?_; rotate_left
  · (intro w hSw; (try dsimp only at hSw); go_simp; (try with_reducible rfl))
  (try simp only [List.setIfInBounds_toArray, List.set_cons_zero, List.set_cons_succ])
  refine wpAnyP_take 9 48 [9, 10, 11, 17, 30] (v := ?_) rfl (by kernel_rfl) (by kernel_rfl) (by kernel_rfl) (by kernel_rfl) (by kernel_rfl) (by kernel_rfl) (by rfl) (fun _ _ _ h => h) (Or.inl ⟨by rfl, ?_⟩) hS ?_; rotate_left
  · (intro w hSw; (try dsimp only at hSw); go_simp; (try with_reducible rfl))
  (try simp only [List.setIfInBounds_toArray, List.set_cons_zero, List.set_cons_succ])
  refine wpAnyP_take 10 49 [10, 11, 17, 30] (v := ?_) rfl (by kernel_rfl) (by kernel_rfl) (by kernel_rfl) (by kernel_rfl) (by kernel_rfl) (by kernel_rfl) (by rfl) (fun _ _ _ h => h) (Or.inl ⟨by rfl, ?_⟩) hS ?_; rotate_left
  · (intro w hSw; (try dsimp only at hSw); go_simp; (try with_reducible rfl))
  (try simp only [List.setIfInBounds_toArray, List.set_cons_zero, List.set_cons_succ])
  refine wpAnyP_take 11 50 [11, 17, 30] (v := ?_) rfl (by kernel_rfl) (by kernel_rfl) (by kernel_rfl) (by kernel_rfl) (by kernel_rfl) (by kernel_rfl) (by rfl) (fun _ _ _ h => h) (Or.inl ⟨by rfl, ?_⟩) hS ?_; rotate_left
  · (intro w hSw; (try dsimp only at hSw); go_simp; (try with_reducible rfl))
  (try simp only [List.setIfInBounds_toArray, List.set_cons_zero, List.set_cons_succ])
  refine wpAnyP_take 12 51 [12, 14, 15, 16, 17, 30] (v := ?_) rfl (by kernel_rfl) (by kernel_rfl) (by kernel_rfl) (by kernel_rfl) (by kernel_rfl) (by kernel_rfl) (by rfl) (fun _ _ _ h => h) (Or.inl ⟨by rfl, ?_⟩) hS ?_; rotate_left
  · (intro w hSw; (try dsimp only at hSw); go_simp; (try with_reducible rfl))
  (try simp only [List.setIfInBounds_toArray, List.set_cons_zero, List.set_cons_succ])
  refine wpAnyP_take 13 52 [13, 14, 15, 16, 17, 30] (v := ?_) rfl (by kernel_rfl) (by kernel_rfl) (by kernel_rfl) (by kernel_rfl) (by kernel_rfl) (by kernel_rfl) (by rfl) (fun _ _ _ h => h) (Or.inl ⟨by rfl, ?_⟩) hS ?_; rotate_left
  · (intro w hSw; (try dsimp only at hSw); go_simp; (try with_reducible rfl))
  (try simp only [List.setIfInBounds_toArray, List.set_cons_zero, List.set_cons_succ])
  refine wpAnyP_take 14 53 [14, 15, 16, 17, 30] (v := ?_) rfl (by kernel_rfl) (by kernel_rfl) (by kernel_rfl) (by kernel_rfl) (by kernel_rfl) (by kernel_rfl) (by rfl) (fun _ _ _ h => h) (Or.inl ⟨by rfl, ?_⟩) hS ?_; rotate_left
  · (intro w hSw; (try dsimp only at hSw); go_simp; (try with_reducible rfl))
  (try simp only [List.setIfInBounds_toArray, List.set_cons_zero, List.set_cons_succ])
  refine wpAnyP_take 15 54 [15, 16, 17, 30] (v := ?_) rfl (by kernel_rfl) (by kernel_rfl) (by kernel_rfl) (by kernel_rfl) (by kernel_rfl) (by kernel_rfl) (by rfl) (fun _ _ _ h => h) (Or.inl ⟨by rfl, ?_⟩) hS ?_; rotate_left
  · (intro w hSw; (try dsimp only at hSw); go_simp; (try with_reducible rfl))
  (try simp only [List.setIfInBounds_toArray, List.set_cons_zero, List.set_cons_succ])
  refine wpAnyP_take 16 55 [16, 17, 30] (v := ?_) rfl (by kernel_rfl) (by kernel_rfl) (by kernel_rfl) (by kernel_rfl) (by kernel_rfl) (by kernel_rfl) (by rfl) (fun _ _ _ h => h) (Or.inl ⟨by rfl, ?_⟩) hS ?_; rotate_left
  · (intro w hSw; (try dsimp only at hSw); go_simp; (try with_reducible rfl))
  (try simp only [List.setIfInBounds_toArray, List.set_cons_zero, List.set_cons_succ])
  refine wpAnyP_take 17 56 [17, 30] (v := ?_) rfl (by kernel_rfl) (by kernel_rfl) (by kernel_rfl) (by kernel_rfl) (by kernel_rfl) (by kernel_rfl) (by rfl) (fun _ _ _ h => h) (Or.inl ⟨by rfl, ?_⟩) hS ?_; rotate_left
  · (intro w hSw; (try dsimp only at hSw); go_simp; (try with_reducible rfl))
  (try simp only [List.setIfInBounds_toArray, List.set_cons_zero, List.set_cons_succ])
  refine wpAnyP_take 18 57 [18, 19, 20, 21, 29, 30] (v := ?_) rfl (by kernel_rfl) (by kernel_rfl) (by kernel_rfl) (by kernel_rfl) (by kernel_rfl) (by kernel_rfl) (by rfl) (fun _ _ _ h => h) (Or.inl ⟨by rfl, ?_⟩) hS ?_; rotate_left
  · (intro w hSw; (try dsimp only at hSw); go_simp; (try with_reducible rfl))
  (try simp only [List.setIfInBounds_toArray, List.set_cons_zero, List.set_cons_succ])
  refine wpAnyP_take 19 58 [19, 20, 21, 29, 30] (v := ?_) rfl (by kernel_rfl) (by kernel_rfl) (by kernel_rfl) (by kernel_rfl) (by kernel_rfl) (by kernel_rfl) (by rfl) (fun _ _ _ h => h) (Or.inl ⟨by rfl, ?_⟩) hS ?_; rotate_left
  · (intro w hSw; (try dsimp only at hSw); go_simp; (try with_reducible rfl))
  (try simp only [List.setIfInBounds_toArray, List.set_cons_zero, List.set_cons_succ])
  refine wpAnyP_take 20 59 [20, 21, 29, 30] (v := ?_) rfl (by kernel_rfl) (by kernel_rfl) (by kernel_rfl) (by kernel_rfl) (by kernel_rfl) (by kernel_rfl) (by rfl) (fun _ _ _ h => h) (Or.inl ⟨by rfl, ?_⟩) hS ?_; rotate_left
  · (intro w hSw; (try dsimp only at hSw); go_simp; (try with_reducible rfl))
  (try simp only [List.setIfInBounds_toArray, List.set_cons_zero, List.set_cons_succ])
  refine wpAnyP_take 21 60 [21, 29, 30] (v := ?_) rfl (by kernel_rfl) (by kernel_rfl) (by kernel_rfl) (by kernel_rfl) (by kernel_rfl) (by kernel_rfl) (by rfl) (fun _ _ _ h => h) (Or.inl ⟨by rfl, ?_⟩) hS ?_; rotate_left
  · (intro w hSw; (try dsimp only at hSw); go_simp; (try with_reducible rfl))
  (try simp only [List.setIfInBounds_toArray, List.set_cons_zero, List.set_cons_succ])
  refine wpAnyP_take 22 61 [22, 28, 29, 30] (v := undef) rfl (by kernel_rfl) (by kernel_rfl) (by kernel_rfl) (by kernel_rfl) (by kernel_rfl) (by kernel_rfl) (by rfl) (fun _ _ _ h => h) (Or.inr ⟨by rfl, rfl⟩) hS ?_
  (try simp only [List.setIfInBounds_toArray, List.set_cons_zero, List.set_cons_succ])
  refine wpAnyP_take 23 62 [23, 27, 28, 29, 30] (v := undef) rfl (by kernel_rfl) (by kernel_rfl) (by kernel_rfl) (by kernel_rfl) (by kernel_rfl) (by kernel_rfl) (by rfl) (fun _ _ _ h => h) (Or.inr ⟨by rfl, rfl⟩) hS ?_
  (try simp only [List.setIfInBounds_toArray, List.set_cons_zero, List.set_cons_succ])
  refine wpAnyP_take 24 63 [24, 27, 28, 29, 30] (v := undef) rfl (by kernel_rfl) (by kernel_rfl) (by kernel_rfl) (by kernel_rfl) (by kernel_rfl) (by kernel_rfl) (by rfl) (fun _ _ _ h => h) (Or.inr ⟨by rfl, rfl⟩) hS ?_
  (try simp only [List.setIfInBounds_toArray, List.set_cons_zero, List.set_cons_succ])
  refine wpAnyP_take 25 64 [25, 27, 28, 29, 30] (v := undef) rfl (by kernel_rfl) (by kernel_rfl) (by kernel_rfl) (by kernel_rfl) (by kernel_rfl) (by kernel_rfl) (by rfl) (fun _ _ _ h => h) (Or.inr ⟨by rfl, rfl⟩) hS ?_
  (try simp only [List.setIfInBounds_toArray, List.set_cons_zero, List.set_cons_succ])
  refine wpAnyP_take 26 65 [26, 27, 28, 29, 30] (v := undef) rfl (by kernel_rfl) (by kernel_rfl) (by kernel_rfl) (by kernel_rfl) (by kernel_rfl) (by kernel_rfl) (by rfl) (fun _ _ _ h => h) (Or.inr ⟨by rfl, rfl⟩) hS ?_
  (try simp only [List.setIfInBounds_toArray, List.set_cons_zero, List.set_cons_succ])
  refine wpAnyP_take 27 66 [27, 28, 29, 30] (v := undef) rfl (by kernel_rfl) (by kernel_rfl) (by kernel_rfl) (by kernel_rfl) (by kernel_rfl) (by kernel_rfl) (by rfl) (fun _ _ _ h => h) (Or.inr ⟨by rfl, rfl⟩) hS ?_
  (try simp only [List.setIfInBounds_toArray, List.set_cons_zero, List.set_cons_succ])
  refine wpAnyP_take 28 67 [28, 29, 30] (v := undef) rfl (by kernel_rfl) (by kernel_rfl) (by kernel_rfl) (by kernel_rfl) (by kernel_rfl) (by kernel_rfl) (by rfl) (fun _ _ _ h => h) (Or.inr ⟨by rfl, rfl⟩) hS ?_
  (try simp only [List.setIfInBounds_toArray, List.set_cons_zero, List.set_cons_succ])
  refine wpAnyP_take 29 68 [29, 30] (v := ?_) rfl (by kernel_rfl) (by kernel_rfl) (by kernel_rfl) (by kernel_rfl) (by kernel_rfl) (by kernel_rfl) (by rfl) (fun _ _ _ h => h) (Or.inl ⟨by rfl, ?_⟩) hS ?_; rotate_left
  · (intro w hSw; (try dsimp only at hSw); go_simp; (try with_reducible rfl))
  (try simp only [List.setIfInBounds_toArray, List.set_cons_zero, List.set_cons_succ])
  refine wpAnyP_one 30 rfl (by kernel_rfl) (fun K hK => ?_)
  go_simp
  refine hK.out _ _ (fun _ => hS) ?_
  clear hK K
  (try simp only [Act.put, List.setIfInBounds_toArray, List.set_cons_zero, List.set_cons_succ])
  refine wpAnyP_done (by kernel_rfl) ?_ _
  clear hS
  obtain ⟨q0, q1, q2⟩ := (H8.out.get 5 rfl).three
  go_wp2_with fail
  refine (CT _ H8.out.tab).out.mono ?_
  rintro e w9 ⟨rfl, hb⟩
  have H10 := hide ((H8.out.below hb).new #[.int .i64 Z.x, .int .i64 Z.y, .bool Z.far] 30)
  have L3 : Hid (h < w9.heap.size) := hide ((H8.out.below hb).get 0 rfl).lt
  clear hb CT q0 q1 q2
  have c0 := (H10.out.get 3 rfl).cell (i := 0) (v := .int .i64 cc) rfl
  have c1 := (H10.out.get 3 rfl).cell (i := 1) (v := .int .i64 kk) rfl
  have f0 := (H10.out.get 3 rfl).frozen 0
  have f1 := (H10.out.get 3 rfl).frozen 1
  have H11 := hide (H10.out.put2 3 rfl (by intro j e hj hji; have k1 := L1.out; have k2 := L2.out; have k3 := L3.out; match j, hj, hji with | 0, hj, _ => (injection hj with hj; subst hj; show (_ : Nat) ≠ _; omega) | 1, hj, _ => (injection hj with hj; subst hj; show (_ : Nat) ≠ _; omega) | 2, hj, _ => (injection hj with hj; subst hj; show (_ : Nat) ≠ _; omega) | 3, _, hji => exact absurd rfl hji | 4, hj, _ => (injection hj with hj; subst hj; show (_ : Nat) ≠ _; omega) | 5, hj, _ => (injection hj with hj; subst hj; show (_ : Nat) ≠ _; omega) | 6, hj, _ => (injection hj with hj; subst hj; show (_ : Nat) ≠ _; omega) | (q + 7), hj, _ => cases hj) (.int .i64 t) (.int .i64 t))
  obtain ⟨W10, hW10⟩ : ∃ ZZ, (((w9.alloc (.cells #[.int .i64 Z.x, .int .i64 Z.y, .bool Z.far] 30)).setCell ⟨g + 1, 0, none⟩ (.int .i64 t)).setCell ⟨g + 1, 1, none⟩ (.int .i64 t)) = ZZ := ⟨_, rfl⟩
  obtain ⟨z, hz⟩ : ∃ ZZ, w9.heap.size = ZZ := ⟨_, rfl⟩
  rw [hW10, hz] at H11
  rw [hz] at L3
  clear H10
  obtain ⟨q0, q1, q2⟩ := (H11.out.get 6 rfl).three
  go_wp2_with fail
  refine (CD _ H11.out.tab).out.mono ?_
  rintro e w11 ⟨o, rfl, ho, hb⟩
  have HO := hide ho
  have H12 := hide ((H11.out.below hb).new #[.int .i64 t, .int .i64 t] 23)
  have L4 : Hid (z < w11.heap.size) := hide ((H11.out.below hb).get 0 rfl).lt
  clear hb ho H11 CD q0 q1 q2 c0 c1 f0 f1 hW10 hz
  obtain ⟨W12, hW12⟩ : ∃ ZZ, w11.alloc (.cells #[.int .i64 t, .int .i64 t] 23) = ZZ := ⟨_, rfl⟩
  obtain ⟨y, hy⟩ : ∃ ZZ, w11.heap.size = ZZ := ⟨_, rfl⟩
  rw [hW12, hy] at H12
  obtain ⟨q0, q1, q2⟩ := (H12.out.get 7 rfl).three
  go_wp2_with fail
  have H13 := hide (H12.out.new #[.int .i64 Q.x, .int .i64 Q.y, .bool Q.far] 30)
  refine (CO1 _).out.mono ?_
  rintro e w13 ⟨rfl, hb⟩
  have H14 := hide (H13.out.below hb)
  rw [hy] at L4
  have L5 : Hid (y < W12.heap.size) := hide (H12.out.get 0 rfl).lt
  clear hb H13 H12 CO1 q0 q1 q2 hW12 hy
  have c0 := (H14.out.get 3 rfl).cell (i := 0) (v := .int .i64 cc) rfl
  have c1 := (H14.out.get 3 rfl).cell (i := 1) (v := .int .i64 kk) rfl
  have f0 := (H14.out.get 3 rfl).frozen 0
  have f1 := (H14.out.get 3 rfl).frozen 1
  have H15 := hide (H14.out.put2 3 rfl (by intro j e hj hji; have k1 := L1.out; have k2 := L2.out; have k3 := L3.out; have k4 := L4.out; have k5 := L5.out; match j, hj, hji with | 0, hj, _ => (injection hj with hj; subst hj; show (_ : Nat) ≠ _; omega) | 1, hj, _ => (injection hj with hj; subst hj; show (_ : Nat) ≠ _; omega) | 2, hj, _ => (injection hj with hj; subst hj; show (_ : Nat) ≠ _; omega) | 3, _, hji => exact absurd rfl hji | 4, hj, _ => (injection hj with hj; subst hj; show (_ : Nat) ≠ _; omega) | 5, hj, _ => (injection hj with hj; subst hj; show (_ : Nat) ≠ _; omega) | 6, hj, _ => (injection hj with hj; subst hj; show (_ : Nat) ≠ _; omega) | 7, hj, _ => (injection hj with hj; subst hj; show (_ : Nat) ≠ _; omega) | 8, hj, _ => (injection hj with hj; subst hj; show (_ : Nat) ≠ _; omega) | (q + 9), hj, _ => cases hj) (.int .i64 t) (.int .i64 t))
  obtain ⟨W14, hW14⟩ : ∃ ZZ, ((w13.setCell ⟨h, 0, none⟩ (.int .i64 t)).setCell ⟨h, 1, none⟩ (.int .i64 t)) = ZZ := ⟨_, rfl⟩
  rw [hW14] at H15
  have d0 := (H15.out.get 3 rfl).cell (i := 0) (v := .int .i64 t) rfl
  have d1 := (H15.out.get 3 rfl).cell (i := 1) (v := .int .i64 t) rfl
  have H16 := hide (H15.out.new #[.int .i64 t, .int .i64 t] 23)
  obtain ⟨W15, hW15⟩ : ∃ ZZ, W14.alloc (.cells #[.int .i64 t, .int .i64 t] 23) = ZZ := ⟨_, rfl⟩
  obtain ⟨v, hv⟩ : ∃ ZZ, W14.heap.size = ZZ := ⟨_, rfl⟩
  rw [hW15, hv] at H16
  clear H14 H15
  have j0 := (H16.out.get 4 rfl).cell (i := 0) (v := .int .i64 t) rfl
  have j1 := (H16.out.get 4 rfl).cell (i := 1) (v := .int .i64 t) rfl
  have k0 := (H16.out.get 6 rfl).cell (i := 0) (v := .int .i64 t) rfl
  have k1 := (H16.out.get 6 rfl).cell (i := 1) (v := .int .i64 t) rfl
  have m0 := (H16.out.get 2 rfl).cell (i := 0) (v := .int .i64 t) rfl
  have m1 := (H16.out.get 2 rfl).cell (i := 1) (v := .int .i64 t) rfl
  have n0 := (H16.out.get 0 rfl).cell (i := 0) (v := .int .i64 t) rfl
  have n1 := (H16.out.get 0 rfl).cell (i := 1) (v := .int .i64 t) rfl
  obtain ⟨q0, q1, q2⟩ := (H16.out.get 9 rfl).three
  go_wp2_with fail
  refine (CN _).out.mono ?_
  rintro e w16 ⟨rfl, rfl⟩
  go_wp2_with fail
  refine (CK _ H16.out.tab).out.mono ?_
  rintro e w17 ⟨k, rfl, hk, hb⟩
  obtain rfl : k = o := hk.one HO.out
  have H17 := hide (H16.out.below hb)
  clear hb hk H16 CK CN c0 c1 f0 f1 d0 d1 hW14 hW15 hv j0 j1 k0 k1 m0 m1 n0 n1 q0 q1 q2
  have j0 := (H17.out.get 4 rfl).cell (i := 0) (v := .int .i64 t) rfl
  obtain ⟨K, hK⟩ : ∃ K : Int, (k : Int) = K := ⟨_, rfl⟩
  rw [hK]
  have HK := hide hK
  clear hK
  have H18 := hide (H17.out.new #[.int .i64 0, .int .i64 0, .bool true] 30)
  obtain ⟨W18, hW18⟩ : ∃ ZZ, w17.alloc (.cells #[.int .i64 0, .int .i64 0, .bool true] 30) = ZZ := ⟨_, rfl⟩
  obtain ⟨u, hu⟩ : ∃ ZZ, w17.heap.size = ZZ := ⟨_, rfl⟩
  rw [hW18, hu] at H18
  obtain ⟨m, hm⟩ : ∃ m : Nat, n % K = (m : Int) := ⟨(n % K).toNat, by have := HO.out.1; have := HK.out; have := Int.emod_nonneg n (show K ≠ 0 by omega); omega⟩
  have CL := fun W => hide (left_ref n K W (by have := HO.out.1; have := HK.out; omega) (by have := ord_le HOQ.out.1 HOQ.out.2 HO.out; have := pts_le HOQ.out.1; have := HK.out; omega) (by have := HNR.out; omega) (by have := HNR.out; omega))
  rw [hm] at CL
  have HE : Hid (mulC p a m Q = Z ∧ m ≤ 5000000) := hide (by
    have h1 := z_mod HOQ.out.1 HOQ.out.2 HO.out n
    have h2 := ord_le HOQ.out.1 HOQ.out.2 HO.out
    have h3 := pts_le HOQ.out.1
    have h4 := Int.emod_lt_of_pos n (show 0 < K by have := HO.out.1; have := HK.out; omega)
    have h5 := HK.out
    refine ⟨?_, by omega⟩
    rw [← HZ.out, h1, h5, hm]
    rfl)
  have HU : Hid (z < u ∧ w.heap.size < u) := hide ⟨by rw [← hu]; exact (H17.out.get 3 rfl).lt, by rw [← hu]; exact (H17.out.get 9 rfl).lt⟩
  have H19 : Hid (Blks w W18 [(u, #[.int .i64 (mulC p a 0 Q).x, .int .i64 (mulC p a 0 Q).y, .bool (mulC p a 0 Q).far], 30), (z, #[.int .i64 Z.x, .int .i64 Z.y, .bool Z.far], 30), (w.heap.size, #[.int .i64 Q.x, .int .i64 Q.y, .bool Q.far], 30)]) := hide (H18.out.sub (by simp [mulC, nm, farC]))
  go_wp2_with fail
  clear hm H17 H18 j0 hW18 hu HK HNR HZ
  go_loopw [22] (fun iv wr => ∃ i : Nat, iv = .int .i64 i ∧ i ≤ m ∧ Hid (Blks w wr [(u, #[.int .i64 (mulC p a i Q).x, .int .i64 (mulC p a i Q).y, .bool (mulC p a i Q).far], 30), (z, #[.int .i64 Z.x, .int .i64 Z.y, .bool Z.far], 30), (w.heap.size, #[.int .i64 Q.x, .int .i64 Q.y, .bool Q.far], 30)])) (fun iv _ => 5000001 - (intOf iv).toNat)
  case atStart => exact ⟨0, rfl, by omega, H19⟩
  case round =>
    clear H19
    obtain ⟨i, rfl, hi, HB⟩ := hrel
    by_cases him : i < m
    · have CA := HCA.out i
      obtain ⟨A, hA⟩ : ∃ A, mulC p a i Q = A := ⟨_, rfl⟩
      obtain ⟨A2, hA2⟩ : ∃ A, mulC p a (i + 1) Q = A := ⟨_, rfl⟩
      have HA2 := hide hA2
      rw [hA, hA2] at CA
      rw [hA] at HB
      clear hA hA2 HCA
      obtain ⟨a0, a1, a2⟩ := (HB.out.get 0 rfl).three
      obtain ⟨q0, q1, q2⟩ := (HB.out.get 2 rfl).three
      have w1 : IntKind.i64.wrap ((i : Int) + 1) = ((i + 1 : Nat) : Int) := by have := HE.out.2; rw [IntKind.wrap_i64]; omega
      have qq : (i : Int) < (m : Int) := by omega
      go_wp2_with fail
      refine (CL _).out.mono ?_
      rintro e w20 ⟨rfl, rfl⟩
      go_wp2_with fail
      refine (CA _ HB.out.tab).out.mono ?_
      rintro e w21 ⟨rfl, hb⟩
      have HB2 := hide (HB.out.below hb)
      clear hb HB a0 a1 a2 q0 q1 q2 CA
      obtain ⟨a0, a1, a2⟩ := (HB2.out.get 0 rfl).three
      have f0 := (HB2.out.get 0 rfl).frozen 0
      have f1 := (HB2.out.get 0 rfl).frozen 1
      have f2 := (HB2.out.get 0 rfl).frozen 2
      have HB3 := hide (HB2.out.put3 (by have := HU.out; simp; omega) (.int .i64 A2.x) (.int .i64 A2.y) (.bool A2.far))
      clear HB2
      go_wp2_with fail
      clear a0 a1 a2 f0 f1 f2
      go_roundw
      case rel => exact ⟨i + 1, by go_num, by omega, by rw [HA2.out]; exact HB3⟩
      case measure => simp [intOf]; have := HE.out.2; omega
    · obtain rfl : i = m := by omega
      rw [HE.out.1] at HB
      obtain ⟨a0, a1, a2⟩ := (HB.out.get 0 rfl).three
      obtain ⟨z0, z1, z2⟩ := (HB.out.get 1 rfl).three
      clear HCA
      go_wp2_with fail
      refine (CL _).out.mono ?_
      rintro e w20 ⟨rfl, rfl⟩
      go_wp2_with fail
      go_ret
      exact ⟨rfl, HB.out.b⟩
end Go.Proofs.YtonclhchbgmaiaaGreatDoor
