/- The walks of the document's Legendre and of curve.Points (printed by gen_hase.py). -/
import Derived.Test.YtofjmnodfabohaaGreatDoorKCurvY
import Derived.Test.YtofjmnodfabohaaGreatDoorKCurvW
import Derived.Test.YtofjmnodfabohaaGreatDoorK2
namespace Go.Proofs.YtofjmnodfabohaaGreatDoor
open Go.RowKit
open CV

theorem lookC_nil (p a b : Int) : lookC p a b [] = chkC p a b := by
  by_cases h : (chkC p a b).1 = 0
  · have h1 := (chk_zero h).chk
    unfold lookC
    rw [h1, if_neg (by simp)]
    rfl
  · unfold lookC
    rw [if_pos h]

set_option maxRecDepth 100000 in
set_option maxHeartbeats 6400000 in
theorem Points_bad (p a b : Int) (w : World) (hT : TabW w) (c k : Int) (hchk : chkC p a b = (c, k)) (hc : c ≠ 0) :
    Calls Tryz.prog 7 #[.int .i64 p, .int .i64 a, .int .i64 b] w fun e w' => e = .returned (.tuple #[.slice none 0 0, fv (c, k)]) ∧ Below w.heap.size w w' := by
  have hlk : lookC p a b [] = (c, k) := by rw [lookC_nil, hchk]
  have q1 : (c != 0) = true := by simpa using hc
  have HC := hide hc
  have H0 : Hid (Blks w w []) := hide ⟨Below.refl _ _, hT, by simp, by simp⟩
  have H1 := hide (H0.out.new #[.int .i64 0, .int .i64 0] 23)
  obtain ⟨W4, hW4⟩ : ∃ ZZ, w.alloc (.cells #[.int .i64 0, .int .i64 0] 23) = ZZ := ⟨_, rfl⟩
  rw [hW4] at H1
  have CL := hide (clook_any p a b (.slice none 0 0) [] W4 H1.out.tab (.inl ⟨rfl, rfl⟩) (by simp))
  rw [hlk] at CL
  clear hT hlk hchk hc
  go_enter Tryz.func7, Tryz.ntmps7
  go_upto_region 1 with (fail)
  (try rw [hW4])
  clear hW4
  go_wp2_with fail
  refine CL.out.mono ?_
  rintro e w1 ⟨rfl, hb⟩
  rw [if_neg HC.out]
  unfold cvv fv
  have H3 := hide ((H1.out.below hb).two #[.int .i64 0, .int .i64 0, .int .i64 0] 36 #[.int .i64 c, .int .i64 k] 23)
  clear hb CL H1 H0
  go_upto_region 2 with (fail)
  obtain ⟨W5, hW5⟩ : ∃ Z, ((w1.alloc (.cells #[.int .i64 0, .int .i64 0, .int .i64 0] 36)).alloc (.cells #[.int .i64 c, .int .i64 k] 23)) = Z := ⟨_, rfl⟩
  obtain ⟨g, hg⟩ : ∃ Z, w1.heap.size = Z := ⟨_, rfl⟩
  rw [hW5, hg] at H3
  rw [hW5]
  (try rw [hg])
  clear hW5 hg
  have f0 := (H3.out.get 0 rfl).cell (i := 0) (v := .int .i64 c) rfl
  go_upto_region 3 with (fail)
  clear f0
  have HX := hide (H3.out.below (below_drewN (Below.refl _ _) 1))
  obtain ⟨W6, hW6⟩ : ∃ ZZ, W5.drewN 1 = ZZ := ⟨_, rfl⟩
  rw [hW6] at HX
  have KS := fun W (hX : Blks w W [(g + 1, #[.int .i64 c, .int .i64 k], 23), (g, #[.int .i64 0, .int .i64 0, .int .i64 0], 36), (w.heap.size, #[.int .i64 0, .int .i64 0], 23)]) => (show ((W.cell? ⟨g + 1, 0, none⟩ = some (.int .i64 c) ∧ W.cell? ⟨g + 1, 1, none⟩ = some (.int .i64 k)) ∧ (W.cell? ⟨g, 0, none⟩ = some (.int .i64 0) ∧ W.cell? ⟨g, 1, none⟩ = some (.int .i64 0) ∧ W.cell? ⟨g, 2, none⟩ = some (.int .i64 0))) from ⟨⟨(hX.get 0 rfl).cell rfl, (hX.get 0 rfl).cell rfl⟩, (hX.get 1 rfl).three⟩)
  have hS0 := KS _ HX.out
  have HW6 : Hid (W5.drew = W6) := hide hW6
  refine wp_region_P (fun W => ((W.cell? ⟨g + 1, 0, none⟩ = some (.int .i64 c) ∧ W.cell? ⟨g + 1, 1, none⟩ = some (.int .i64 k)) ∧ (W.cell? ⟨g, 0, none⟩ = some (.int .i64 0) ∧ W.cell? ⟨g, 1, none⟩ = some (.int .i64 0) ∧ W.cell? ⟨g, 2, none⟩ = some (.int .i64 0)))) 2 (by rfl) (by rw [HW6.out]; exact hS0) ?_
  rw [HW6.out]
  clear hS0 HW6 hW6
  intro hS
  refine wpAnyP_take 0 20 [0, 2] (v := ?_) rfl (by kernel_rfl) (by kernel_rfl) (by kernel_rfl) (by kernel_rfl) (by kernel_rfl) (by kernel_rfl) (by rfl) (fun _ _ _ h => h) (Or.inl ⟨by rfl, ?_⟩) hS ?_; rotate_left
  · (intro w hSw; (try dsimp only at hSw); go_simp; (try with_reducible rfl))
  (try simp only [List.setIfInBounds_toArray, List.set_cons_zero, List.set_cons_succ])
  refine wpAnyP_take 1 6 [1, 2] (v := ?_) rfl (by kernel_rfl) (by kernel_rfl) (by kernel_rfl) (by kernel_rfl) (by kernel_rfl) (by kernel_rfl) (by rfl) (fun _ _ _ h => h) (Or.inl ⟨by rfl, ?_⟩) hS ?_; rotate_left
  · (intro w hSw; (try dsimp only at hSw); go_simp; (try with_reducible rfl))
  (try simp only [List.setIfInBounds_toArray, List.set_cons_zero, List.set_cons_succ])
  obtain ⟨s0, s1, y0, y1⟩ := FC.cells (HX.out.get 2 rfl : KB _ _ _ _)
  refine wpAnyP_one 2 rfl (by kernel_rfl) (fun K hK => ?_)
  go_simp
  refine hK.out _ _ (fun h => by simp at h) ?_
  clear hK K
  (try simp only [Act.put, List.setIfInBounds_toArray, List.set_cons_zero, List.set_cons_succ])
  refine wpAnyP_done (by kernel_rfl) ?_ _
  have HB := hide (below_fault (u := .int .i64 c) (v := .int .i64 k) HX.out.b (Nat.le_refl _))
  obtain ⟨p0, p1⟩ := FC.put (HX.out.get 2 rfl : KB _ _ _ _) c k
  clear s0 s1 y0 y1
  go_wp2_with fail
  exact bodyPost_ret (v := .tuple #[.slice none 0 0, fv (c, k)]) (by simp [results, Tryz.results7, go_sem, fv, p0, p1]) rfl ⟨rfl, HB.out⟩

set_option maxRecDepth 100000 in
set_option maxHeartbeats 6400000 in
theorem Points_ok (p : Nat) (a b : Int) (w : World) (hT : TabW w) (h : OkCv p a b) :
    Calls Tryz.prog 7 #[.int .i64 (p : Int), .int .i64 a, .int .i64 b] w fun e w' => ∃ v, e = .returned (.tuple #[v, fv (0, 0)]) ∧ PRowC w' w.heap.size v (ptsC p a b) ∧ Below w.heap.size w w' := by
  have hlk : lookC p a b [] = (0, 0) := by rw [lookC_nil, h.chk]
  have CPT := fun W => hide (points_any p a b W h)
  unfold cvv at CPT
  have H0 : Hid (Blks w w []) := hide ⟨Below.refl _ _, hT, by simp, by simp⟩
  have H1 := hide (H0.out.new #[.int .i64 0, .int .i64 0] 23)
  obtain ⟨W4, hW4⟩ : ∃ ZZ, w.alloc (.cells #[.int .i64 0, .int .i64 0] 23) = ZZ := ⟨_, rfl⟩
  rw [hW4] at H1
  have CL := hide (clook_any p a b (.slice none 0 0) [] W4 H1.out.tab (.inl ⟨rfl, rfl⟩) (by simp))
  rw [hlk] at CL
  clear hT hlk h
  go_enter Tryz.func7, Tryz.ntmps7
  go_upto_region 1 with (fail)
  (try rw [hW4])
  clear hW4
  go_wp2_with fail
  refine CL.out.mono ?_
  rintro e w1 ⟨rfl, hb⟩
  rw [if_pos rfl]
  unfold cvv fv
  have H3 := hide ((H1.out.below hb).two #[.int .i64 (p : Int), .int .i64 a, .int .i64 b] 36 #[.int .i64 0, .int .i64 0] 23)
  clear hb CL H1 H0
  go_upto_region 2 with (fail)
  obtain ⟨W5, hW5⟩ : ∃ Z, ((w1.alloc (.cells #[.int .i64 (p : Int), .int .i64 a, .int .i64 b] 36)).alloc (.cells #[.int .i64 0, .int .i64 0] 23)) = Z := ⟨_, rfl⟩
  obtain ⟨g, hg⟩ : ∃ Z, w1.heap.size = Z := ⟨_, rfl⟩
  rw [hW5, hg] at H3
  rw [hW5]
  (try rw [hg])
  clear hW5 hg
  have f0 := (H3.out.get 0 rfl).cell (i := 0) (v := .int .i64 0) rfl
  go_upto_region 4 with (fail)
  clear f0
  have HX := hide (H3.out.below (below_drewN (Below.refl _ _) 1))
  obtain ⟨W6, hW6⟩ : ∃ ZZ, W5.drewN 1 = ZZ := ⟨_, rfl⟩
  rw [hW6] at HX
  have KS := fun W (hX : Blks w W [(g + 1, #[.int .i64 0, .int .i64 0], 23), (g, #[.int .i64 (p : Int), .int .i64 a, .int .i64 b], 36), (w.heap.size, #[.int .i64 0, .int .i64 0], 23)]) => (show ((W.cell? ⟨g + 1, 0, none⟩ = some (.int .i64 0) ∧ W.cell? ⟨g + 1, 1, none⟩ = some (.int .i64 0)) ∧ (W.cell? ⟨g, 0, none⟩ = some (.int .i64 (p : Int)) ∧ W.cell? ⟨g, 1, none⟩ = some (.int .i64 a) ∧ W.cell? ⟨g, 2, none⟩ = some (.int .i64 b))) from ⟨⟨(hX.get 0 rfl).cell rfl, (hX.get 0 rfl).cell rfl⟩, (hX.get 1 rfl).three⟩)
  have hS0 := KS _ HX.out
  have HW6 : Hid (W5.drew = W6) := hide hW6
  refine wp_region_P (fun W => ((W.cell? ⟨g + 1, 0, none⟩ = some (.int .i64 0) ∧ W.cell? ⟨g + 1, 1, none⟩ = some (.int .i64 0)) ∧ (W.cell? ⟨g, 0, none⟩ = some (.int .i64 (p : Int)) ∧ W.cell? ⟨g, 1, none⟩ = some (.int .i64 a) ∧ W.cell? ⟨g, 2, none⟩ = some (.int .i64 b)))) 4 (by rfl) (by rw [HW6.out]; exact hS0) ?_
  rw [HW6.out]
  clear hS0 HW6 hW6
  intro hS
  refine wpAnyP_take 0 21 [0, 4] (v := ?_) rfl (by kernel_rfl) (by kernel_rfl) (by kernel_rfl) (by kernel_rfl) (by kernel_rfl) (by kernel_rfl) (by rfl) (fun _ _ _ h => h) (Or.inl ⟨by rfl, ?_⟩) hS ?_; rotate_left
  · (intro w hSw; (try dsimp only at hSw); go_simp; (try with_reducible rfl))
  (try simp only [List.setIfInBounds_toArray, List.set_cons_zero, List.set_cons_succ])
  refine wpAnyP_take 2 23 [2, 4] (v := ?_) rfl (by kernel_rfl) (by kernel_rfl) (by kernel_rfl) (by kernel_rfl) (by kernel_rfl) (by kernel_rfl) (by rfl) (fun _ _ _ h => h) (Or.inl ⟨by rfl, ?_⟩) hS ?_; rotate_left
  · (intro w hSw; (try dsimp only at hSw); go_simp; (try with_reducible rfl))
  (try simp only [List.setIfInBounds_toArray, List.set_cons_zero, List.set_cons_succ])
  refine wpAnyP_one 1 rfl (by kernel_rfl) (fun K hK => ?_)
  go_simp
  refine (CPT _).out.mono ?_
  rintro e w7 ⟨v, rfl, hrow, hb⟩
  have HX2 := hide (HX.out.below hb)
  have HR : Hid (PRowC ((w7.setCell ⟨w.heap.size, 0, none⟩ (.int .i64 0)).setCell ⟨w.heap.size, 1, none⟩ (.int .i64 0)) w.heap.size v (ptsC p a b)) := by
    have hl := (HX.out.get 2 rfl).lt
    have r1 := ownsRow_setCell_below hrow (a := ⟨w.heap.size, 0, none⟩) hl (.int .i64 0)
    have r2 := ownsRow_setCell_below r1 (a := ⟨w.heap.size, 1, none⟩) hl (.int .i64 0)
    exact hide (World.ownsRow.mono r2 (Nat.le_of_lt hl))
  clear hb hrow hS HX
  have hS := KS _ HX2.out
  refine hK.out _ _ (fun _ => hS) ?_
  clear hK K
  have HX := HX2
  clear HX2
  (try simp only [Act.put, List.setIfInBounds_toArray, List.set_cons_zero, List.set_cons_succ])
  refine wpAnyP_take 3 6 [3, 4] (v := ?_) rfl (by kernel_rfl) (by kernel_rfl) (by kernel_rfl) (by kernel_rfl) (by kernel_rfl) (by kernel_rfl) (by rfl) (fun _ _ _ h => h) (Or.inl ⟨by rfl, ?_⟩) hS ?_; rotate_left
  · (intro w hSw; (try dsimp only at hSw); go_simp; (try with_reducible rfl))
  (try simp only [List.setIfInBounds_toArray, List.set_cons_zero, List.set_cons_succ])
  obtain ⟨s0, s1, y0, y1⟩ := FC.cells (HX.out.get 2 rfl : KB _ _ _ _)
  refine wpAnyP_one 4 rfl (by kernel_rfl) (fun K hK => ?_)
  go_simp
  refine hK.out _ _ (fun h => by simp at h) ?_
  clear hK K
  (try simp only [Act.put, List.setIfInBounds_toArray, List.set_cons_zero, List.set_cons_succ])
  refine wpAnyP_done (by kernel_rfl) ?_ _
  have HB := hide (below_fault (u := .int .i64 0) (v := .int .i64 0) HX.out.b (Nat.le_refl _))
  obtain ⟨p0, p1⟩ := FC.put (HX.out.get 2 rfl : KB _ _ _ _) 0 0
  clear s0 s1 y0 y1
  go_wp2_with fail
  exact bodyPost_ret (v := .tuple #[v, fv (0, 0)]) (by simp [results, Tryz.results7, go_sem, fv, p0, p1]) rfl ⟨v, rfl, HR.out, HB.out⟩
end Go.Proofs.YtofjmnodfabohaaGreatDoor
