/- The walk of curve.Add where a fault comes. -/
import Derived.Test.YtonclhchbgmaiaaGreatDoorKCurvT
namespace Go.Proofs.YtonclhchbgmaiaaGreatDoor
open Go.RowKit
open CV

set_option maxRecDepth 100000 in
set_option maxHeartbeats 6400000 in
theorem Add_bad (p a b : Int) (P Q : CP) (w : World) (hT : TabW w) (c k : Int) (hlk : lookC p a b [P, Q] = (c, k)) (hc : c ≠ 0) :
    Calls Tryz.prog 12 #[.int .i64 p, .int .i64 a, .int .i64 b, ptv P, ptv Q] w (RetAdd w ⟨0, 0, false⟩ (c, k)) := by
  have q1 : (c != 0) = true := by simpa using hc
  have HC := hide hc
  obtain ⟨k1, k2, k3, k4, k5⟩ := ap_start w P Q
  obtain ⟨W4, hW4⟩ : ∃ Z, ((((w.alloc (.cells #[.int .i64 P.x, .int .i64 P.y, .bool P.far] 30)).alloc (.cells #[.int .i64 Q.x, .int .i64 Q.y, .bool Q.far] 30)).alloc (.cells #[.int .i64 0, .int .i64 0, .bool false] 30)).alloc (.cells #[.int .i64 0, .int .i64 0] 23)) = Z := ⟨_, rfl⟩
  rw [hW4] at k1 k2 k3 k4 k5
  have HK := hide (And.intro k1 (And.intro k2 (And.intro k3 (And.intro k4 k5))))
  have b4 := bel_x W4 (.cells #[.int .i64 P.x, .int .i64 P.y, .bool P.far, .int .i64 Q.x, .int .i64 Q.y, .bool Q.far] 30)
  have CL := hide (clook_any p a b (.slice (some ⟨W4.heap.size, 0, none⟩) 2 2) [P, Q] (W4.alloc (.cells #[.int .i64 P.x, .int .i64 P.y, .bool P.far, .int .i64 Q.x, .int .i64 Q.y, .bool Q.far] 30)) (hT.below (k5.trans (b4.mono k5.size))) (PtS.two P Q) (by simp))
  rw [hlk] at CL
  obtain ⟨u0, u1, u2⟩ := k1.three
  obtain ⟨v0, v1, v2⟩ := k2.three
  clear hT hlk hc k1 k2 k3 k4 k5 b4
  unfold ptv
  go_enter Tryz.func12, Tryz.ntmps12
  go_upto_region 1 with (fail)
  (try rw [hW4])
  clear hW4
  go_wp2_with fail
  refine CL.out.mono ?_
  rintro e w1 ⟨rfl, hb⟩
  rw [if_neg HC.out]
  unfold cvv fv
  have HM : Hid (ApM w ((w1.alloc (.cells #[.int .i64 0, .int .i64 0, .int .i64 0] 50)).alloc (.cells #[.int .i64 c, .int .i64 k] 23)) w1.heap.size 0 0 0 P Q c k) := by
    obtain ⟨k1, k2, k3, k4, k5⟩ := HK.out
    have b4 := bel_x W4 (.cells #[.int .i64 P.x, .int .i64 P.y, .bool P.far, .int .i64 Q.x, .int .i64 Q.y, .bool Q.far] 30)
    have b5 := b4.trans (hb.mono b4.size)
    have b6 := b5.trans ((bel_x w1 (.cells #[.int .i64 0, .int .i64 0, .int .i64 0] 50)).mono b5.size)
    have b7 := b6.trans ((bel_x (w1.alloc (.cells #[.int .i64 0, .int .i64 0, .int .i64 0] 50)) (.cells #[.int .i64 c, .int .i64 k] 23)).mono b6.size)
    have f := FC.made (w1.alloc (.cells #[.int .i64 0, .int .i64 0, .int .i64 0] 50)) c k
    rw [World.size_alloc] at f
    have hl := k4.lt
    have hs := b5.size
    exact hide ⟨k1.below b7, k2.below b7, k3.below b7, k4.below b7, (KB.made w1 _ _).below (bel_x _ _), f, by omega, k5.trans (b7.mono k5.size)⟩
  clear hb CL u0 u1 u2 v0 v1 v2
  go_upto_region 2 with (fail)
  obtain ⟨W5, hW5⟩ : ∃ Z, ((w1.alloc (.cells #[.int .i64 0, .int .i64 0, .int .i64 0] 50)).alloc (.cells #[.int .i64 c, .int .i64 k] 23)) = Z := ⟨_, rfl⟩
  obtain ⟨g, hg⟩ : ∃ Z, w1.heap.size = Z := ⟨_, rfl⟩
  rw [hW5, hg] at HM
  rw [hW5]
  (try rw [hg])
  clear hW5 hg HK
  obtain ⟨f0, f1, _, _⟩ := HM.out.f.cells
  go_upto_region 3 with (fail)
  have KS := fun W (h : ApS w W g 0 0 0 P Q c k) => (show W.cell? ⟨g + 1, 0, none⟩ = some (.int .i64 c) ∧ W.cell? ⟨g + 1, 1, none⟩ = some (.int .i64 k) from ⟨h.f.cells.1, h.f.cells.2.1⟩)
  have HM6 : Hid (ApM w W5.drew g 0 0 0 P Q c k) := hide (HM.out.below (below_drewN (Below.refl _ _) 1))
  clear f0 f1
  refine wp_region_P (fun W => W.cell? ⟨g + 1, 0, none⟩ = some (.int .i64 c) ∧ W.cell? ⟨g + 1, 1, none⟩ = some (.int .i64 k)) 3 (by rfl) (KS _ HM6.out.s') ?_
  intro hS
  generalize W5.drew = W6 at HM6 hS ⊢
  refine wpAnyP_take 0 27 [0, 3] (v := ?_) rfl (by kernel_rfl) (by kernel_rfl) (by kernel_rfl) (by kernel_rfl) (by kernel_rfl) (by kernel_rfl) (by rfl) (fun _ _ _ h => h) (Or.inl ⟨by rfl, ?_⟩) hS ?_; rotate_left
  · (intro w hSw; (try dsimp only at hSw); go_simp; (try with_reducible rfl))
  (try simp only [List.setIfInBounds_toArray, List.set_cons_zero, List.set_cons_succ])
  refine wpAnyP_take 1 28 [1, 3] (v := ?_) rfl (by kernel_rfl) (by kernel_rfl) (by kernel_rfl) (by kernel_rfl) (by kernel_rfl) (by kernel_rfl) (by rfl) (fun _ _ _ h => h) (Or.inl ⟨by rfl, ?_⟩) hS ?_; rotate_left
  · (intro w hSw; (try dsimp only at hSw); go_simp; (try with_reducible rfl))
  (try simp only [List.setIfInBounds_toArray, List.set_cons_zero, List.set_cons_succ])
  obtain ⟨r0, r1, r2⟩ := HM6.out.r.three
  have z0 := HM6.out.r.frozen 0
  have z1 := HM6.out.r.frozen 1
  have z2 := HM6.out.r.frozen 2
  obtain ⟨s0, s1, y0, y1⟩ := HM6.out.s.cells
  refine wpAnyP_one 2 rfl (by kernel_rfl) (fun K hK => ?_)
  go_simp
  refine hK.out _ _ (fun _ => KS _ (((HM6.out.s'.set 0 _).set 1 _).set 2 _)) ?_
  clear hK K hS
  (try simp only [Act.put, List.setIfInBounds_toArray, List.set_cons_zero, List.set_cons_succ])
  refine wpAnyP_one 3 rfl (by kernel_rfl) (fun K hK => ?_)
  go_simp
  refine hK.out _ _ (fun h => by simp at h) ?_
  clear hK K
  (try simp only [Act.put, List.setIfInBounds_toArray, List.set_cons_zero, List.set_cons_succ])
  refine wpAnyP_done (by kernel_rfl) ?_ _
  clear r0 r1 r2 z0 z1 z2 s0 s1 y0 y1
  obtain ⟨r1, r2, r3⟩ := ap_put HM6.out ⟨0, 0, false⟩ c k
  have HR3 := hide r3
  obtain ⟨p0, p1, _, _⟩ := r2.cells
  obtain ⟨t0, t1, t2⟩ := r1.three
  clear r1 r2 r3
  go_wp2_with fail
  exact bodyPost_ret (v := .tuple #[.agg #[.int .i64 0, .int .i64 0, .bool false], fv (c, k)]) (by simp [results, Tryz.results12, go_sem, fv, p0, p1, t0, t1, t2]) rfl ⟨rfl, HR3.out⟩

/-- Add's point -/
noncomputable def addR (p a b : Int) (P Q : CP) : CP := if (lookC p a b [P, Q]).1 = 0 then addC p.toNat a P Q else ⟨0, 0, false⟩
theorem lookC_zero {p a b : Int} {L : List CP} (h : (lookC p a b L).1 = 0) : OkCv p a b ∧ ∀ P ∈ L, okC p.toNat a b P := by
  unfold lookC at h
  split at h
  · exact absurd h (by assumption)
  · rename_i hc
    exact ⟨chk_zero (Classical.byContradiction hc), offP_zero h⟩
theorem Add_any (p a b : Int) (P Q : CP) (w : World) (hT : TabW w) :
    Calls Tryz.prog 12 #[.int .i64 p, .int .i64 a, .int .i64 b, ptv P, ptv Q] w (RetAdd w (addR p a b P Q) (lookC p a b [P, Q])) := by
  by_cases h : (lookC p a b [P, Q]).1 = 0
  · obtain ⟨h1, h2⟩ := lookC_zero h
    have hp := h1.p1
    obtain ⟨n, rfl⟩ : ∃ n : Nat, p = n := ⟨p.toNat, by omega⟩
    have hP := h2 P (by simp)
    have hQ := h2 Q (by simp)
    have hE : lookC n a b [P, Q] = (0, 0) := by
      unfold lookC
      rw [h1.chk, if_neg (by simp)]
      exact offP_ok h2
    have hA : addR n a b P Q = addC n a P Q := if_pos h
    rw [hE, hA]
    exact Add_ok n a b P Q w hT h1 hP hQ
  · have hA : addR p a b P Q = ⟨0, 0, false⟩ := if_neg h
    rw [hA]
    exact Add_bad p a b P Q w hT _ _ rfl h
end Go.Proofs.YtonclhchbgmaiaaGreatDoor
