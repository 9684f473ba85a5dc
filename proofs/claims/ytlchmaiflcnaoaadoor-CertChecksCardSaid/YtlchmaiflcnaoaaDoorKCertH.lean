/- The walks of cert.Make at 7 and of the law's examples. -/
import Derived.Test.YtlchmaiflcnaoaaDoorKCertG
import Derived.Test.YtlchmaiflcnaoaaDoorKPadA
namespace Go.Proofs.YtlchmaiflcnaoaaDoor
open Go.RowKit

theorem parts_told (N : Nat) (L : List Nat) (h1 : 1 ≤ N) (hN : N ≤ 1000000) (hL : Rise L) (hp : ∀ p ∈ L, Pr p) (hpr : prod L = N) (W : World) (hT : TabW W) :
    Calls Tryd.prog 36 #[.int .i64 (N : Nat)] W fun e w' => ∃ v, e = .returned v ∧ PRow w' W.heap.size v (grp L) ∧ Below W.heap.size W w' := by
  refine (parts_any N W h1 (by omega) hT).mono ?_
  rintro e w' ⟨v, S, rfl, hS, ht, hP, hb⟩
  obtain rfl := told_is (by omega) h1 hS ht hL hp hpr
  exact ⟨v, rfl, hP, hb⟩
theorem pr_two : Pr 2 := pr_chk (by omega) (by decide)
theorem pr_three : Pr 3 := pr_chk (by omega) (by decide)
theorem pr_seven : Pr 7 := pr_chk (by omega) (by decide)
theorem grow_three (w : World) (hT : TabW w) : Calls Tryd.prog 20 #[.int .i64 (3 : Nat)] w (RetGrow w 3) := by
  refine grow_any 3 2 2 [(2, 1)] (by omega) (by omega) rfl (by omega) (by omega) (by decide) (by decide) (fun W hW => ?_) (fun g h1 h2 => by omega) (by decide) (fun x hx W _ => ?_) w hT
  · have := parts_told 2 [2] (by omega) (by omega) ⟨by decide, trivial⟩ (by intro p hp; simp at hp; subst hp; exact pr_two) (by decide) W hW
    rwa [show grp [2] = [(2, 1)] by decide] at this
  · simp only [List.mem_singleton] at hx
    subst hx
    exact grow_two W
theorem grow_seven (w : World) (hT : TabW w) : Calls Tryd.prog 20 #[.int .i64 (7 : Nat)] w (RetGrow w 7) := by
  refine grow_any 7 6 3 [(2, 1), (3, 1)] (by omega) (by omega) rfl (by omega) (by omega) (by decide) (by decide) (fun W hW => ?_) (fun g h1 h2 => ?_) (by decide) (fun x hx W hW => ?_) w hT
  · have := parts_told 6 [2, 3] (by omega) (by omega) ⟨by decide, by decide, trivial⟩ (by intro p hp; simp at hp; rcases hp with rfl | rfl; exact pr_two; exact pr_three) (by decide) W hW
    rwa [show grp [2, 3] = [(2, 1), (3, 1)] by decide] at this
  · obtain rfl : g = 2 := by omega
    exact ⟨(2, 1), by simp, by decide⟩
  · simp only [List.mem_cons, List.not_mem_nil, or_false] at hx
    rcases hx with rfl | rfl
    · exact grow_two W
    · exact grow_three W hW

theorem fc_put {w : World} {g h : Nat} {a b : Int} (hf : FC w g a b) (hne : h ≠ g) (x y z : Value) : FC (((w.setCell ⟨h, 0, none⟩ x).setCell ⟨h, 1, none⟩ y).setCell ⟨h, 2, none⟩ z) g a b :=
  (Below.heap_setCell _ ⟨h, 2, none⟩ _ _ (fun e => hne e.symm)).trans ((Below.heap_setCell _ ⟨h, 1, none⟩ _ _ (fun e => hne e.symm)).trans ((Below.heap_setCell _ ⟨h, 0, none⟩ _ _ (fun e => hne e.symm)).trans hf))
theorem cb_fault {w : World} {g h : Nat} {n r : Int} {s : Value} (hc : CB w g n r s) (hne : h ≠ g) (x y : Value) : CB ((w.setCell ⟨h, 0, none⟩ x).setCell ⟨h, 1, none⟩ y) g n r s :=
  (Below.heap_setCell _ ⟨h, 1, none⟩ _ _ (fun e => hne e.symm)).trans ((Below.heap_setCell _ ⟨h, 0, none⟩ _ _ (fun e => hne e.symm)).trans hc)

set_option maxRecDepth 100000 in
set_option maxHeartbeats 3200000 in
theorem make_seven (w : World) (hT : TabW w) : Calls Tryd.prog 9 #[.int .i64 7] w fun e w' => (∃ (r : Int) (A : Option Addr) (k c : Nat), e = .returned (.tuple #[.agg #[.int .i64 7, .int .i64 r, .slice A k c], .agg #[.int .i64 0, .int .i64 0]])) ∧ Below w.heap.size w w' := by
  have CI := fun W (h : TabW W) => hide (Is_small 7 W (by omega) (by omega) h)
  rw [prB_true pr_seven] at CI
  simp only [fv] at CI
  have CG := fun W (h : TabW W) => hide (grow_seven W h)
  unfold RetGrow at CG
  have HTW := hide (fun W (k : Below w.heap.size w W) => hT.below k)
  have B1 := hide ((bel_o w (.cells #[.int .i64 0, .int .i64 0, .slice none 0 0] 24)).trans ((bel_o (w.alloc (.cells #[.int .i64 0, .int .i64 0, .slice none 0 0] 24)) (.cells #[.int .i64 0, .int .i64 0] 28)).mono (by simp)))
  have D1 := hide ((CB.made w 0 0 (.slice none 0 0)).below (bel_o _ (.cells #[.int .i64 0, .int .i64 0] 28)))
  have E1 := hide (ESt.start w 0 0 (.slice none 0 0)).e
  have C1 := hide (CI _ (HTW.out _ B1.out)).out
  clear hT CI
  go_enter Tryd.func9, Tryd.ntmps9
  go_wp2_with fail
  refine C1.out.mono ?_
  rintro e w2 ⟨rfl, hb⟩
  have hbo := bel_o w2 (.cells #[.int .i64 0, .int .i64 0] 28)
  have D5 := hide ((D1.out.below hb).below hbo)
  have E5 := hide ((E1.out.below hb).below hbo)
  have B5 := hide ((B1.out.trans (hb.mono B1.out.size)).trans (hbo.mono (Nat.le_trans B1.out.size hb.size)))
  have F5 := hide (FC.made w2 0 0)
  have HG : Hid (w.heap.size + 1 < w2.heap.size) := hide (E1.out.below hb).lt
  clear hb hbo C1 D1 E1 B1
  go_upto_region 6 with (fail)
  obtain ⟨W5, hW⟩ : ∃ Z, w2.alloc (.cells #[.int .i64 0, .int .i64 0] 28) = Z := ⟨_, rfl⟩
  rw [hW] at D5 E5 B5 F5
  (try rw [hW])
  obtain ⟨g5, hg5⟩ : ∃ g, w2.heap.size = g := ⟨_, rfl⟩
  rw [hg5] at F5 HG
  (try rw [hg5])
  clear hW hg5
  have HT5 := hide (HTW.out _ B5.out)
  have KS := fun W (h1 : FC W g5 0 0) (h2 : FC W (w.heap.size + 1) 0 0) => (show ((W.cell? ⟨g5, 0, none⟩ = some (.int .i64 0) ∧ W.cell? ⟨g5, 1, none⟩ = some (.int .i64 0)) ∧ (W.cell? ⟨w.heap.size + 1, 0, none⟩ = some (.int .i64 0) ∧ W.cell? ⟨w.heap.size + 1, 1, none⟩ = some (.int .i64 0) ∧ W.frozen? ⟨w.heap.size + 1, 0, none⟩ = false ∧ W.frozen? ⟨w.heap.size + 1, 1, none⟩ = false)) from ⟨⟨h1.cells.1, h1.cells.2.1⟩, h2.cells⟩)
  refine wp_region_P (fun W => (W.cell? ⟨g5, 0, none⟩ = some (.int .i64 0) ∧ W.cell? ⟨g5, 1, none⟩ = some (.int .i64 0)) ∧ (W.cell? ⟨w.heap.size + 1, 0, none⟩ = some (.int .i64 0) ∧ W.cell? ⟨w.heap.size + 1, 1, none⟩ = some (.int .i64 0) ∧ W.frozen? ⟨w.heap.size + 1, 0, none⟩ = false ∧ W.frozen? ⟨w.heap.size + 1, 1, none⟩ = false)) 4 (by rfl) ((KS _ F5.out E5.out)) ?_
  intro hS
  refine wpAnyP_take 0 20 [0, 4] (v := ?_) rfl (by kernel_rfl) (by kernel_rfl) (by kernel_rfl) (by kernel_rfl) (by kernel_rfl) (by kernel_rfl) (by rfl) (fun _ _ _ h => h) (Or.inl ⟨by rfl, ?_⟩) hS ?_; rotate_left
  · (intro w hSw; (try dsimp only at hSw); go_simp; (try with_reducible rfl))
  (try simp only [List.setIfInBounds_toArray, List.set_cons_zero, List.set_cons_succ])
  refine wpAnyP_take 2 22 [2, 4] (v := ?_) rfl (by kernel_rfl) (by kernel_rfl) (by kernel_rfl) (by kernel_rfl) (by kernel_rfl) (by kernel_rfl) (by rfl) (fun _ _ _ h => h) (Or.inl ⟨by rfl, ?_⟩) hS ?_; rotate_left
  · (intro w hSw; (try dsimp only at hSw); go_simp; (try with_reducible rfl))
  (try simp only [List.setIfInBounds_toArray, List.set_cons_zero, List.set_cons_succ])
  refine wpAnyP_one 1 rfl (by kernel_rfl) (fun K hK => ?_)
  go_simp
  refine (CG _ (HT5.out.drewN 1)).out.mono ?_
  rintro e w6 ⟨yr, yA, yn, yc, rfl, hb⟩
  have hb5 := (below_drewN (Below.refl W5.heap.size W5) 1).trans hb
  have F6 := hide (F5.out.below hb5)
  have E6 := hide (E5.out.below hb5)
  have D6 := hide (D5.out.below hb5)
  have B6 := hide (B5.out.trans (hb5.mono B5.out.size))
  clear hb hb5 hS
  have hS := KS _ F6.out E6.out
  obtain ⟨c0, c1, c2⟩ := D6.out.cells
  have z0 := D6.out.frozen 0
  have z1 := D6.out.frozen 1
  have z2 := D6.out.frozen 2
  refine hK.out _ _ (fun _ => hS) ?_
  clear hK K
  (try simp only [Act.put, List.setIfInBounds_toArray, List.set_cons_zero, List.set_cons_succ])
  refine wpAnyP_one 3 rfl (by kernel_rfl) (fun K hK => ?_)
  go_simp
  have D7 := hide (D6.out.put 7 yr (.slice yA yn yc))
  have B7 := hide (bel_put B6.out (Nat.le_refl w.heap.size) (.int .i64 7) (.int .i64 yr) (.slice yA yn yc))
  have hF7 : FC (((w6.setCell ⟨w.heap.size, 0, none⟩ (.int .i64 7)).setCell ⟨w.heap.size, 1, none⟩ (.int .i64 yr)).setCell ⟨w.heap.size, 2, none⟩ (.slice yA yn yc)) g5 0 0 := fc_put F6.out (by have := HG.out; omega) _ _ _
  have hE7 : FC (((w6.setCell ⟨w.heap.size, 0, none⟩ (.int .i64 7)).setCell ⟨w.heap.size, 1, none⟩ (.int .i64 yr)).setCell ⟨w.heap.size, 2, none⟩ (.slice yA yn yc)) (w.heap.size + 1) 0 0 := fc_put E6.out (by omega) _ _ _
  have F7 := hide hF7
  have E7 := hide hE7
  clear hF7 hE7 hS
  obtain ⟨W7, hW7⟩ : ∃ Z, ((w6.setCell ⟨w.heap.size, 0, none⟩ (.int .i64 7)).setCell ⟨w.heap.size, 1, none⟩ (.int .i64 yr)).setCell ⟨w.heap.size, 2, none⟩ (.slice yA yn yc) = Z := ⟨_, rfl⟩
  rw [hW7] at D7 B7 F7 E7
  (try rw [hW7])
  clear hW7 c0 c1 c2 z0 z1 z2
  have hS := KS _ F7.out E7.out
  refine hK.out _ _ (fun _ => hS) ?_
  clear hK K
  (try simp only [Act.put, List.setIfInBounds_toArray, List.set_cons_zero, List.set_cons_succ])
  refine wpAnyP_one 4 rfl (by kernel_rfl) (fun K hK => ?_)
  go_simp
  refine hK.out _ _ (fun h => by simp at h) ?_
  clear hK K
  (try simp only [Act.put, List.setIfInBounds_toArray])
  refine wpAnyP_done (by kernel_rfl) ?_ _
  have D8 := hide (cb_fault (h := w.heap.size + 1) D7.out (by omega) (.int .i64 0) (.int .i64 0))
  have E8 := hide ((E7.out.set0 0).set1 0)
  have B8 := hide ((B7.out.setCell (p := ⟨w.heap.size + 1, 0, none⟩) (Nat.le_succ _) (.int .i64 0)).setCell (p := ⟨w.heap.size + 1, 1, none⟩) (Nat.le_succ _) (.int .i64 0))
  clear hS D6 E6 F6 B6 D7 E7 F7 B7 D5 E5 F5 B5
  go_wp2_with fail
  obtain ⟨G0, G1, G2⟩ := D8.out.cells
  obtain ⟨G3, G4, _, _⟩ := E8.out.cells
  exact bodyPost_ret (v := .tuple #[.agg #[.int .i64 7, .int .i64 yr, .slice yA yn yc], .agg #[.int .i64 0, .int .i64 0]]) (by simp [results, Tryd.results9, go_sem, G0, G1, G2, G3, G4]) rfl ⟨⟨yr, yA, yn, yc, rfl⟩, B8.out⟩

theorem field_codeC (x y : Int) (w : World) : (Instr.field 28 (.agg #[.int .i64 x, .int .i64 y]) 0).run Tryd.prog w = .ok (.int .i64 x) w := by kernel_rfl
/-- the certificate of 7 -/
def tree7 : Tree := .mk 7 3 [.mk 2 0 [], .mk 3 2 [.mk 2 0 []]]
theorem strip_two : strip 2 6 = 3 := by
  rw [strip_step (by omega) (by omega) (by omega)]
  exact strip_end (by omega)
theorem strip_three : strip 3 3 = 1 := by
  rw [strip_step (by omega) (by omega) (by omega)]
  exact strip_end (by omega)
theorem strip_22 : strip 2 2 = 1 := by
  rw [strip_step (by omega) (by omega) (by omega)]
  exact strip_end (by omega)
theorem node7 : nodeF 7 3 [2, 3] = 0 := by
  rw [nodeF_mid (by omega) (by omega) (by omega) (by omega)]
  have : chkP 6 1 [2, 3] = true := by
    rw [chkP, if_neg (by decide)]
    show chkP (strip 2 6) 2 [3] = true
    rw [strip_two, chkP, if_neg (by decide)]
    show chkP (strip 3 3) 3 [] = true
    rw [strip_three, chkP]
    rfl
  rw [if_neg (by show ¬ chkP 6 1 [2, 3] = false; rw [this]; simp)]
  exact if_neg (by decide)
theorem node3 : nodeF 3 2 [2] = 0 := by
  rw [nodeF_mid (by omega) (by omega) (by omega) (by omega)]
  have : chkP 2 1 [2] = true := by
    rw [chkP, if_neg (by decide)]
    show chkP (strip 2 2) 2 [] = true
    rw [strip_22, chkP]
    rfl
  rw [if_neg (by show ¬ chkP 2 1 [2] = false; rw [this]; simp)]
  exact if_neg (by decide)
theorem node2 : nodeF 2 0 [] = 0 := by decide
theorem look7 : (lookT tree7 0).1 = (0, 0) := by
  unfold tree7
  refine look_zero _ _ ?_
  simp [lookT, looksT, Tree.n, node7, node3, node2]

theorem cat_leaf (w : World) (B : Nat) : CAt w B (.mk 2 0 []) (.slice none 0 0) :=
  .mk 2 0 [] none ⟨0, 0, none⟩ 0 (fun _ => .slice none 0 0) (by unfold i64ok; omega) (by unfold i64ok; omega) (by simp) (by simp) (by simp) (by simp)
theorem cat_seven (W : World) (B g2 g3 : Nat) (h2 : W.heap[g2]? = some (.cells #[.int .i64 2, .int .i64 0, .slice none 0 0] 24 (0, 0))) (h3 : W.heap[g3]? = some (.cells #[.int .i64 2, .int .i64 0, .slice none 0 0, .int .i64 3, .int .i64 2, .slice (some ⟨g2, 0, none⟩) 1 1] 24 (0, 0))) (b2 : g2 < B) (b3 : g3 < B) :
    CAt W B tree7 (.slice (some ⟨g3, 0, none⟩) 2 2) := by
  have k3 : CAt W B (.mk 3 2 [.mk 2 0 []]) (.slice (some ⟨g2, 0, none⟩) 1 1) := by
    refine .mk 3 2 [.mk 2 0 []] (some ⟨g2, 0, none⟩) ⟨g2, 0, none⟩ 1 (fun _ => .slice none 0 0) (by unfold i64ok; omega) (by unfold i64ok; omega) (by simp [maxLen]) (fun _ => rfl) (fun i t ht => ?_) (fun i t ht => ?_)
    · match i, ht with
      | 0, ht =>
        simp at ht
        subst ht
        exact ⟨b2, by simp [World.cell?, Addr.add, h2, Tree.n], by simp [World.cell?, Addr.add, h2, Tree.r], by simp [World.cell?, Addr.add, h2]⟩
      | i + 1, ht => simp at ht
    · match i, ht with
      | 0, ht =>
        simp at ht
        subst ht
        exact cat_leaf W B
      | i + 1, ht => simp at ht
  refine .mk 7 3 [.mk 2 0 [], .mk 3 2 [.mk 2 0 []]] (some ⟨g3, 0, none⟩) ⟨g3, 0, none⟩ 2 (fun i => if i = 0 then .slice none 0 0 else .slice (some ⟨g2, 0, none⟩) 1 1) (by unfold i64ok; omega) (by unfold i64ok; omega) (by simp [maxLen]) (fun _ => rfl) (fun i t ht => ?_) (fun i t ht => ?_)
  · match i, ht with
    | 0, ht =>
      simp at ht
      subst ht
      exact ⟨b3, by simp [World.cell?, Addr.add, h3, Tree.n], by simp [World.cell?, Addr.add, h3, Tree.r], by simp [World.cell?, Addr.add, h3]⟩
    | 1, ht =>
      simp at ht
      subst ht
      exact ⟨b3, by simp [World.cell?, Addr.add, h3, Tree.n], by simp [World.cell?, Addr.add, h3, Tree.r], by simp [World.cell?, Addr.add, h3]⟩
    | i + 2, ht => simp at ht
  · match i, ht with
    | 0, ht =>
      simp at ht
      subst ht
      exact cat_leaf W B
    | 1, ht =>
      simp at ht
      subst ht
      exact k3
    | i + 2, ht => simp at ht

set_option maxRecDepth 100000 in
set_option maxHeartbeats 1600000 in
theorem seven_any (w : World) : Calls Tryd.prog 10 #[] w fun e w' => ∃ s, e = .returned (.agg #[.int .i64 7, .int .i64 3, s]) ∧ CAt w' w'.heap.size tree7 s ∧ Below w.heap.size w w' := by
  have D0 := hide (CB.made w 0 0 (.slice none 0 0))
  have z0 := D0.out.frozen 0
  have z1 := D0.out.frozen 1
  have z2 := D0.out.frozen 2
  obtain ⟨c0, c1, c2⟩ := D0.out.cells
  go_enter Tryd.func10, Tryd.ntmps10
  go_wp2_with fail
  have C7 := ((CB.made w 7 3 (.slice (some ⟨w.heap.size + 1 + 1, 0, none⟩) 2 2)).below (bel_o _ (.cells #[.int .i64 2, .int .i64 0, .slice none 0 0] 24))).below (bel_o _ (.cells #[.int .i64 2, .int .i64 0, .slice none 0 0, .int .i64 3, .int .i64 2, .slice (some ⟨w.heap.size + 1, 0, none⟩) 1 1] 24))
  have h2 := (CB.made (w.alloc (.cells #[.int .i64 7, .int .i64 3, .slice (some ⟨w.heap.size + 1 + 1, 0, none⟩) 2 2] 24)) 2 0 (.slice none 0 0)).below (bel_o _ (.cells #[.int .i64 2, .int .i64 0, .slice none 0 0, .int .i64 3, .int .i64 2, .slice (some ⟨w.heap.size + 1, 0, none⟩) 1 1] 24))
  have h3 := heap_alloc_new ((w.alloc (.cells #[.int .i64 7, .int .i64 3, .slice (some ⟨w.heap.size + 1 + 1, 0, none⟩) 2 2] 24)).alloc (.cells #[.int .i64 2, .int .i64 0, .slice none 0 0] 24)) (.cells #[.int .i64 2, .int .i64 0, .slice none 0 0, .int .i64 3, .int .i64 2, .slice (some ⟨w.heap.size + 1, 0, none⟩) 1 1] 24)
  rw [World.size_alloc] at h2
  rw [World.size_alloc, World.size_alloc] at h3
  obtain ⟨G0, G1, G2⟩ := C7.cells
  exact bodyPost_ret (v := .agg #[.int .i64 7, .int .i64 3, .slice (some ⟨w.heap.size + 1 + 1, 0, none⟩) 2 2]) (by simp [results, Tryd.results10, go_sem, G0, G1, G2]) rfl ⟨_, rfl, cat_seven _ _ (w.heap.size + 1) (w.heap.size + 1 + 1) h2 h3 (by simp) (by simp), (bel_o w _).trans (((bel_o _ _).trans ((bel_o _ _).mono (by simp))).mono (by simp))⟩

set_option maxRecDepth 100000 in
set_option maxHeartbeats 1600000 in
theorem certBegun_any (w : World) (hT : TabW w) : Calls Tryd.prog 4 #[] w fun e w' => e = .returned (.bool true) ∧ Below w.heap.size w w' := by
  have CM := hide (make_seven w hT)
  have CS := fun W => hide (seven_any W)
  have CC := fun (W : World) (s : Value) (h : CAt W W.heap.size tree7 s) => hide (certCheck_any W W.heap.size tree7 s h W (Nat.le_refl _) (Below.refl _ _))
  unfold RetFault at CC
  rw [look7] at CC
  simp only [fv] at CC
  have KF := field_codeC
  clear hT
  go_enter Tryd.func4, Tryd.ntmps4
  go_wp2_with fail
  refine CM.out.mono ?_
  rintro e w1 ⟨⟨r, A, k, c, rfl⟩, hb⟩
  have hbo := bel_o w1 (.cells #[.int .i64 7, .int .i64 r, .slice A k c] 24)
  have hbp := bel_o (w1.alloc (.cells #[.int .i64 7, .int .i64 r, .slice A k c] 24)) (.cells #[.int .i64 0, .int .i64 0] 28)
  have C2 := hide ((CB.made w1 7 r (.slice A k c)).below hbp)
  have F2 := hide (FC.made (w1.alloc (.cells #[.int .i64 7, .int .i64 r, .slice A k c] 24)) 0 0)
  have B2 := hide (hb.trans ((hbo.trans (hbp.mono (by simp))).mono hb.size))
  clear hb hbo hbp CM
  rw [World.size_alloc] at F2
  go_upto_region 2 with (fail)
  obtain ⟨W2, hW⟩ : ∃ Z, (w1.alloc (.cells #[.int .i64 7, .int .i64 r, .slice A k c] 24)).alloc (.cells #[.int .i64 0, .int .i64 0] 28) = Z := ⟨_, rfl⟩
  rw [hW] at C2 F2 B2
  (try rw [hW])
  clear hW
  obtain ⟨c0, c1, c2⟩ := C2.out.cells
  obtain ⟨f0, f1, _, _⟩ := F2.out.cells
  go_wp2_with fail
  refine (CS _).out.mono ?_
  rintro e w3 ⟨s, rfl, hs, hb⟩
  have B3 := hide (B2.out.trans (hb.mono B2.out.size))
  have C3 := CC w3 s hs
  clear hb hs CC c0 c1 c2 f0 f1
  go_wp2_with fail
  refine C3.out.mono ?_
  rintro e w4 ⟨rfl, hb⟩
  have B4 := hide (B3.out.trans (hb.mono B3.out.size))
  clear hb
  go_wp2_with fail
  go_ret
  exact ⟨rfl, B4.out⟩
end Go.Proofs.YtlchmaiflcnaoaaDoor
