/- The walk of the law CertChecks, and how a certificate is read out of an argument. -/
import Derived.Test.YtlchmaiflcnaoaaDoorKCertH
namespace Go.Proofs.YtlchmaiflcnaoaaDoor
open Go.RowKit

set_option maxRecDepth 100000 in
set_option maxHeartbeats 1600000 in
theorem certChecks_any (t : Tree) (s : Value) (w : World) (hs : CAt w w.heap.size t s) (hT : TabW w) :
    Calls Tryd.prog 3 #[.agg #[.int .i64 t.n, .int .i64 t.r, s]] w fun e w' => e = .returned (.bool true) ∧ Below w.heap.size w w' := by
  obtain ⟨A, N, cap, rfl⟩ := hs.form
  have HTW := hide (fun W (k : Below w.heap.size w W) => hT.below k)
  have CBG := fun W (h : Below w.heap.size w W) => hide (certBegun_any W (hT.below h))
  have CD := fun W (h : Below w.heap.size w W) => hide (deep_any w w.heap.size t _ hs 0 (by omega) W h.size h)
  have CK := fun W (h : Below w.heap.size w W) => hide (certCheck_any w w.heap.size t _ hs W h.size h)
  have CFT := hide (fun (hd : deepT t 0 = false) W (h : Below w.heap.size w W) => certFault_any w w.heap.size t _ hs hd W h.size h)
  have HPR := hide (look_pr t 0)
  unfold RetFault at CK CFT
  rw [← look_list] at CFT
  obtain ⟨⟨⟨fc, fa⟩, k3⟩, hF⟩ : ∃ F, lookT t 0 = F := ⟨_, rfl⟩
  rw [hF] at CK CFT HPR
  simp only [fv] at CK CFT
  obtain ⟨n, hn⟩ : ∃ n, t.n = n := ⟨_, rfl⟩
  obtain ⟨r, hr⟩ : ∃ r, t.r = r := ⟨_, rfl⟩
  rw [hn, hr] at CD CK CFT
  rw [hn] at HPR
  rw [hn, hr]
  have S0 := hide (CSt.start w n r (.slice A N cap))
  clear hs hT hF hn hr
  go_enter Tryd.func3, Tryd.ntmps3
  go_wp2_with fail
  refine (CBG _ S0.out.b).out.mono ?_
  rintro e w1 ⟨rfl, hb⟩
  have S1 := hide (S0.out.below hb)
  clear hb S0 CBG
  obtain ⟨c0, c1, c2⟩ := S1.out.f.cells
  go_wp2_with fail
  refine (CD _ S1.out.b).out.mono ?_
  rintro e w2 ⟨rfl, hb⟩
  have S2 := hide (S1.out.below hb)
  clear hb S1 CD c0 c1 c2
  cases hd : deepT t 0
  · have CF0 := hide (CFT.out hd)
    have CF := fun W (h : Below w.heap.size w W) => hide (CF0.out W h)
    clear hd CFT CF0
    obtain ⟨c0, c1, c2⟩ := S2.out.f.cells
    go_wp2_with fail
    refine (CK _ S2.out.b).out.mono ?_
    rintro e w3 ⟨rfl, hb⟩
    have S3 := S2.out.below hb
    have hbo := bel_o w3 (.cells #[.int .i64 fc, .int .i64 fa] 28)
    have S5 := hide (S3.below hbo)
    have F5 := hide (FC.made w3 fc fa)
    clear hb hbo S2 S3 CK c0 c1 c2
    go_upto_region 6 with (fail)
    obtain ⟨W5, hW⟩ : ∃ Z, w3.alloc (.cells #[.int .i64 fc, .int .i64 fa] 28) = Z := ⟨_, rfl⟩
    rw [hW] at S5 F5
    (try rw [hW])
    obtain ⟨g3, hg3⟩ : ∃ g, w3.heap.size = g := ⟨_, rfl⟩
    rw [hg3] at F5
    (try rw [hg3])
    clear hW hg3
    have KS := fun W (h : Below W5.heap.size W5 W) => hide (show (((W.cell? ⟨g3, 0, none⟩ = some (.int .i64 fc) ∧ W.cell? ⟨g3, 1, none⟩ = some (.int .i64 fa)) ∧ (W.cell? ⟨w.heap.size, 0, none⟩ = some (.int .i64 n) ∧ W.cell? ⟨w.heap.size, 1, none⟩ = some (.int .i64 r) ∧ W.cell? ⟨w.heap.size, 2, none⟩ = some (.slice A N cap))) ∧ Hid (Below W5.heap.size W5 W)) from ⟨⟨⟨(F5.out.below h).cells.1, (F5.out.below h).cells.2.1⟩, (S5.out.f.below h).cells⟩, hide h⟩)
    have B5 := hide S5.out.b
    by_cases hfc : fc = 0
    · as_aux_lemma =>
      subst hfc
      obtain ⟨p1, p2, p3⟩ := HPR.out rfl
      obtain ⟨nn, rfl⟩ : ∃ nn : Nat, n = nn := ⟨n.toNat, by omega⟩
      have CQ := fun W => hide (isPrime_told nn W (by omega) (by omega) (by rw [Int.toNat_natCast] at p3; exact p3.isB (by omega)))
      clear p1 p2 p3 HPR
      refine wp_region_P (fun W => ((W.cell? ⟨g3, 0, none⟩ = some (.int .i64 0) ∧ W.cell? ⟨g3, 1, none⟩ = some (.int .i64 fa)) ∧ (W.cell? ⟨w.heap.size, 0, none⟩ = some (.int .i64 (nn : Nat)) ∧ W.cell? ⟨w.heap.size, 1, none⟩ = some (.int .i64 r) ∧ W.cell? ⟨w.heap.size, 2, none⟩ = some (.slice A N cap))) ∧ Hid (Below W5.heap.size W5 W)) 14 (by rfl) ((KS _ (below_drewN (Below.refl _ _) 1)).out) ?_
      intro hS
      refine wpAnyP_take 0 10 [0, 14] (v := ?_) rfl (by kernel_rfl) (by kernel_rfl) (by kernel_rfl) (by kernel_rfl) (by kernel_rfl) (by kernel_rfl) (by rfl) (fun _ _ _ h => h) (Or.inl ⟨by rfl, ?_⟩) hS ?_; rotate_left
      · (intro w hSw; (try dsimp only at hSw); go_simp; (try with_reducible rfl))
      (try simp only [List.setIfInBounds_toArray, List.set_cons_zero, List.set_cons_succ])
      refine wpAnyP_take 1 11 [1, 14] (v := ?_) rfl (by kernel_rfl) (by kernel_rfl) (by kernel_rfl) (by kernel_rfl) (by kernel_rfl) (by kernel_rfl) (by rfl) (fun _ _ _ h => h) (Or.inl ⟨by rfl, ?_⟩) hS ?_; rotate_left
      · (intro w hSw; (try dsimp only at hSw); go_simp; (try with_reducible rfl))
      (try simp only [List.setIfInBounds_toArray, List.set_cons_zero, List.set_cons_succ])
      refine wpAnyP_one 2 rfl (by kernel_rfl) (fun K hK => ?_)
      go_simp
      refine (CF _ (B5.out.trans (hS.2.out.mono B5.out.size))).out.mono ?_
      rintro e w6 ⟨rfl, hb⟩
      have hy := hS.2.out.trans (hb.mono hS.2.out.size)
      clear hS
      have hS := (KS w6 hy).out
      clear hb hy
      refine hK.out _ _ (fun _ => hS) ?_
      clear hK K
      (try simp only [Act.put, List.setIfInBounds_toArray, List.set_cons_zero, List.set_cons_succ])
      refine wpAnyP_take 3 13 [3, 14] (v := ?_) rfl (by kernel_rfl) (by kernel_rfl) (by kernel_rfl) (by kernel_rfl) (by kernel_rfl) (by kernel_rfl) (by rfl) (fun _ _ _ h => h) (Or.inl ⟨by rfl, ?_⟩) hS ?_; rotate_left
      · (intro w hSw; (try dsimp only at hSw); go_simp; (try with_reducible rfl))
      (try simp only [List.setIfInBounds_toArray, List.set_cons_zero, List.set_cons_succ])
      refine wpAnyP_take 4 14 [4, 14] (v := ?_) rfl (by kernel_rfl) (by kernel_rfl) (by kernel_rfl) (by kernel_rfl) (by kernel_rfl) (by kernel_rfl) (by rfl) (fun _ _ _ h => h) (Or.inl ⟨by rfl, ?_⟩) hS ?_; rotate_left
      · (intro w hSw; (try dsimp only at hSw); go_simp; (try with_reducible rfl))
      (try simp only [List.setIfInBounds_toArray, List.set_cons_zero, List.set_cons_succ])
      refine wpAnyP_take 5 15 [5, 14] (v := ?_) rfl (by kernel_rfl) (by kernel_rfl) (by kernel_rfl) (by kernel_rfl) (by kernel_rfl) (by kernel_rfl) (by rfl) (fun _ _ _ h => h) (Or.inl ⟨by rfl, ?_⟩) hS ?_; rotate_left
      · (intro w hSw; (try dsimp only at hSw); go_simp; (try with_reducible rfl))
      (try simp only [List.setIfInBounds_toArray, List.set_cons_zero, List.set_cons_succ])
      refine wpAnyP_take 6 16 [6, 14] (v := ?_) rfl (by kernel_rfl) (by kernel_rfl) (by kernel_rfl) (by kernel_rfl) (by kernel_rfl) (by kernel_rfl) (by rfl) (fun _ _ _ h => h) (Or.inl ⟨by rfl, ?_⟩) hS ?_; rotate_left
      · (intro w hSw; (try dsimp only at hSw); go_simp; (try with_reducible rfl))
      (try simp only [List.setIfInBounds_toArray, List.set_cons_zero, List.set_cons_succ])
      refine wpAnyP_take 7 17 [7, 14] (v := ?_) rfl (by kernel_rfl) (by kernel_rfl) (by kernel_rfl) (by kernel_rfl) (by kernel_rfl) (by kernel_rfl) (by rfl) (fun _ _ _ h => h) (Or.inl ⟨by rfl, ?_⟩) hS ?_; rotate_left
      · (intro w hSw; (try dsimp only at hSw); go_simp; (try with_reducible rfl))
      (try simp only [List.setIfInBounds_toArray, List.set_cons_zero, List.set_cons_succ])
      refine wpAnyP_take 8 18 [8, 14] (v := ?_) rfl (by kernel_rfl) (by kernel_rfl) (by kernel_rfl) (by kernel_rfl) (by kernel_rfl) (by kernel_rfl) (by rfl) (fun _ _ _ h => h) (Or.inl ⟨by rfl, ?_⟩) hS ?_; rotate_left
      · (intro w hSw; (try dsimp only at hSw); go_simp; (try with_reducible rfl))
      (try simp only [List.setIfInBounds_toArray, List.set_cons_zero, List.set_cons_succ])
      refine wpAnyP_take 9 19 [9, 14] (v := ?_) rfl (by kernel_rfl) (by kernel_rfl) (by kernel_rfl) (by kernel_rfl) (by kernel_rfl) (by kernel_rfl) (by rfl) (fun _ _ _ h => h) (Or.inl ⟨by rfl, ?_⟩) hS ?_; rotate_left
      · (intro w hSw; (try dsimp only at hSw); go_simp; (try with_reducible rfl))
      (try simp only [List.setIfInBounds_toArray, List.set_cons_zero, List.set_cons_succ])
      refine wpAnyP_take 10 20 [10, 14] (v := ?_) rfl (by kernel_rfl) (by kernel_rfl) (by kernel_rfl) (by kernel_rfl) (by kernel_rfl) (by kernel_rfl) (by rfl) (fun _ _ _ h => h) (Or.inl ⟨by rfl, ?_⟩) hS ?_; rotate_left
      · (intro w hSw; (try dsimp only at hSw); go_simp; (try with_reducible rfl))
      (try simp only [List.setIfInBounds_toArray, List.set_cons_zero, List.set_cons_succ])
      refine wpAnyP_one 11 rfl (by kernel_rfl) (fun K hK => ?_)
      go_simp
      refine (CQ _).out.mono ?_
      rintro e w7 ⟨rfl, hb⟩
      have hy := hS.2.out.trans (hb.mono hS.2.out.size)
      clear hS
      have hS := (KS w7 hy).out
      clear hb hy
      refine hK.out _ _ (fun _ => hS) ?_
      clear hK K
      (try simp only [Act.put, List.setIfInBounds_toArray, List.set_cons_zero, List.set_cons_succ])
      refine wpAnyP_take 12 22 [12, 14] (v := ?_) rfl (by kernel_rfl) (by kernel_rfl) (by kernel_rfl) (by kernel_rfl) (by kernel_rfl) (by kernel_rfl) (by rfl) (fun _ _ _ h => h) (Or.inl ⟨by rfl, ?_⟩) hS ?_; rotate_left
      · (intro w hSw; (try dsimp only at hSw); go_simp; (try with_reducible rfl))
      (try simp only [List.setIfInBounds_toArray, List.set_cons_zero, List.set_cons_succ])
      refine wpAnyP_take 13 23 [13, 14] (v := ?_) rfl (by kernel_rfl) (by kernel_rfl) (by kernel_rfl) (by kernel_rfl) (by kernel_rfl) (by kernel_rfl) (by rfl) (fun _ _ _ h => h) (Or.inl ⟨by rfl, ?_⟩) hS ?_; rotate_left
      · (intro w hSw; (try dsimp only at hSw); go_simp; (try with_reducible rfl))
      (try simp only [List.setIfInBounds_toArray, List.set_cons_zero, List.set_cons_succ])
      refine wpAnyP_one 14 rfl (by kernel_rfl) (fun K hK => ?_)
      go_simp
      refine hK.out _ _ (fun _ => hS) ?_
      clear hK K
      (try simp only [Act.put, List.setIfInBounds_toArray, List.set_cons_zero, List.set_cons_succ])
      refine wpAnyP_done (by kernel_rfl) ?_ _
      have B9 := hide (B5.out.trans (hS.2.out.mono B5.out.size))
      clear hS
      go_wp2_with fail
      go_ret
      exact ⟨rfl, B9.out⟩
    · as_aux_lemma =>
      have r1 : (fc != 0) = true := by simpa using hfc
      clear hfc HPR
      refine wp_region_P (fun W => ((W.cell? ⟨g3, 0, none⟩ = some (.int .i64 fc) ∧ W.cell? ⟨g3, 1, none⟩ = some (.int .i64 fa)) ∧ (W.cell? ⟨w.heap.size, 0, none⟩ = some (.int .i64 n) ∧ W.cell? ⟨w.heap.size, 1, none⟩ = some (.int .i64 r) ∧ W.cell? ⟨w.heap.size, 2, none⟩ = some (.slice A N cap))) ∧ Hid (Below W5.heap.size W5 W)) 14 (by rfl) ((KS _ (below_drewN (Below.refl _ _) 1)).out) ?_
      intro hS
      refine wpAnyP_take 0 10 [0, 14] (v := ?_) rfl (by kernel_rfl) (by kernel_rfl) (by kernel_rfl) (by kernel_rfl) (by kernel_rfl) (by kernel_rfl) (by rfl) (fun _ _ _ h => h) (Or.inl ⟨by rfl, ?_⟩) hS ?_; rotate_left
      · (intro w hSw; (try dsimp only at hSw); go_simp; (try with_reducible rfl))
      (try simp only [List.setIfInBounds_toArray, List.set_cons_zero, List.set_cons_succ])
      refine wpAnyP_take 1 11 [1, 14] (v := ?_) rfl (by kernel_rfl) (by kernel_rfl) (by kernel_rfl) (by kernel_rfl) (by kernel_rfl) (by kernel_rfl) (by rfl) (fun _ _ _ h => h) (Or.inl ⟨by rfl, ?_⟩) hS ?_; rotate_left
      · (intro w hSw; (try dsimp only at hSw); go_simp; (try with_reducible rfl))
      (try simp only [List.setIfInBounds_toArray, List.set_cons_zero, List.set_cons_succ])
      refine wpAnyP_one 2 rfl (by kernel_rfl) (fun K hK => ?_)
      go_simp
      refine (CF _ (B5.out.trans (hS.2.out.mono B5.out.size))).out.mono ?_
      rintro e w6 ⟨rfl, hb⟩
      have hy := hS.2.out.trans (hb.mono hS.2.out.size)
      clear hS
      have hS := (KS w6 hy).out
      clear hb hy
      refine hK.out _ _ (fun _ => hS) ?_
      clear hK K
      (try simp only [Act.put, List.setIfInBounds_toArray, List.set_cons_zero, List.set_cons_succ])
      refine wpAnyP_take 3 13 [3, 14] (v := ?_) rfl (by kernel_rfl) (by kernel_rfl) (by kernel_rfl) (by kernel_rfl) (by kernel_rfl) (by kernel_rfl) (by rfl) (fun _ _ _ h => h) (Or.inl ⟨by rfl, ?_⟩) hS ?_; rotate_left
      · (intro w hSw; (try dsimp only at hSw); go_simp; (try with_reducible rfl))
      (try simp only [List.setIfInBounds_toArray, List.set_cons_zero, List.set_cons_succ])
      refine wpAnyP_take 4 14 [4, 14] (v := ?_) rfl (by kernel_rfl) (by kernel_rfl) (by kernel_rfl) (by kernel_rfl) (by kernel_rfl) (by kernel_rfl) (by rfl) (fun _ _ _ h => h) (Or.inl ⟨by rfl, ?_⟩) hS ?_; rotate_left
      · (intro w hSw; (try dsimp only at hSw); go_simp; (try with_reducible rfl))
      (try simp only [List.setIfInBounds_toArray, List.set_cons_zero, List.set_cons_succ])
      refine wpAnyP_take 5 15 [5, 14] (v := ?_) rfl (by kernel_rfl) (by kernel_rfl) (by kernel_rfl) (by kernel_rfl) (by kernel_rfl) (by kernel_rfl) (by rfl) (fun _ _ _ h => h) (Or.inl ⟨by rfl, ?_⟩) hS ?_; rotate_left
      · (intro w hSw; (try dsimp only at hSw); go_simp; (try with_reducible rfl))
      (try simp only [List.setIfInBounds_toArray, List.set_cons_zero, List.set_cons_succ])
      refine wpAnyP_take 6 16 [6, 14] (v := ?_) rfl (by kernel_rfl) (by kernel_rfl) (by kernel_rfl) (by kernel_rfl) (by kernel_rfl) (by kernel_rfl) (by rfl) (fun _ _ _ h => h) (Or.inl ⟨by rfl, ?_⟩) hS ?_; rotate_left
      · (intro w hSw; (try dsimp only at hSw); go_simp; (try with_reducible rfl))
      (try simp only [List.setIfInBounds_toArray, List.set_cons_zero, List.set_cons_succ])
      refine wpAnyP_take 7 17 [7, 14] (v := ?_) rfl (by kernel_rfl) (by kernel_rfl) (by kernel_rfl) (by kernel_rfl) (by kernel_rfl) (by kernel_rfl) (by rfl) (fun _ _ _ h => h) (Or.inl ⟨by rfl, ?_⟩) hS ?_; rotate_left
      · (intro w hSw; (try dsimp only at hSw); go_simp; (try with_reducible rfl))
      (try simp only [List.setIfInBounds_toArray, List.set_cons_zero, List.set_cons_succ])
      refine wpAnyP_take 8 18 [8, 14] (v := ?_) rfl (by kernel_rfl) (by kernel_rfl) (by kernel_rfl) (by kernel_rfl) (by kernel_rfl) (by kernel_rfl) (by rfl) (fun _ _ _ h => h) (Or.inl ⟨by rfl, ?_⟩) hS ?_; rotate_left
      · (intro w hSw; (try dsimp only at hSw); go_simp; (try with_reducible rfl))
      (try simp only [List.setIfInBounds_toArray, List.set_cons_zero, List.set_cons_succ])
      refine wpAnyP_take 9 19 [9, 14] (v := undef) rfl (by kernel_rfl) (by kernel_rfl) (by kernel_rfl) (by kernel_rfl) (by kernel_rfl) (by kernel_rfl) (by rfl) (fun _ _ _ h => h) (Or.inr ⟨by rfl, rfl⟩) hS ?_
      (try simp only [List.setIfInBounds_toArray, List.set_cons_zero, List.set_cons_succ])
      refine wpAnyP_take 10 20 [10, 14] (v := undef) rfl (by kernel_rfl) (by kernel_rfl) (by kernel_rfl) (by kernel_rfl) (by kernel_rfl) (by kernel_rfl) (by rfl) (fun _ _ _ h => h) (Or.inr ⟨by rfl, rfl⟩) hS ?_
      (try simp only [List.setIfInBounds_toArray, List.set_cons_zero, List.set_cons_succ])
      refine wpAnyP_take 11 21 [11, 14] (v := undef) rfl (by kernel_rfl) (by kernel_rfl) (by kernel_rfl) (by kernel_rfl) (by kernel_rfl) (by kernel_rfl) (by rfl) (fun _ _ _ h => h) (Or.inr ⟨by rfl, rfl⟩) hS ?_
      (try simp only [List.setIfInBounds_toArray, List.set_cons_zero, List.set_cons_succ])
      refine wpAnyP_take 12 22 [12, 14] (v := ?_) rfl (by kernel_rfl) (by kernel_rfl) (by kernel_rfl) (by kernel_rfl) (by kernel_rfl) (by kernel_rfl) (by rfl) (fun _ _ _ h => h) (Or.inl ⟨by rfl, ?_⟩) hS ?_; rotate_left
      · (intro w hSw; (try dsimp only at hSw); go_simp; (try with_reducible rfl))
      (try simp only [List.setIfInBounds_toArray, List.set_cons_zero, List.set_cons_succ])
      refine wpAnyP_take 13 23 [13, 14] (v := ?_) rfl (by kernel_rfl) (by kernel_rfl) (by kernel_rfl) (by kernel_rfl) (by kernel_rfl) (by kernel_rfl) (by rfl) (fun _ _ _ h => h) (Or.inl ⟨by rfl, ?_⟩) hS ?_; rotate_left
      · (intro w hSw; (try dsimp only at hSw); go_simp; (try with_reducible rfl))
      (try simp only [List.setIfInBounds_toArray, List.set_cons_zero, List.set_cons_succ])
      refine wpAnyP_one 14 rfl (by kernel_rfl) (fun K hK => ?_)
      go_simp
      refine hK.out _ _ (fun _ => hS) ?_
      clear hK K
      (try simp only [Act.put, List.setIfInBounds_toArray, List.set_cons_zero, List.set_cons_succ])
      refine wpAnyP_done (by kernel_rfl) ?_ _
      have B9 := hide (B5.out.trans (hS.2.out.mono B5.out.size))
      clear hS
      go_wp2_with fail
      go_ret
      exact ⟨rfl, B9.out⟩
  · go_wp2_with fail
    go_ret
    exact ⟨rfl, S2.out.b⟩
end Go.Proofs.YtlchmaiflcnaoaaDoor
