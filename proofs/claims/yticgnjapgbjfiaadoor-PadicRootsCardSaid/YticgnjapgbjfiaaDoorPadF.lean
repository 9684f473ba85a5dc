/- The walk of padicBegun. -/
import Derived.Test.YticgnjapgbjfiaaDoorPadE
namespace Go.Proofs.YticgnjapgbjfiaaDoor
open Go.RowKit

theorem pr_small {n : Nat} (h2 : 2 ≤ n) (hn : n < 9) (ho : n % 2 = 1) : Pr n := by
  refine Pr.of_noDiv (k := 3) h2 (fun d h1 h3 hd => ?_) (by omega)
  have : d = 2 := by omega
  subst this
  have := Nat.mod_eq_zero_of_dvd hd
  omega
theorem padF_7_3 : padF 7 3 = (0, 0) := by
  unfold padF
  rw [if_neg (by omega), if_neg (by rw [show (7 : Int).toNat = 7 from rfl, prB_true (pr_small (by omega) (by omega) (by omega))]; simp), if_neg (by omega), if_neg (by decide)]
theorem padF_5_3 : padF 5 3 = (0, 0) := by
  unfold padF
  rw [if_neg (by omega), if_neg (by rw [show (5 : Int).toNat = 5 from rfl, prB_true (pr_small (by omega) (by omega) (by omega))]; simp), if_neg (by omega), if_neg (by decide)]
theorem lif_begun : lifF 7 3 [-2, 0, 1] 3 = (0, 0) := by
  rw [lif3 (by rw [padF_7_3]) (by decide), if_neg (by omega), if_neg (by decide), if_neg (by decide)]
theorem tei_begun : teiF 5 3 2 = (0, 0) := teiF_ok (by rw [padF_5_3]) (by omega)
theorem lift_begun {y : Int} (h : LiftOk 7 3 [-2, 0, 1] 3 y) : y = 108 := by
  obtain ⟨h0, h1, h2, h3⟩ := h
  have e : (7 : Int) ^ (3 : Int).toNat = 343 := by decide
  rw [e] at h1 h3
  obtain ⟨Y, rfl⟩ : ∃ Y : Nat, y = Y := ⟨y.toNat, by omega⟩
  have h4 := Int.emod_eq_zero_of_dvd h3
  have key : ∀ Y : Fin 343, ((Y.val : Nat) : Int) % 7 = 3 → pv [-2, 0, 1] ((Y.val : Nat) : Int) % 343 = 0 → Y.val = 108 := by decide +kernel
  have := key ⟨Y, by omega⟩ h2 h4
  simp at this
  omega

set_option maxRecDepth 100000 in
set_option maxHeartbeats 3200000 in
theorem padicBegun_any (w : World) (hT : TabW w) : Calls Tryd.prog 17 #[] w fun e w' => e = .returned (.bool true) ∧ Below w.heap.size w w' := by
  have CL : ∀ (W : World) (g : Nat), TabW W → g = W.heap.size → Hid (Calls Tryd.prog 11 #[.int .i64 7, .int .i64 3, .slice (some ⟨g, 0, none⟩) 3 3, .int .i64 3] (W.alloc (.cells #[.int .i64 (-2), .int .i64 0, .int .i64 1] 3)) (RetNF (W.alloc (.cells #[.int .i64 (-2), .int .i64 0, .int .i64 1] 3)) (lifF 7 3 [-2, 0, 1] 3) (LiftOk 7 3 [-2, 0, 1] 3))) := by
    intro W g hW hg
    subst hg
    exact lift_any _ 3 3 7 3 [-2, 0, 1] 3 _ (hW.alloc _) rfl (by omega) (ints_new W [-2, 0, 1] _)
  have CT := fun W (hW : TabW W) => hide (teich_any 5 3 2 W hW)
  rw [lif_begun] at CL
  rw [tei_begun] at CT
  unfold RetNF at CL CT
  have HT := hide hT
  clear hT
  go_enter Tryd.func17, Tryd.ntmps17
  go_wp2_with fail
  refine (CL _ _ HT.out rfl).out.mono ?_
  rintro e w1 ⟨y, rfl, hy, _, hb⟩
  obtain rfl := lift_begun (hy (by simp))
  simp only [fv]
  have HB := hide (below_new hb)
  have F1 := hide (FC.made w1 0 0)
  clear hb hy CL
  have HB1 := hide (HB.out.alloc HB.out.size (.cells #[.int .i64 0, .int .i64 0] 24))
  have HT2 := hide (HT.out.below HB1.out)
  go_wp2_with fail
  refine (CT _ HT2.out).out.mono ?_
  rintro e w2 ⟨y, rfl, hy, _, hb⟩
  obtain rfl : y = 57 := by rw [hy (by simp)]; decide
  simp only [fv]
  have F2 := F1.out.below hb
  have HB2 := hide (HB1.out.trans (hb.mono HB1.out.size))
  have F3 := F2.below (bel_cells w2 (.cells #[.int .i64 0, .int .i64 0] 24))
  obtain ⟨a0, a1, _, _⟩ := F2.cells
  have hlt := F2.lt
  clear hb hy CT F2 F3
  go_wp2_with fail
  go_ret
  exact ⟨rfl, HB2.out.alloc HB2.out.size _⟩
end Go.Proofs.YticgnjapgbjfiaaDoor
