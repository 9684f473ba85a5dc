/- The walks of prime.Is (at small numbers), padic.fault and padic.look. -/
import Derived.Test.YtpppnaljndhjcaaDoorKIsW
import Derived.Test.YtpppnaljndhjcaaDoorKWholeB
import Derived.Test.YtpppnaljndhjcaaDoorK0
namespace Go.Proofs.YtpppnaljndhjcaaDoor
open Go.RowKit

theorem lookK_one {n : Int} (h : okB n = true) : lookK 0 [n] = (0, 0) := by rw [lookK, if_pos h, lookK]

set_option maxRecDepth 100000 in
set_option maxHeartbeats 3200000 in
theorem Is_small (n : Nat) (w : World) (h2 : 2 ≤ n) (hn : n ≤ 1000000) (hT : TabW w) :
    Calls Tryd.prog 5 #[.int .i64 n] w fun e w' => e = .returned (.tuple #[.bool (prB n), fv (0, 0)]) ∧ Below w.heap.size w w' := by
  have L : ∀ (W : World) (g : Nat), g = W.heap.size → Hid (Calls Tryd.prog 11 #[.slice (some ⟨g, 0, none⟩) 1 1] (W.alloc (.cells #[.int .i64 n] 3)) (RetFault (W.alloc (.cells #[.int .i64 n] 3)) (lookK 0 [(n : Int)]))) := fun W g hg => hg ▸ look_any _ 1 1 [(n : Int)] _ rfl (by omega) (ints_new W [(n : Int)] _)
  rw [lookK_one (show okB (n : Int) = true by unfold okB; simp; omega)] at L
  have CI := fun W (hW : TabW W) => hide (is_any n W h2 (by omega) hW)
  rw [isB_small h2 hn] at CI
  have HT := hide hT
  have q1 : decide (1 < (n : Int)) = true := by rw [decide_eq_true_eq]; omega
  clear hT h2 hn
  go_enter Tryd.func5, Tryd.ntmps5
  go_wp2_with fail
  refine (L _ _ (by simp)).out.mono ?_
  rintro e w1 ⟨rfl, hb⟩
  simp only [fv]
  have F1 := (((FC.fresh w).below ((Below.refl _ _).alloc (Nat.le_refl _) (.cells #[.int .i64 n] 3))).below hb)
  have hlt := F1.lt
  have HB := hide (below_new (below_new2 hb))
  have HF := hide (F1.below ((Below.refl _ _).alloc (Nat.le_refl _) (.cells #[.int .i64 0, .int .i64 0] 23)))
  have HT2 := hide ((HT.out.below HB.out).alloc (.cells #[.int .i64 0, .int .i64 0] 23))
  have HB1 := hide (HB.out.alloc HB.out.size (.cells #[.int .i64 0, .int .i64 0] 23))
  clear hb F1
  go_wp2_with fail
  refine (CI _ HT2.out).out.mono ?_
  rintro e w2 ⟨rfl, hb⟩
  have F2 := HF.out.below hb
  obtain ⟨d0, d1, f0, f1⟩ := F2.cells
  obtain ⟨p0, p1⟩ := F2.put 0 0
  have HB2 := hide (below_fault (u := .int .i64 0) (v := .int .i64 0) (HB1.out.trans (hb.mono HB1.out.size)) (Nat.le_refl w.heap.size))
  clear hb F2
  go_wp2_with fail
  exact bodyPost_ret (v := .tuple #[.bool (prB n), fv (0, 0)]) (by simp [results, Tryd.results5, go_sem, fv, p0, p1]) rfl ⟨by simp [fv], HB2.out⟩

/-- look's word -/
def RetLook (w : World) (p k : Int) : Ending → World → Prop := fun e w' => e = .returned (.tuple #[.int .i64 (if (padF p k).1 = 0 then p ^ k.toNat else 0), fv (padF p k)]) ∧ Below w.heap.size w w'
theorem padF_range {p k : Int} (h : p < 2 ∨ 1000000 < p) : padF p k = (3, 0) := by unfold padF; rw [if_pos h]
theorem padF_kind {p k : Int} (h : ¬ (p < 2 ∨ 1000000 < p)) (h2 : prB p.toNat = false) : padF p k = (7, 0) := by unfold padF; rw [if_neg h, if_pos h2]
theorem padF_places {p k : Int} (h : ¬ (p < 2 ∨ 1000000 < p)) (h2 : prB p.toNat = true) (h3 : k < 1 ∨ 60 < k) : padF p k = (3, 1) := by unfold padF; rw [if_neg h, if_neg (by rw [h2]; simp), if_pos h3]
theorem padF_much {p k : Int} (h : ¬ (p < 2 ∨ 1000000 < p)) (h2 : prB p.toNat = true) (h3 : ¬ (k < 1 ∨ 60 < k)) (h4 : 1000000000000000000 < p ^ k.toNat) : padF p k = (9, 1) := by unfold padF; rw [if_neg h, if_neg (by rw [h2]; simp), if_neg h3, if_pos h4]
theorem padF_none {p k : Int} (h : ¬ (p < 2 ∨ 1000000 < p)) (h2 : prB p.toNat = true) (h3 : ¬ (k < 1 ∨ 60 < k)) (h4 : ¬ 1000000000000000000 < p ^ k.toNat) : padF p k = (0, 0) := by unfold padF; rw [if_neg h, if_neg (by rw [h2]; simp), if_neg h3, if_neg h4]

end Go.Proofs.YtpppnaljndhjcaaDoor
