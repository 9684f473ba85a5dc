/- The walk of wholeBegun. -/
import Derived.Test.YtddnchjnbgdocaaBegun
namespace Go.Proofs.Ytddnchjnbgdocaa
open Go.RowKit

set_option maxHeartbeats 1600000 in
theorem begun_any (w : World) : Calls Try.prog 9 #[] w fun e w' => e = .returned (.bool true) ∧ Below w.heap.size w w' := by
  have CB := fun W => hide (bezout_any 12 (-18) W)
  have CJ : ∀ (W : World) (g1 g2 : Nat), g1 = W.heap.size → g2 = W.heap.size + 1 → Hid (Calls Try.prog 7 #[.slice (some ⟨g1, 0, none⟩) 3 3, .slice (some ⟨g2, 0, none⟩) 3 3] ((W.alloc (.cells #[.int .i64 2, .int .i64 3, .int .i64 2] 3)).alloc (.cells #[.int .i64 3, .int .i64 5, .int .i64 7] 3)) (RetJoin ((W.alloc (.cells #[.int .i64 2, .int .i64 3, .int .i64 2] 3)).alloc (.cells #[.int .i64 3, .int .i64 5, .int .i64 7] 3)) [2, 3, 2] [3, 5, 7])) := by
    intro W g1 g2 h1 h2
    subst h1 h2
    have i1 := ints_new W [2, 3, 2] 3
    have i2 := ints_new (W.alloc (.cells #[.int .i64 2, .int .i64 3, .int .i64 2] 3)) [3, 5, 7] 3
    refine join_any _ _ 3 3 3 3 _ _ _ rfl rfl ?_ ?_
    · exact (i1.below ((Below.refl _ _).alloc (Nat.le_refl _) _) (Nat.le_refl _)).more (by simp)
    · simpa using i2
  go_enter Try.func9, Try.ntmps9
  go_wp2_with fail
  refine (CB _).out.mono ?_
  rintro e w1 ⟨g, u, v, rfl, hok, _, hb⟩
  obtain ⟨rfl, rfl, rfl⟩ := bez_begun (hok (by decide))
  rw [show lookK 0 [12, -18] = (0, 0) from by decide]
  simp only [fv]
  have HB := hide hb
  clear hb hok
  go_wp2_with fail
  refine (CJ _ _ _ (by simp) (by simp)).out.mono ?_
  rintro e w2 ⟨o, hj, rfl, hb⟩
  obtain rfl := join_begun hj
  simp only [fv]
  have F1 : FC w2 w1.heap.size 0 0 := (((FC.fresh w1).below ((Below.refl _ _).alloc (Nat.le_refl _) _)).below ((Below.refl _ _).alloc (Nat.le_refl _) _)).below hb
  have hlt := F1.lt
  have HB2 := hide (HB.out.trans ((below_new (below_new (below_new hb))).mono HB.out.size))
  obtain ⟨d0, d1, f0, f1⟩ := F1.cells
  clear hb hj F1
  go_wp2_with fail
  go_ret
  exact ⟨rfl, HB2.out.alloc HB2.out.size _⟩
end Go.Proofs.Ytddnchjnbgdocaa
