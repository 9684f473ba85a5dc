/- The walks of whole.Power, Inverse and Root. -/
import Derived.Test.YtddnchjnbgdocaaGcd
import Derived.Test.YtddnchjnbgdocaaPow
import Derived.Test.YtddnchjnbgdocaaRoot
import Derived.Test.YtddnchjnbgdocaaExtended
namespace Go.Proofs.Ytddnchjnbgdocaa
open Go.RowKit

/-- the fault of Power -/
def powF (a n m : Int) : Int × Int := if (lookK 0 [a, n, m]).1 ≠ 0 then lookK 0 [a, n, m] else if n < 0 then (3, 1) else if m < 1 then (3, 2) else (0, 0)
/-- the fault of Inverse -/
def invF (a m : Int) : Int × Int := if (lookK 0 [a, m]).1 ≠ 0 then lookK 0 [a, m] else if m < 1 then (3, 1) else if Int.gcd a m ≠ 1 then (5, 0) else (0, 0)
/-- the fault of Root -/
def rootF (n k : Int) : Int × Int := if n < 0 ∨ okB n = false then (3, 0) else if k < 1 ∨ 60 < k then (3, 1) else (0, 0)

/-- a call's word on a number and a fault -/
def RetNF (w : World) (F : Int × Int) (P : Int → Prop) : Ending → World → Prop := fun e w' => ∃ p : Int, e = .returned (.tuple #[.int .i64 p, fv F]) ∧ (F.1 = 0 → P p) ∧ (F.1 ≠ 0 → p = 0) ∧ Below w.heap.size w w'

theorem bel_fz (w : World) : Below w.heap.size w (w.alloc (.cells #[.int .i64 0, .int .i64 0] 24)) := (Below.refl _ _).alloc (Nat.le_refl _) _
theorem look3 (a n m : Int) (W : World) (g : Nat) (hg : g = W.heap.size) : Calls Try.prog 41 #[.slice (some ⟨g, 0, none⟩) 3 3] (W.alloc (.cells #[.int .i64 a, .int .i64 n, .int .i64 m] 3)) (RetFault (W.alloc (.cells #[.int .i64 a, .int .i64 n, .int .i64 m] 3)) (lookK 0 [a, n, m])) :=
  hg ▸ look_any _ 3 3 [a, n, m] _ rfl (by omega) (ints_new W [a, n, m] _)
theorem look2 (a m : Int) (W : World) (g : Nat) (hg : g = W.heap.size) : Calls Try.prog 41 #[.slice (some ⟨g, 0, none⟩) 2 2] (W.alloc (.cells #[.int .i64 a, .int .i64 m] 3)) (RetFault (W.alloc (.cells #[.int .i64 a, .int .i64 m] 3)) (lookK 0 [a, m])) :=
  hg ▸ look_any _ 2 2 [a, m] _ rfl (by omega) (ints_new W [a, m] _)

set_option maxHeartbeats 1600000 in
theorem power_any (a n m : Int) (w : World) :
    Calls Try.prog 19 #[.int .i64 a, .int .i64 n, .int .i64 m] w (RetNF w (powF a n m) (fun p => p = a ^ n.toNat % m)) := by
  have L : ∀ (W : World) (g : Nat), g = W.heap.size → Hid (Calls Try.prog 41 #[.slice (some ⟨g, 0, none⟩) 3 3] (W.alloc (.cells #[.int .i64 a, .int .i64 n, .int .i64 m] 3)) (RetFault (W.alloc (.cells #[.int .i64 a, .int .i64 n, .int .i64 m] 3)) (lookK 0 [a, n, m]))) := fun W g hg => look3 a n m W g hg
  rcases lookK_cases 0 [a, n, m] with ⟨h, hok⟩ | ⟨i, h⟩
  · rw [h] at L
    have ha := ok_bounds (hok a (by simp))
    have hn := ok_bounds (hok n (by simp))
    have hm := ok_bounds (hok m (by simp))
    by_cases hn0 : n < 0
    · have HE : Hid (powF a n m = (3, 1)) := by unfold Hid powF; rw [h, if_neg (by decide), if_pos hn0]
      have C := fun W => hide (fault_any 3 1 W)
      clear h hok
      go_enter Try.func19, Try.ntmps19
      go_wp2_with fail
      refine (L _ _ (by simp)).out.mono ?_
      rintro e w1 ⟨rfl, hb⟩
      simp only [fv]
      have F1 := (((FC.fresh w).below ((Below.refl _ _).alloc (Nat.le_refl _) (.cells #[.int .i64 a, .int .i64 n, .int .i64 m] 3))).below hb)
      have hlt := F1.lt
      have HB := hide (below_new (below_new2 hb))
      clear hb
      go_wp2_with fail
      refine (C _).out.mono ?_
      rintro e w2 ⟨rfl, hb2⟩
      have F2 := (F1.below ((Below.refl _ _).alloc (Nat.le_refl _) (.cells #[.int .i64 0, .int .i64 0] 24))).below hb2
      obtain ⟨d0, d1, f0, f1⟩ := F2.cells
      obtain ⟨p0, p1⟩ := F2.put 3 1
      have HB2 := hide (below_fault (u := .int .i64 3) (v := .int .i64 1) (HB.out.trans ((below_new hb2).mono HB.out.size)) (Nat.le_refl w.heap.size))
      clear hb2
      go_wp2_with fail
      exact bodyPost_ret (v := .tuple #[.int .i64 0, fv (3, 1)]) (by simp [results, Try.results19, go_sem, fv, p0, p1]) rfl ⟨_, by rw [HE.out], fun h => by rw [HE.out] at h; simp at h, fun _ => rfl, HB2.out⟩
    · by_cases hm1 : m < 1
      · have HE : Hid (powF a n m = (3, 2)) := by unfold Hid powF; rw [h, if_neg (by decide), if_neg hn0, if_pos hm1]
        have C := fun W => hide (fault_any 3 2 W)
        clear h hok
        go_enter Try.func19, Try.ntmps19
        go_wp2_with fail
        refine (L _ _ (by simp)).out.mono ?_
        rintro e w1 ⟨rfl, hb⟩
        simp only [fv]
        have F1 := (((FC.fresh w).below ((Below.refl _ _).alloc (Nat.le_refl _) (.cells #[.int .i64 a, .int .i64 n, .int .i64 m] 3))).below hb)
        have hlt := F1.lt
        have HB := hide (below_new (below_new2 hb))
        clear hb
        go_wp2_with fail
        refine (C _).out.mono ?_
        rintro e w2 ⟨rfl, hb2⟩
        have F2 := (F1.below ((Below.refl _ _).alloc (Nat.le_refl _) (.cells #[.int .i64 0, .int .i64 0] 24))).below hb2
        obtain ⟨d0, d1, f0, f1⟩ := F2.cells
        obtain ⟨p0, p1⟩ := F2.put 3 2
        have HB2 := hide (below_fault (u := .int .i64 3) (v := .int .i64 2) (HB.out.trans ((below_new hb2).mono HB.out.size)) (Nat.le_refl w.heap.size))
        clear hb2
        go_wp2_with fail
        exact bodyPost_ret (v := .tuple #[.int .i64 0, fv (3, 2)]) (by simp [results, Try.results19, go_sem, fv, p0, p1]) rfl ⟨_, by rw [HE.out], fun h => by rw [HE.out] at h; simp at h, fun _ => rfl, HB2.out⟩
      · have HE : Hid (powF a n m = (0, 0)) := by unfold Hid powF; rw [h, if_neg (by decide), if_neg hn0, if_neg hm1]
        obtain ⟨N, rfl⟩ : ∃ N : Nat, n = N := ⟨n.toNat, by omega⟩
        have C := fun W => hide (raise_any a m N W (by omega) (by omega) (by omega) (by omega) (by omega))
        have HX : Hid (((N : Int)).toNat = N) := by unfold Hid; omega
        clear h hok
        go_enter Try.func19, Try.ntmps19
        go_wp2_with fail
        refine (L _ _ (by simp)).out.mono ?_
        rintro e w1 ⟨rfl, hb⟩
        simp only [fv]
        have F1 := (((FC.fresh w).below ((Below.refl _ _).alloc (Nat.le_refl _) (.cells #[.int .i64 a, .int .i64 N, .int .i64 m] 3))).below hb)
        have hlt := F1.lt
        have HB := hide (below_new (below_new2 hb))
        clear hb
        go_wp2_with fail
        refine (C _).out.mono ?_
        rintro e w2 ⟨rfl, k, rfl⟩
        have F2 := (F1.below (bel_fz w1)).below (below_drewN (Below.refl _ _) k)
        obtain ⟨d0, d1, f0, f1⟩ := F2.cells
        obtain ⟨p0, p1⟩ := F2.put 0 0
        have HB2 := hide (below_fault (u := .int .i64 0) (v := .int .i64 0) (below_drewN (HB.out.trans ((bel_fz w1).mono HB.out.size)) k) (Nat.le_refl w.heap.size))
        go_wp2_with fail
        refine bodyPost_ret (v := .tuple #[.int .i64 (a ^ N % m), fv (0, 0)]) (by simp [results, Try.results19, go_sem, fv, p0, p1]) rfl ⟨_, by rw [HE.out], fun _ => by rw [HX.out], fun h => by rw [HE.out] at h; simp at h, HB2.out⟩
  · rw [h] at L
    have HE : Hid (powF a n m = (3, i)) := by unfold Hid powF; rw [h, if_pos (by simp)]
    clear h
    go_enter Try.func19, Try.ntmps19
    go_wp2_with fail
    refine (L _ _ (by simp)).out.mono ?_
    rintro e w1 ⟨rfl, hb⟩
    simp only [fv]
    have F1 := (((FC.fresh w).below ((Below.refl _ _).alloc (Nat.le_refl _) (.cells #[.int .i64 a, .int .i64 n, .int .i64 m] 3))).below hb)
    have hlt := F1.lt
    have HB := hide (below_new (below_new2 hb))
    obtain ⟨d0, d1, f0, f1⟩ := F1.cells
    obtain ⟨p0, p1, _, _⟩ := (((F1.set0 3).set1 i).below ((Below.refl _ _).alloc (Nat.le_refl _) (.cells #[.int .i64 3, .int .i64 i] 24))).cells
    have HB2 := hide (below_fault (u := .int .i64 3) (v := .int .i64 i) HB.out (Nat.le_refl w.heap.size))
    clear hb
    go_wp2_with fail
    go_region
    go_wp2_with fail
    exact bodyPost_ret (v := .tuple #[.int .i64 0, fv (3, i)]) (by simp [results, Try.results19, go_sem, fv, p0, p1]) rfl ⟨0, by rw [HE.out], fun h => by rw [HE.out] at h; simp at h, fun _ => rfl, (HB2.out.alloc HB2.out.size _).drew⟩
end Go.Proofs.Ytddnchjnbgdocaa
