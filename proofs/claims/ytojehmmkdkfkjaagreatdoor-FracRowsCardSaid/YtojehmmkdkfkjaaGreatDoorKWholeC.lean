/- The walks of whole.Inverse and Root. -/
import Derived.Test.YtojehmmkdkfkjaaGreatDoorKWholeB
namespace Go.Proofs.YtojehmmkdkfkjaaGreatDoor
open Go.RowKit

theorem emod_gcd (a m : Int) : Int.gcd (a % m) m = Int.gcd a m := by
  rw [Int.gcd_comm, Int.gcd_comm a m]
  have h1 : Int.gcd m (a % m) ∣ Int.gcd m a := Int.dvd_gcd (Int.gcd_dvd_left m (a % m)) (by
    have h2 := Int.gcd_dvd_left m (a % m)
    have h3 := Int.gcd_dvd_right m (a % m)
    have h5 : (Int.gcd m (a % m) : Int) ∣ m * (a / m) + a % m := Int.dvd_add (Int.dvd_mul_of_dvd_left h2) h3
    rwa [Int.mul_ediv_add_emod a m] at h5)
  have h4 : Int.gcd m a ∣ Int.gcd m (a % m) := Int.dvd_gcd (Int.gcd_dvd_left m a) (by
    have h2 := Int.gcd_dvd_left m a
    have h3 := Int.gcd_dvd_right m a
    rw [Int.emod_def]
    exact Int.dvd_sub h3 (Int.dvd_mul_of_dvd_left h2))
  exact Nat.dvd_antisymm h1 h4

theorem inv_law {a m u : Int} (h : m ∣ 1 - u * (a % m)) : m ∣ a * (u % m) - 1 := by
  obtain ⟨x, hx⟩ := h
  rw [Int.emod_def] at hx
  rw [Int.emod_def]
  generalize a / m = s at hx
  generalize u / m = t
  refine ⟨u * s - x - a * t, ?_⟩
  have e : u * a = u * (m * s) + 1 - m * x := by
    have e2 : u * (a - m * s) = 1 - m * x := by omega
    rw [Int.mul_sub] at e2
    omega
  have e3 : a * (u - m * t) = u * a - a * (m * t) := by rw [Int.mul_sub, Int.mul_comm a u]
  rw [e3, e]
  grind

/-- what Inverse hands back -/
def InvOk (a m p : Int) : Prop := 0 ≤ p ∧ p < m ∧ m ∣ a * p - 1

set_option maxRecDepth 100000 in
set_option maxHeartbeats 1600000 in
theorem inverse_any (a m : Int) (w : World) :
    Calls Tryz.prog 13 #[.int .i64 a, .int .i64 m] w (RetNF w (invF a m) (InvOk a m)) := by
  have L : ∀ (W : World) (g : Nat), g = W.heap.size → Hid (Calls Tryz.prog 27 #[.slice (some ⟨g, 0, none⟩) 2 2] (W.alloc (.cells #[.int .i64 a, .int .i64 m] 3)) (RetFault (W.alloc (.cells #[.int .i64 a, .int .i64 m] 3)) (lookK 0 [a, m]))) := fun W g hg => look2 a m W g hg
  rcases lookK_cases 0 [a, m] with ⟨h, hok⟩ | ⟨i, h⟩
  · rw [h] at L
    have ha := ok_bounds (hok a (by simp))
    have hm := ok_bounds (hok m (by simp))
    by_cases hm1 : m < 1
    · have HE : Hid (invF a m = (3, 1)) := by unfold Hid invF; rw [h, if_neg (by decide), if_pos hm1]
      have C := fun W => hide (fault_any 3 1 W)
      clear h hok
      go_enter Tryz.func13, Tryz.ntmps13
      go_wp2_with fail
      refine (L _ _ (by simp)).out.mono ?_
      rintro e w1 ⟨rfl, hb⟩
      simp only [fv]
      have F1 := (((FC.fresh w).below ((Below.refl _ _).alloc (Nat.le_refl _) (.cells #[.int .i64 a, .int .i64 m] 3))).below hb)
      have hlt := F1.lt
      have HB := hide (below_new (below_new2 hb))
      clear hb
      go_wp2_with fail
      refine (C _).out.mono ?_
      rintro e w2 ⟨rfl, hb2⟩
      have F2 := (F1.below (bel_fz w1)).below hb2
      obtain ⟨d0, d1, f0, f1⟩ := F2.cells
      obtain ⟨p0, p1⟩ := F2.put 3 1
      have HB2 := hide (below_fault (u := .int .i64 3) (v := .int .i64 1) (HB.out.trans ((below_new hb2).mono HB.out.size)) (Nat.le_refl w.heap.size))
      clear hb2
      go_wp2_with fail
      exact bodyPost_ret (v := .tuple #[.int .i64 0, fv (3, 1)]) (by simp [results, Tryz.results13, go_sem, fv, p0, p1]) rfl ⟨_, by rw [HE.out], fun h => by rw [HE.out] at h; simp at h, fun _ => rfl, HB2.out⟩
    · have q5 : decide (m < 1) = false := by simpa using hm1
      have HM : Hid (1 ≤ m ∧ m ≤ 1000000000000000000 ∧ -1000000000000000000 ≤ a ∧ a ≤ 1000000000000000000) := by unfold Hid; omega
      have x0 := Int.emod_nonneg a (b := m) (by omega)
      have x1 := Int.emod_lt_of_pos a (b := m) (by omega)
      have CM := fun W => hide (mod_any a m W (by omega) (by omega) (by omega) (by omega))
      have CE := fun W => hide (extended_any (a % m) m W (by omega) (by omega))
      unfold RetExt at CE
      rw [emod_gcd] at CE
      by_cases hg : Int.gcd a m = 1
      · have HE : Hid (invF a m = (0, 0)) := by unfold Hid invF; rw [h, if_neg (by decide), if_neg hm1, if_neg (by rw [hg]; decide)]
        rw [hg] at CE
        simp only [show ((1 : Nat) : Int) = 1 from rfl] at CE
        have CF : Hid (∀ (u : Int) (W : World), u.natAbs ≤ 1000000000000000000 → Calls Tryz.prog 31 #[.int .i64 u, .int .i64 m] W fun e w' => e = .returned (.int .i64 (u % m)) ∧ W = w') := fun u W hu => mod_any u m W (by omega) (by omega) (by omega) (by omega)
        clear h hok ha hm hm1 x0 x1 hg
        go_enter Tryz.func13, Tryz.ntmps13
        go_wp2_with fail
        refine (L _ _ (by simp)).out.mono ?_
        rintro e w1 ⟨rfl, hb⟩
        simp only [fv]
        have F1 := (((FC.fresh w).below ((Below.refl _ _).alloc (Nat.le_refl _) (.cells #[.int .i64 a, .int .i64 m] 3))).below hb)
        have hlt := F1.lt
        have HB := hide (below_new (below_new2 hb))
        obtain ⟨d0, d1, f0, f1⟩ := F1.cells
        obtain ⟨p0, p1, _, _⟩ := (((F1.set0 0).set1 0).below (bel_fz _)).cells
        have HB2 := hide (below_fault (u := .int .i64 0) (v := .int .i64 0) HB.out (Nat.le_refl w.heap.size))
        clear hb
        go_wp2_with fail
        refine (CM _).out.mono ?_
        rintro e w2 ⟨rfl, rfl⟩
        go_wp2_with fail
        refine (CE _).out.mono ?_
        rintro e w2 ⟨u, rfl, hu, hub, _, rfl⟩
        have HU := hide hu
        have C2 := fun W => hide (CF.out u W (by have := HM.out; omega))
        have HI : Hid (InvOk a m (u % m)) := ⟨Int.emod_nonneg _ (by have := HM.out; omega), Int.emod_lt_of_pos _ (by have := HM.out; omega), inv_law HU.out⟩
        clear hu hub
        go_wp2_with fail
        refine (C2 _).out.mono ?_
        rintro e w3 ⟨rfl, rfl⟩
        go_wp2_with fail
        exact bodyPost_ret (v := .tuple #[.int .i64 (u % m), fv (0, 0)]) (by simp [results, Tryz.results13, go_sem, fv, p0, p1]) rfl ⟨_, by rw [HE.out], fun _ => HI.out, fun h => by rw [HE.out] at h; simp at h, HB2.out.alloc HB2.out.size _⟩
      · have HE : Hid (invF a m = (5, 0)) := by unfold Hid invF; rw [h, if_neg (by decide), if_neg hm1, if_pos hg]
        have C := fun W => hide (fault_any 5 0 W)
        obtain ⟨G, hG⟩ : ∃ G : Nat, Int.gcd a m = G := ⟨_, rfl⟩
        rw [hG] at CE hg
        have q1 : ((G : Int) != 1) = true := by simp; omega
        clear h hok ha hm hm1 x0 x1 hG hg
        go_enter Tryz.func13, Tryz.ntmps13
        go_wp2_with fail
        refine (L _ _ (by simp)).out.mono ?_
        rintro e w1 ⟨rfl, hb⟩
        simp only [fv]
        have F1 := (((FC.fresh w).below ((Below.refl _ _).alloc (Nat.le_refl _) (.cells #[.int .i64 a, .int .i64 m] 3))).below hb)
        have hlt := F1.lt
        have HB := hide (below_new (below_new2 hb))
        clear hb
        go_wp2_with fail
        refine (CM _).out.mono ?_
        rintro e w2 ⟨rfl, rfl⟩
        go_wp2_with fail
        refine (CE _).out.mono ?_
        rintro e w2 ⟨u, rfl, _, _, _, rfl⟩
        go_wp2_with fail
        refine (C _).out.mono ?_
        rintro e w2 ⟨rfl, hb2⟩
        have F2 := (F1.below (bel_fz w1)).below hb2
        obtain ⟨d0, d1, f0, f1⟩ := F2.cells
        obtain ⟨p0, p1⟩ := F2.put 5 0
        have HB2 := hide (below_fault (u := .int .i64 5) (v := .int .i64 0) (HB.out.trans ((below_new hb2).mono HB.out.size)) (Nat.le_refl w.heap.size))
        clear hb2
        go_wp2_with fail
        exact bodyPost_ret (v := .tuple #[.int .i64 0, fv (5, 0)]) (by simp [results, Tryz.results13, go_sem, fv, p0, p1]) rfl ⟨_, by rw [HE.out], fun h => by rw [HE.out] at h; simp at h, fun _ => rfl, HB2.out⟩
  · rw [h] at L
    have HE : Hid (invF a m = (3, i)) := by unfold Hid invF; rw [h, if_pos (by simp)]
    clear h
    go_enter Tryz.func13, Tryz.ntmps13
    go_wp2_with fail
    refine (L _ _ (by simp)).out.mono ?_
    rintro e w1 ⟨rfl, hb⟩
    simp only [fv]
    have F1 := (((FC.fresh w).below ((Below.refl _ _).alloc (Nat.le_refl _) (.cells #[.int .i64 a, .int .i64 m] 3))).below hb)
    have hlt := F1.lt
    have HB := hide (below_new (below_new2 hb))
    obtain ⟨d0, d1, f0, f1⟩ := F1.cells
    obtain ⟨p0, p1, _, _⟩ := (((F1.set0 3).set1 i).below ((Below.refl _ _).alloc (Nat.le_refl _) (.cells #[.int .i64 3, .int .i64 i] 25))).cells
    have HB2 := hide (below_fault (u := .int .i64 3) (v := .int .i64 i) HB.out (Nat.le_refl w.heap.size))
    clear hb
    go_wp2_with fail
    go_region
    go_wp2_with fail
    exact bodyPost_ret (v := .tuple #[.int .i64 0, fv (3, i)]) (by simp [results, Tryz.results13, go_sem, fv, p0, p1]) rfl ⟨0, by rw [HE.out], fun h => by rw [HE.out] at h; simp at h, fun _ => rfl, (HB2.out.alloc HB2.out.size _).drew⟩

end Go.Proofs.YtojehmmkdkfkjaaGreatDoor
