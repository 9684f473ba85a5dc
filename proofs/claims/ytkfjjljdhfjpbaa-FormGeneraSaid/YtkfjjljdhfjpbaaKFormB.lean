/- The walks of quad.Check and of the answers' FormFault. -/
import Derived.Test.YtkfjjljdhfjpbaaKFormA
namespace Go.Proofs.Ytkfjjljdhfjpbaa
open Go.RowKit

theorem formF_small {A B C : Int} {k : Nat} (h : smallF A B C = (3, (k : Int))) : formF A B C = (3, (k : Int)) := by unfold formF; rw [h, if_pos (by simp)]
theorem formF_kind {A B C : Int} (h : smallF A B C = (0, 0)) (h2 : A < 1 ∨ 0 ≤ B * B - 4 * A * C) : formF A B C = (7, 0) := by unfold formF; rw [h, if_neg (by simp), if_pos h2]
theorem formF_form {A B C : Int} (h : smallF A B C = (0, 0)) (h2 : ¬ (A < 1 ∨ 0 ≤ B * B - 4 * A * C)) (h3 : Int.gcd A (Int.gcd B C) ≠ 1) : formF A B C = (6, 0) := by unfold formF; rw [h, if_neg (by simp), if_neg h2, if_pos h3]
theorem formF_none {A B C : Int} (h : smallF A B C = (0, 0)) (h2 : ¬ (A < 1 ∨ 0 ≤ B * B - 4 * A * C)) (h3 : ¬ Int.gcd A (Int.gcd B C) ≠ 1) : formF A B C = (0, 0) := by unfold formF; rw [h, if_neg (by simp), if_neg h2, if_neg h3]

theorem bel3 (w : World) (o1 o2 o3 : Obj) : Below w.heap.size w (((w.alloc o1).alloc o2).alloc o3) :=
  (((Below.refl _ _).alloc (Nat.le_refl _) _).alloc (by simp) _).alloc (by simp; omega) _

/-- the first k are small -/
def SmP (A B C k : Int) : Prop := (0 < k → smallB A = true) ∧ (1 < k → smallB B = true) ∧ (2 < k → smallB C = true)
theorem gcd_le {a b : Int} {N : Nat} (ha : a.natAbs ≤ N) (hb : b.natAbs ≤ N) : Int.gcd a b ≤ N := by
  by_cases h0 : a = 0
  · subst h0
    rw [Int.gcd_zero_left]; exact hb
  · have h1 := Nat.gcd_le_left b.natAbs (m := a.natAbs) (by omega)
    have h2 : Int.gcd a b = Nat.gcd a.natAbs b.natAbs := rfl
    omega
theorem gcd_three (A B C : Int) : Int.gcd (Int.gcd A B) C = Int.gcd A (Int.gcd B C) := by
  show Nat.gcd (Nat.gcd A.natAbs B.natAbs) C.natAbs = Nat.gcd A.natAbs (Nat.gcd B.natAbs C.natAbs)
  exact Nat.gcd_assoc _ _ _
theorem bel_obj (w : World) (o : Obj) : Below w.heap.size w (w.alloc o) := (Below.refl _ _).alloc (Nat.le_refl _) _

set_option maxRecDepth 100000 in
set_option maxHeartbeats 6400000 in
theorem check_any (A B C : Int) (w : World) :
    Calls Try.prog 15 #[.agg #[.int .i64 A, .int .i64 B, .int .i64 C]] w (RetFault w (formF A B C)) := by
  have F0 : Hid (FC (((w.alloc (.cells #[.int .i64 A, .int .i64 B, .int .i64 C] 23)).alloc (.cells #[.int .i64 0, .int .i64 0] 26)).alloc (.cells #[.int .i64 A, .int .i64 B, .int .i64 C] 3)) (w.heap.size + 1) 0 0) := by
    have := ((FC.fresh (w.alloc (.cells #[.int .i64 A, .int .i64 B, .int .i64 C] 23)))).below (bel_obj _ (.cells #[.int .i64 A, .int .i64 B, .int .i64 C] 3))
    unfold Hid
    simpa using this
  have BW := hide (bel3 w (.cells #[.int .i64 A, .int .i64 B, .int .i64 C] 23) (.cells #[.int .i64 0, .int .i64 0] 26) (.cells #[.int .i64 A, .int .i64 B, .int .i64 C] 3))
  go_enter Try.func15, Try.ntmps15
  go_wp2_with fail
  go_loopw [3, 4, 13] (fun _ _ x wr => ∃ k : Int, x = .int .i64 k ∧ (k = 0 ∨ k = 1 ∨ k = 2 ∨ k = 3) ∧ Hid (SmP A B C k) ∧ wr = (((w.alloc (.cells #[.int .i64 A, .int .i64 B, .int .i64 C] 23)).alloc (.cells #[.int .i64 0, .int .i64 0] 26)).alloc (.cells #[.int .i64 A, .int .i64 B, .int .i64 C] 3))) (fun _ _ x _ => 3 - (intOf x).toNat)
  case atStart => exact ⟨0, rfl, by omega, ⟨fun h => by omega, fun h => by omega, fun h => by omega⟩, rfl⟩
  case round =>
    obtain ⟨k, rfl, hk, HP, rfl⟩ := hrel
    rcases hk with rfl | rfl | rfl | rfl
    · -- number 0
      cases hs : smallB A
      · have HR : Hid (formF A B C = (3, 0)) := formF_small (k := 0) (by unfold smallF; have hp := HP.out; rw [lookS, if_neg (by rw [hs]; simp)])
        have hd := small_out hs
        have hd2 : decide (A < -1000000) = true ∨ (decide (A < -1000000) = false ∧ decide (1000000 < A) = true) := by
          simp only [decide_eq_true_eq, decide_eq_false_iff_not]; omega
        have C3 := fun W => hide (qfault_any 3 0 W)
        clear hd hs
        rcases hd2 with hd | ⟨hd, hd2⟩
        all_goals
          go_wp2_with fail
          refine (C3 _).out.mono ?_
          rintro e w1 ⟨rfl, hb⟩
          obtain ⟨d0, d1, f0, f1⟩ := (F0.out.below hb).cells
          obtain ⟨p0, p1⟩ := (F0.out.below hb).put 3 0
          have HB := hide (below_fault (u := .int .i64 3) (v := .int .i64 0) (BW.out.trans (hb.mono BW.out.size)) (Nat.le_succ w.heap.size))
          clear hb
          go_wp2_with fail
          exact bodyPost_ret (v := fv (3, 0)) (by simp [results, Try.results15, go_sem, fv, p0, p1]) rfl ⟨by rw [HR.out], HB.out⟩
      · have hd := small_bounds hs
        have HP2 : Hid (SmP A B C 1) := by
          have hp := HP.out
          refine ⟨fun _ => hs, fun h => (by omega), fun h => (by omega)⟩
        have q1 : decide (A < -1000000) = false := by simp; omega
        have q2 : decide (1000000 < A) = false := by simp; omega
        clear hd hs
        go_wp2_with fail
        exact ⟨⟨1, rfl, by omega, HP2, trivial⟩, by simp [intOf]⟩
    · -- number 1
      cases hs : smallB B
      · have HR : Hid (formF A B C = (3, 1)) := formF_small (k := 1) (by unfold smallF; have hp := HP.out; rw [lookS, if_pos (hp.1 (by decide))]; rw [lookS, if_neg (by rw [hs]; simp)])
        have hd := small_out hs
        have hd2 : decide (B < -1000000) = true ∨ (decide (B < -1000000) = false ∧ decide (1000000 < B) = true) := by
          simp only [decide_eq_true_eq, decide_eq_false_iff_not]; omega
        have C3 := fun W => hide (qfault_any 3 1 W)
        clear hd hs
        rcases hd2 with hd | ⟨hd, hd2⟩
        all_goals
          go_wp2_with fail
          refine (C3 _).out.mono ?_
          rintro e w1 ⟨rfl, hb⟩
          obtain ⟨d0, d1, f0, f1⟩ := (F0.out.below hb).cells
          obtain ⟨p0, p1⟩ := (F0.out.below hb).put 3 1
          have HB := hide (below_fault (u := .int .i64 3) (v := .int .i64 1) (BW.out.trans (hb.mono BW.out.size)) (Nat.le_succ w.heap.size))
          clear hb
          go_wp2_with fail
          exact bodyPost_ret (v := fv (3, 1)) (by simp [results, Try.results15, go_sem, fv, p0, p1]) rfl ⟨by rw [HR.out], HB.out⟩
      · have hd := small_bounds hs
        have HP2 : Hid (SmP A B C 2) := by
          have hp := HP.out
          refine ⟨fun _ => hp.1 (by decide), fun h => hs, fun h => (by omega)⟩
        have q1 : decide (B < -1000000) = false := by simp; omega
        have q2 : decide (1000000 < B) = false := by simp; omega
        clear hd hs
        go_wp2_with fail
        exact ⟨⟨2, rfl, by omega, HP2, trivial⟩, by simp [intOf]⟩
    · -- number 2
      cases hs : smallB C
      · have HR : Hid (formF A B C = (3, 2)) := formF_small (k := 2) (by unfold smallF; have hp := HP.out; rw [lookS, if_pos (hp.1 (by decide))]; rw [lookS, if_pos (hp.2.1 (by decide))]; rw [lookS, if_neg (by rw [hs]; simp)])
        have hd := small_out hs
        have hd2 : decide (C < -1000000) = true ∨ (decide (C < -1000000) = false ∧ decide (1000000 < C) = true) := by
          simp only [decide_eq_true_eq, decide_eq_false_iff_not]; omega
        have C3 := fun W => hide (qfault_any 3 2 W)
        clear hd hs
        rcases hd2 with hd | ⟨hd, hd2⟩
        all_goals
          go_wp2_with fail
          refine (C3 _).out.mono ?_
          rintro e w1 ⟨rfl, hb⟩
          obtain ⟨d0, d1, f0, f1⟩ := (F0.out.below hb).cells
          obtain ⟨p0, p1⟩ := (F0.out.below hb).put 3 2
          have HB := hide (below_fault (u := .int .i64 3) (v := .int .i64 2) (BW.out.trans (hb.mono BW.out.size)) (Nat.le_succ w.heap.size))
          clear hb
          go_wp2_with fail
          exact bodyPost_ret (v := fv (3, 2)) (by simp [results, Try.results15, go_sem, fv, p0, p1]) rfl ⟨by rw [HR.out], HB.out⟩
      · have hd := small_bounds hs
        have HP2 : Hid (SmP A B C 3) := by
          have hp := HP.out
          refine ⟨fun _ => hp.1 (by decide), fun h => hp.2.1 (by decide), fun h => hs⟩
        have q1 : decide (C < -1000000) = false := by simp; omega
        have q2 : decide (1000000 < C) = false := by simp; omega
        clear hd hs
        go_wp2_with fail
        exact ⟨⟨3, rfl, by omega, HP2, trivial⟩, by simp [intOf]⟩
    · -- all small
      have hp := HP.out
      have hA := hp.1 (by decide)
      have hB := hp.2.1 (by decide)
      have hC := hp.2.2 (by decide)
      have hsm : smallF A B C = (0, 0) := by unfold smallF; rw [lookS, if_pos hA, lookS, if_pos hB, lookS, if_pos hC, lookS]
      have bA := small_bounds hA
      have bB := small_bounds hB
      have bC := small_bounds hC
      have CD := fun W => hide (disc_any A B C W (by omega) (by omega) (by omega))
      obtain ⟨D, hD⟩ : ∃ D, B * B - 4 * A * C = D := ⟨_, rfl⟩
      rw [hD] at CD
      by_cases h1 : A < 1
      · have HR : Hid (formF A B C = (7, 0)) := formF_kind hsm (.inl h1)
        have C7 := fun W => hide (qfault_any 7 0 W)
        have q1 : decide (A < 1) = true := by simpa using h1
        clear hp hA hB hC hsm bA bB bC hD h1
        go_wp2_with fail
        refine (C7 _).out.mono ?_
        rintro e w1 ⟨rfl, hb⟩
        obtain ⟨d0, d1, f0, f1⟩ := (F0.out.below hb).cells
        obtain ⟨p0, p1⟩ := (F0.out.below hb).put 7 0
        have HB := hide (below_fault (u := .int .i64 7) (v := .int .i64 0) (BW.out.trans (hb.mono BW.out.size)) (Nat.le_succ w.heap.size))
        clear hb
        go_wp2_with fail
        exact bodyPost_ret (v := fv (7, 0)) (by simp [results, Try.results15, go_sem, fv, p0, p1]) rfl ⟨by rw [HR.out], HB.out⟩
      · by_cases h2 : 0 ≤ D
        · have HR : Hid (formF A B C = (7, 0)) := formF_kind hsm (.inr (by rw [hD]; exact h2))
          have C7 := fun W => hide (qfault_any 7 0 W)
          have q1 : decide (A < 1) = false := by simpa using h1
          have q2 : decide (0 ≤ D) = true := by simpa using h2
          clear hp hA hB hC hsm bA bB bC hD h1 h2
          go_wp2_with fail
          refine (CD _).out.mono ?_
          rintro e w0 ⟨rfl, hb0⟩
          have F1 := hide (F0.out.below hb0)
          have BW1 := hide (BW.out.trans (hb0.mono BW.out.size))
          clear hb0 F0 BW
          have F0 := F1
          have BW := BW1
          clear F1 BW1
          go_wp2_with fail
          refine (C7 _).out.mono ?_
          rintro e w1 ⟨rfl, hb⟩
          obtain ⟨d0, d1, f0, f1⟩ := (F0.out.below hb).cells
          obtain ⟨p0, p1⟩ := (F0.out.below hb).put 7 0
          have HB := hide (below_fault (u := .int .i64 7) (v := .int .i64 0) (BW.out.trans (hb.mono BW.out.size)) (Nat.le_succ w.heap.size))
          clear hb
          go_wp2_with fail
          exact bodyPost_ret (v := fv (7, 0)) (by simp [results, Try.results15, go_sem, fv, p0, p1]) rfl ⟨by rw [HR.out], HB.out⟩
        · have q1 : decide (A < 1) = false := by simpa using h1
          have q2 : decide (0 ≤ D) = false := by simpa using h2
          have M0 := hide ((MC.made w A B C).below ((bel_obj _ (.cells #[.int .i64 0, .int .i64 0] 26)).trans ((bel_obj _ (.cells #[.int .i64 A, .int .i64 B, .int .i64 C] 3)).mono (by simp))))
          have BF := hide (And.intro bA (And.intro bB bC))
          have D1 := fun W => hide (divisor_any B C W (by omega) (by omega) (by omega) (by omega))
          have g1b : (Int.gcd B C : Int) ≤ 1000000 := by
            have := gcd_le (a := B) (b := C) (N := 1000000) (by omega) (by omega)
            omega
          have D2 := fun W => hide (divisor_any A (Int.gcd B C) W (by omega) (by omega) (by omega) (by omega))
          have HSM := hide hsm
          have HD := hide hD
          have h12 := hide (And.intro h1 h2)
          obtain ⟨G1, hG1⟩ : ∃ G1 : Nat, Int.gcd B C = G1 := ⟨_, rfl⟩
          have HG1 := hide hG1
          rw [hG1] at D1 D2
          obtain ⟨G2, hG2⟩ : ∃ G2 : Nat, Int.gcd A (G1 : Int) = G2 := ⟨_, rfl⟩
          have HG2 := hide hG2
          rw [hG2] at D2
          clear hp hA hB hC hsm bA bB bC hD h1 h2 g1b hG1 hG2
          go_wp2_with fail
          refine (CD _).out.mono ?_
          rintro e w0 ⟨rfl, hb0⟩
          have F1 := hide (F0.out.below hb0)
          have M1 := hide (M0.out.below (by simpa using hb0))
          have BW1 := hide (BW.out.trans (hb0.mono BW.out.size))
          obtain ⟨m0, m1, m2⟩ := M1.out.cells
          obtain ⟨d0, d1, f0, f1⟩ := F1.out.cells
          clear hb0 F0 BW M0
          by_cases hg : G2 = 1
          · have HR : Hid (formF A B C = (0, 0)) := formF_none HSM.out (by rw [HD.out]; have := h12.out; omega) (by rw [HG1.out, HG2.out, hg]; simp)
            have q3 : ((G2 : Int) != 1) = false := by rw [hg]; rfl
            clear hg
            go_wp2_with fail
            go_quiet ((go_at_call 19; first | (with_reducible refine Calls.quiet_of (D1 _).out) | (with_reducible refine Calls.quiet_of (D2 _).out)))
            go_wp2_with fail
            obtain ⟨p0, p1⟩ := (F1.out.below (below_drewN (Below.refl _ _) nq)).put 0 0
            exact bodyPost_ret (v := fv (0, 0)) (by simp [results, Try.results15, go_sem, fv, p0, p1]) rfl ⟨by rw [HR.out], below_fault (below_drewN BW1.out nq) (Nat.le_succ w.heap.size)⟩
          · have HR : Hid (formF A B C = (6, 0)) := formF_form HSM.out (by rw [HD.out]; have := h12.out; omega) (by rw [HG1.out, HG2.out]; exact hg)
            have q3 : ((G2 : Int) != 1) = true := by rw [bne_iff_ne]; omega
            have C6 := fun W => hide (qfault_any 6 0 W)
            clear hg
            go_wp2_with fail
            go_quiet ((go_at_call 19; first | (with_reducible refine Calls.quiet_of (D1 _).out) | (with_reducible refine Calls.quiet_of (D2 _).out)))
            go_wp2_with fail
            refine (C6 _).out.mono ?_
            rintro e w1 ⟨rfl, hb⟩
            have F2 := (F1.out.below (below_drewN (Below.refl _ _) nq)).below hb
            obtain ⟨d0, d1, f0, f1⟩ := F2.cells
            obtain ⟨p0, p1⟩ := F2.put 6 0
            have HB := hide (below_fault (u := .int .i64 6) (v := .int .i64 0) ((below_drewN BW1.out nq).trans (hb.mono BW1.out.size)) (Nat.le_succ w.heap.size))
            clear hb F2
            go_wp2_with fail
            exact bodyPost_ret (v := fv (6, 0)) (by simp [results, Try.results15, go_sem, fv, p0, p1]) rfl ⟨by rw [HR.out], HB.out⟩

set_option maxRecDepth 100000 in
set_option maxHeartbeats 6400000 in
theorem formFault_any (A B C : Int) (w : World) :
    Calls Try.prog 5 #[.agg #[.int .i64 A, .int .i64 B, .int .i64 C]] w (RetFault w (formF A B C)) := by
  have F0 : Hid (FC (((w.alloc (.cells #[.int .i64 A, .int .i64 B, .int .i64 C] 23)).alloc (.cells #[.int .i64 0, .int .i64 0] 26)).alloc (.cells #[.int .i64 A, .int .i64 B, .int .i64 C] 3)) (w.heap.size + 1) 0 0) := by
    have := ((FC.fresh (w.alloc (.cells #[.int .i64 A, .int .i64 B, .int .i64 C] 23)))).below (bel_obj _ (.cells #[.int .i64 A, .int .i64 B, .int .i64 C] 3))
    unfold Hid
    simpa using this
  have BW := hide (bel3 w (.cells #[.int .i64 A, .int .i64 B, .int .i64 C] 23) (.cells #[.int .i64 0, .int .i64 0] 26) (.cells #[.int .i64 A, .int .i64 B, .int .i64 C] 3))
  go_enter Try.func5, Try.ntmps5
  go_wp2_with fail
  go_loopw [4] (fun x wr => ∃ k : Int, x = .int .i64 k ∧ (k = 0 ∨ k = 1 ∨ k = 2 ∨ k = 3) ∧ Hid (SmP A B C k) ∧ wr = (((w.alloc (.cells #[.int .i64 A, .int .i64 B, .int .i64 C] 23)).alloc (.cells #[.int .i64 0, .int .i64 0] 26)).alloc (.cells #[.int .i64 A, .int .i64 B, .int .i64 C] 3))) (fun x _ => 3 - (intOf x).toNat)
  case atStart => exact ⟨0, rfl, by omega, ⟨fun h => by omega, fun h => by omega, fun h => by omega⟩, rfl⟩
  case round =>
    obtain ⟨k, rfl, hk, HP, rfl⟩ := hrel
    rcases hk with rfl | rfl | rfl | rfl
    · -- number 0
      cases hs : smallB A
      · have HR : Hid (formF A B C = (3, 0)) := formF_small (k := 0) (by unfold smallF; have hp := HP.out; rw [lookS, if_neg (by rw [hs]; simp)])
        have hd := small_out hs
        have hd2 : decide (1000000 < A) = true ∨ (decide (1000000 < A) = false ∧ decide (A < -1000000) = true) := by
          simp only [decide_eq_true_eq, decide_eq_false_iff_not]; omega
        have C3 := fun W => hide (refF_any 3 0 W)
        clear hd hs
        rcases hd2 with hd | ⟨hd, hd2⟩
        all_goals
          go_wp2_with fail
          refine (C3 _).out.mono ?_
          rintro e w1 ⟨rfl, hb⟩
          obtain ⟨d0, d1, f0, f1⟩ := (F0.out.below hb).cells
          obtain ⟨p0, p1⟩ := (F0.out.below hb).put 3 0
          have HB := hide (below_fault (u := .int .i64 3) (v := .int .i64 0) (BW.out.trans (hb.mono BW.out.size)) (Nat.le_succ w.heap.size))
          clear hb
          go_wp2_with fail
          exact bodyPost_ret (v := fv (3, 0)) (by simp [results, Try.results5, go_sem, fv, p0, p1]) rfl ⟨by rw [HR.out], HB.out⟩
      · have hd := small_bounds hs
        have HP2 : Hid (SmP A B C 1) := by
          have hp := HP.out
          refine ⟨fun _ => hs, fun h => (by omega), fun h => (by omega)⟩
        have q1 : decide (A < -1000000) = false := by simp; omega
        have q2 : decide (1000000 < A) = false := by simp; omega
        clear hd hs
        go_wp2_with fail
        exact ⟨⟨1, rfl, by omega, HP2, trivial⟩, by simp [intOf]⟩
    · -- number 1
      cases hs : smallB B
      · have HR : Hid (formF A B C = (3, 1)) := formF_small (k := 1) (by unfold smallF; have hp := HP.out; rw [lookS, if_pos (hp.1 (by decide))]; rw [lookS, if_neg (by rw [hs]; simp)])
        have hd := small_out hs
        have hd2 : decide (1000000 < B) = true ∨ (decide (1000000 < B) = false ∧ decide (B < -1000000) = true) := by
          simp only [decide_eq_true_eq, decide_eq_false_iff_not]; omega
        have C3 := fun W => hide (refF_any 3 1 W)
        clear hd hs
        rcases hd2 with hd | ⟨hd, hd2⟩
        all_goals
          go_wp2_with fail
          refine (C3 _).out.mono ?_
          rintro e w1 ⟨rfl, hb⟩
          obtain ⟨d0, d1, f0, f1⟩ := (F0.out.below hb).cells
          obtain ⟨p0, p1⟩ := (F0.out.below hb).put 3 1
          have HB := hide (below_fault (u := .int .i64 3) (v := .int .i64 1) (BW.out.trans (hb.mono BW.out.size)) (Nat.le_succ w.heap.size))
          clear hb
          go_wp2_with fail
          exact bodyPost_ret (v := fv (3, 1)) (by simp [results, Try.results5, go_sem, fv, p0, p1]) rfl ⟨by rw [HR.out], HB.out⟩
      · have hd := small_bounds hs
        have HP2 : Hid (SmP A B C 2) := by
          have hp := HP.out
          refine ⟨fun _ => hp.1 (by decide), fun h => hs, fun h => (by omega)⟩
        have q1 : decide (B < -1000000) = false := by simp; omega
        have q2 : decide (1000000 < B) = false := by simp; omega
        clear hd hs
        go_wp2_with fail
        exact ⟨⟨2, rfl, by omega, HP2, trivial⟩, by simp [intOf]⟩
    · -- number 2
      cases hs : smallB C
      · have HR : Hid (formF A B C = (3, 2)) := formF_small (k := 2) (by unfold smallF; have hp := HP.out; rw [lookS, if_pos (hp.1 (by decide))]; rw [lookS, if_pos (hp.2.1 (by decide))]; rw [lookS, if_neg (by rw [hs]; simp)])
        have hd := small_out hs
        have hd2 : decide (1000000 < C) = true ∨ (decide (1000000 < C) = false ∧ decide (C < -1000000) = true) := by
          simp only [decide_eq_true_eq, decide_eq_false_iff_not]; omega
        have C3 := fun W => hide (refF_any 3 2 W)
        clear hd hs
        rcases hd2 with hd | ⟨hd, hd2⟩
        all_goals
          go_wp2_with fail
          refine (C3 _).out.mono ?_
          rintro e w1 ⟨rfl, hb⟩
          obtain ⟨d0, d1, f0, f1⟩ := (F0.out.below hb).cells
          obtain ⟨p0, p1⟩ := (F0.out.below hb).put 3 2
          have HB := hide (below_fault (u := .int .i64 3) (v := .int .i64 2) (BW.out.trans (hb.mono BW.out.size)) (Nat.le_succ w.heap.size))
          clear hb
          go_wp2_with fail
          exact bodyPost_ret (v := fv (3, 2)) (by simp [results, Try.results5, go_sem, fv, p0, p1]) rfl ⟨by rw [HR.out], HB.out⟩
      · have hd := small_bounds hs
        have HP2 : Hid (SmP A B C 3) := by
          have hp := HP.out
          refine ⟨fun _ => hp.1 (by decide), fun h => hp.2.1 (by decide), fun h => hs⟩
        have q1 : decide (C < -1000000) = false := by simp; omega
        have q2 : decide (1000000 < C) = false := by simp; omega
        clear hd hs
        go_wp2_with fail
        exact ⟨⟨3, rfl, by omega, HP2, trivial⟩, by simp [intOf]⟩
    · -- all small
      have hp := HP.out
      have hA := hp.1 (by decide)
      have hB := hp.2.1 (by decide)
      have hC := hp.2.2 (by decide)
      have hsm : smallF A B C = (0, 0) := by unfold smallF; rw [lookS, if_pos hA, lookS, if_pos hB, lookS, if_pos hC, lookS]
      have bA := small_bounds hA
      have bB := small_bounds hB
      have bC := small_bounds hC
      have CD := fun W => hide (rdisc_any A B C W (by omega) (by omega) (by omega))
      obtain ⟨D, hD⟩ : ∃ D, B * B - 4 * A * C = D := ⟨_, rfl⟩
      rw [hD] at CD
      by_cases h1 : A < 1
      · have HR : Hid (formF A B C = (7, 0)) := formF_kind hsm (.inl h1)
        have C7 := fun W => hide (refF_any 7 0 W)
        have q1 : decide (A < 1) = true := by simpa using h1
        clear hp hA hB hC hsm bA bB bC hD h1
        go_wp2_with fail
        refine (C7 _).out.mono ?_
        rintro e w1 ⟨rfl, hb⟩
        obtain ⟨d0, d1, f0, f1⟩ := (F0.out.below hb).cells
        obtain ⟨p0, p1⟩ := (F0.out.below hb).put 7 0
        have HB := hide (below_fault (u := .int .i64 7) (v := .int .i64 0) (BW.out.trans (hb.mono BW.out.size)) (Nat.le_succ w.heap.size))
        clear hb
        go_wp2_with fail
        exact bodyPost_ret (v := fv (7, 0)) (by simp [results, Try.results5, go_sem, fv, p0, p1]) rfl ⟨by rw [HR.out], HB.out⟩
      · by_cases h2 : 0 ≤ D
        · have HR : Hid (formF A B C = (7, 0)) := formF_kind hsm (.inr (by rw [hD]; exact h2))
          have C7 := fun W => hide (refF_any 7 0 W)
          have q1 : decide (A < 1) = false := by simpa using h1
          have q2 : decide (0 ≤ D) = true := by simpa using h2
          clear hp hA hB hC hsm bA bB bC hD h1 h2
          go_wp2_with fail
          refine (CD _).out.mono ?_
          rintro e w0 ⟨rfl, hb0⟩
          have F1 := hide (F0.out.below hb0)
          have BW1 := hide (BW.out.trans (hb0.mono BW.out.size))
          clear hb0 F0 BW
          have F0 := F1
          have BW := BW1
          clear F1 BW1
          go_wp2_with fail
          refine (C7 _).out.mono ?_
          rintro e w1 ⟨rfl, hb⟩
          obtain ⟨d0, d1, f0, f1⟩ := (F0.out.below hb).cells
          obtain ⟨p0, p1⟩ := (F0.out.below hb).put 7 0
          have HB := hide (below_fault (u := .int .i64 7) (v := .int .i64 0) (BW.out.trans (hb.mono BW.out.size)) (Nat.le_succ w.heap.size))
          clear hb
          go_wp2_with fail
          exact bodyPost_ret (v := fv (7, 0)) (by simp [results, Try.results5, go_sem, fv, p0, p1]) rfl ⟨by rw [HR.out], HB.out⟩
        · have q1 : decide (A < 1) = false := by simpa using h1
          have q2 : decide (0 ≤ D) = false := by simpa using h2
          have M0 := hide ((MC.made w A B C).below ((bel_obj _ (.cells #[.int .i64 0, .int .i64 0] 26)).trans ((bel_obj _ (.cells #[.int .i64 A, .int .i64 B, .int .i64 C] 3)).mono (by simp))))
          have BF := hide (And.intro bA (And.intro bB bC))
          have D1 := fun W => hide (refGcd_any A B W (by omega) (by omega) (by omega) (by omega))
          have g1b : (Int.gcd A B : Int) ≤ 1000000 := by
            have := gcd_le (a := A) (b := B) (N := 1000000) (by omega) (by omega)
            omega
          have D2 := fun W => hide (refGcd_any (Int.gcd A B) C W (by omega) (by omega) (by omega) (by omega))
          have HSM := hide hsm
          have HD := hide hD
          have h12 := hide (And.intro h1 h2)
          have H3 := hide (gcd_three A B C)
          obtain ⟨G1, hG1⟩ : ∃ G1 : Nat, Int.gcd A B = G1 := ⟨_, rfl⟩
          have HG1 := hide hG1
          rw [hG1] at D1 D2
          obtain ⟨G2, hG2⟩ : ∃ G2 : Nat, Int.gcd (G1 : Int) C = G2 := ⟨_, rfl⟩
          have HG2 := hide hG2
          rw [hG2] at D2
          clear hp hA hB hC hsm bA bB bC hD h1 h2 g1b hG1 hG2
          go_wp2_with fail
          refine (CD _).out.mono ?_
          rintro e w0 ⟨rfl, hb0⟩
          have F1 := hide (F0.out.below hb0)
          have M1 := hide (M0.out.below (by simpa using hb0))
          have BW1 := hide (BW.out.trans (hb0.mono BW.out.size))
          obtain ⟨m0, m1, m2⟩ := M1.out.cells
          obtain ⟨d0, d1, f0, f1⟩ := F1.out.cells
          clear hb0 F0 BW M0
          by_cases hg : G2 = 1
          · have HR : Hid (formF A B C = (0, 0)) := formF_none HSM.out (by rw [HD.out]; have := h12.out; omega) (by rw [← H3.out, HG1.out, HG2.out, hg]; simp)
            have q3 : ((G2 : Int) != 1) = false := by rw [hg]; rfl
            clear hg
            go_wp2_with fail
            go_quiet ((go_at_call 23; first | (with_reducible refine Calls.quiet_of_same (D1 _).out) | (with_reducible refine Calls.quiet_of_same (D2 _).out)))
            go_wp2_with fail
            obtain ⟨p0, p1⟩ := (F1.out.below (below_drewN (Below.refl _ _) nq)).put 0 0
            exact bodyPost_ret (v := fv (0, 0)) (by simp [results, Try.results5, go_sem, fv, p0, p1]) rfl ⟨by rw [HR.out], below_fault (below_drewN BW1.out nq) (Nat.le_succ w.heap.size)⟩
          · have HR : Hid (formF A B C = (6, 0)) := formF_form HSM.out (by rw [HD.out]; have := h12.out; omega) (by rw [← H3.out, HG1.out, HG2.out]; exact hg)
            have q3 : ((G2 : Int) != 1) = true := by rw [bne_iff_ne]; omega
            have C6 := fun W => hide (refF_any 6 0 W)
            clear hg
            go_wp2_with fail
            go_quiet ((go_at_call 23; first | (with_reducible refine Calls.quiet_of_same (D1 _).out) | (with_reducible refine Calls.quiet_of_same (D2 _).out)))
            go_wp2_with fail
            refine (C6 _).out.mono ?_
            rintro e w1 ⟨rfl, hb⟩
            have F2 := (F1.out.below (below_drewN (Below.refl _ _) nq)).below hb
            obtain ⟨d0, d1, f0, f1⟩ := F2.cells
            obtain ⟨p0, p1⟩ := F2.put 6 0
            have HB := hide (below_fault (u := .int .i64 6) (v := .int .i64 0) ((below_drewN BW1.out nq).trans (hb.mono BW1.out.size)) (Nat.le_succ w.heap.size))
            clear hb F2
            go_wp2_with fail
            exact bodyPost_ret (v := fv (6, 0)) (by simp [results, Try.results5, go_sem, fv, p0, p1]) rfl ⟨by rw [HR.out], HB.out⟩
end Go.Proofs.Ytkfjjljdhfjpbaa
