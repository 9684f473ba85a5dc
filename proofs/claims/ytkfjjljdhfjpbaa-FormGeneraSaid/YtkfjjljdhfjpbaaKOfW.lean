/- The walks of the answers' Value and ReducedOf. -/
import Derived.Test.YtkfjjljdhfjpbaaK0
import Derived.Test.YtkfjjljdhfjpbaaKGrpM
namespace Go.Proofs.Ytkfjjljdhfjpbaa
open Go.RowKit

/-- no product of a value is too long -/
structure ValOk (a b c x y : Int) : Prop where
  h1 : (a * x).natAbs ≤ 2000000000000000000
  h2 : (a * x * x).natAbs ≤ 2000000000000000000
  h3 : (b * x).natAbs ≤ 2000000000000000000
  h4 : (b * x * y).natAbs ≤ 2000000000000000000
  h5 : (c * y).natAbs ≤ 2000000000000000000
  h6 : (c * y * y).natAbs ≤ 2000000000000000000
/-- the value as it wraps -/
def vw (a b c x y : Int) : Int := wrap64 (wrap64 (wrap64 (wrap64 (a * x) * x) + wrap64 (wrap64 (b * x) * y)) + wrap64 (wrap64 (c * y) * y))
theorem ValOk.eq {a b c x y : Int} (h : ValOk a b c x y) : vw a b c x y = tA a b c x y := by
  obtain ⟨h1, h2, h3, h4, h5, h6⟩ := h
  unfold vw tA
  rw [show wrap64 (a * x) = a * x by unfold wrap64; omega, show wrap64 (b * x) = b * x by unfold wrap64; omega, show wrap64 (c * y) = c * y by unfold wrap64; omega]
  rw [show wrap64 (a * x * x) = a * x * x by unfold wrap64; omega, show wrap64 (b * x * y) = b * x * y by unfold wrap64; omega, show wrap64 (c * y * y) = c * y * y by unfold wrap64; omega]
  unfold wrap64
  omega
/-- the blocks of ReducedOf's frame -/
structure OfSt (w W : World) (A B C : Int) : Prop where
  f : MC W w.heap.size A B C
  z : MC W (w.heap.size + 1) 0 0 0
  b : Below w.heap.size w W
theorem OfSt.start (w : World) (A B C : Int) : OfSt w ((w.alloc (.cells #[.int .i64 A, .int .i64 B, .int .i64 C] 23)).alloc (.cells #[.int .i64 0, .int .i64 0, .int .i64 0] 23)) A B C := by
  refine ⟨(MC.made w A B C).below (bel_obj _ _), ?_, ((Below.refl _ _).alloc (Nat.le_refl _) _).alloc (by simp) _⟩
  have := MC.made (w.alloc (.cells #[.int .i64 A, .int .i64 B, .int .i64 C] 23)) 0 0 0
  rwa [World.size_alloc] at this
theorem OfSt.below {w W W' : World} {A B C : Int} (h : OfSt w W A B C) (k : Below W.heap.size W W') : OfSt w W' A B C :=
  ⟨h.f.below k, h.z.below k, h.b.trans (k.mono h.b.size)⟩
theorem OfSt.put {w W : World} {A B C : Int} (h : OfSt w W A B C) (x y z : Int) : OfSt w (((W.setCell ⟨w.heap.size, 0, none⟩ (.int .i64 x)).setCell ⟨w.heap.size, 1, none⟩ (.int .i64 y)).setCell ⟨w.heap.size, 2, none⟩ (.int .i64 z)) x y z :=
  ⟨h.f.put x y z, (put3_heap (g := w.heap.size) x y z (by omega)).trans h.z, ((h.b.setCell (p := ⟨w.heap.size, 0, none⟩) (Nat.le_refl _) _).setCell (p := ⟨w.heap.size, 1, none⟩) (Nat.le_refl _) _).setCell (p := ⟨w.heap.size, 2, none⟩) (Nat.le_refl _) _⟩
theorem OfSt.fin {w W : World} {A B C : Int} (h : OfSt w W A B C) (x y z : Int) : MC (((W.setCell ⟨w.heap.size + 1, 0, none⟩ (.int .i64 x)).setCell ⟨w.heap.size + 1, 1, none⟩ (.int .i64 y)).setCell ⟨w.heap.size + 1, 2, none⟩ (.int .i64 z)) (w.heap.size + 1) x y z ∧ Below w.heap.size w (((W.setCell ⟨w.heap.size + 1, 0, none⟩ (.int .i64 x)).setCell ⟨w.heap.size + 1, 1, none⟩ (.int .i64 y)).setCell ⟨w.heap.size + 1, 2, none⟩ (.int .i64 z)) :=
  ⟨h.z.put x y z, ((h.b.setCell (p := ⟨w.heap.size + 1, 0, none⟩) (Nat.le_succ _) _).setCell (p := ⟨w.heap.size + 1, 1, none⟩) (Nat.le_succ _) _).setCell (p := ⟨w.heap.size + 1, 2, none⟩) (Nat.le_succ _) _⟩

/-- the ends of the rounds -/
theorem red_end {A B C : Int} (h1 : 1 ≤ A) (h : redB A B C = true) : RedF A B C := by
  unfold redB at h
  simp only [Bool.and_eq_true, Bool.or_eq_true, decide_eq_true_eq] at h
  obtain ⟨⟨h2, h3⟩, h4⟩ := h
  refine ⟨by omega, ?_, by omega, h3, ?_⟩
  · rcases h4 with h4 | ⟨h4, _⟩ <;> omega
  · intro e
    rcases h4 with h4 | ⟨_, h4⟩
    · exact h4
    · exact absurd e h4
theorem red_not {A B C : Int} (h : redB A B C = false) (h2 : ¬ C < A) (h3 : ¬ (A < B ∨ B ≤ -A)) : A = C ∧ B < 0 := by
  unfold redB at h
  simp only [Bool.and_eq_false_iff, Bool.or_eq_false_iff, decide_eq_false_iff_not] at h
  omega

/-- no sum or product of a round is too long -/
theorem of_wraps {A B C k : Int} (c1 : 1 ≤ C) (c2 : C ≤ 1100000000000000000) (b1 : -2000000000 ≤ B) (b2 : B ≤ 2000000000) (k1 : k.natAbs * 2 ≤ B.natAbs + 2) (h1 : -2000000000 ≤ B + 2 * k * A) (h2 : B + 2 * k * A ≤ 2000000000) :
    wrap64 (2 * k) = 2 * k ∧ wrap64 (2 * k * A) = 2 * k * A ∧ wrap64 (B + 2 * k * A) = B + 2 * k * A ∧ wrap64 (k * B) = k * B ∧ wrap64 (C + k * B) = C + k * B ∧ wrap64 (k * k) = k * k ∧ wrap64 (k * k * A) = k * k * A ∧ wrap64 (C + k * B + k * k * A) = C + k * B + k * k * A := by
  have e1 := abs_mul_le (x := k) (y := B) (p := 1000000001) (q := 2000000000) (by omega) (by omega)
  have e2 := abs_mul_le (x := k) (y := k) (p := 1000000001) (q := 1000000001) (by omega) (by omega)
  have e3 : 2 * k * A = 2 * (k * A) := by grind
  have e4 := abs_mul_le (x := k) (y := k * A) (p := 1000000001) (q := 2000000000) (by omega) (by omega)
  have e5 : k * k * A = k * (k * A) := by grind
  unfold wrap64
  refine ⟨?_, ?_, ?_, ?_, ?_, ?_, ?_, ?_⟩ <;> omega

/-- what ReducedOf answers: the reduced form of the class -/
def RetOf (w : World) (D a b c : Int) : Ending → World → Prop := fun e w' => (∃ A B C : Int, e = .returned (.agg #[.int .i64 A, .int .i64 B, .int .i64 C]) ∧ RedF A B C ∧ OInv D a b c A B C) ∧ Below w.heap.size w w'

set_option maxRecDepth 100000 in
set_option maxHeartbeats 6400000 in
theorem reducedOf_any (a b c D : Int) (w : World) (h : OInv D a b c a b c) (hn : D < 0) (hlow : -5000000000000 ≤ D) :
    Calls Try.prog 12 #[.agg #[.int .i64 a, .int .i64 b, .int .i64 c]] w (RetOf w D a b c) := by
  have H0 := hide (OfSt.start w a b c)
  have I0 := hide h
  have HN := hide hn
  have HL := hide hlow
  clear h hn hlow
  go_enter Try.func12, Try.ntmps12
  go_wp2_with fail
  go_loopg [3] (ofm a b) (fun N _ wr => ∃ A B C : Int, N = ofm A B ∧ Hid (OInv D a b c A B C) ∧ Hid (OfSt w wr A B C))
  case atStart => exact ⟨a, b, c, rfl, I0, H0⟩
  case round =>
    clear H0 I0
    obtain ⟨A, B, C, rfl, HI, HS⟩ := hrel
    obtain ⟨a2, c2⟩ := HI.out.big HL.out
    have a1 := HI.out.a1
    have c1 := HI.out.c1
    have b1 := HI.out.b1
    have b2 := HI.out.b2
    have CR := fun W => hide (reduced_any A B C W (by omega) (by omega))
    have n1 : wrap64 (-B) = -B := by unfold wrap64; omega
    have n2 : wrap64 (-A) = -A := by unfold wrap64; omega
    have n3 : wrap64 (2 * A) = 2 * A := by unfold wrap64; omega
    obtain ⟨g0, g1, g2⟩ := HS.out.f.cells
    by_cases hr : redB A B C = true
    · rw [hr] at CR
      have HR := hide (red_end a1 hr)
      clear hr a1 a2 b1 b2 c1 c2 n1 n2 n3
      go_wp2_with fail
      refine (CR _).out.mono ?_
      rintro e w1 ⟨rfl, hb⟩
      have HS2 := hide (HS.out.below hb)
      clear hb g0 g1 g2
      obtain ⟨g0, g1, g2⟩ := HS2.out.f.cells
      have z0 := HS2.out.z.frozen 0
      have z1 := HS2.out.z.frozen 1
      have z2 := HS2.out.z.frozen 2
      obtain ⟨y0, y1, y2⟩ := HS2.out.z.cells
      have FIN := hide (HS2.out.fin A B C)
      go_wp2_with fail
      obtain ⟨F1, F2⟩ := FIN.out
      obtain ⟨G0, G1, G2⟩ := F1.cells
      exact bodyPost_ret (v := .agg #[.int .i64 A, .int .i64 B, .int .i64 C]) (by simp [results, Try.results12, go_sem, G0, G1, G2]) rfl ⟨⟨A, B, C, rfl, HR.out, HI.out⟩, F2⟩
    · have hr' : redB A B C = false := by simpa using hr
      rw [hr'] at CR
      have HR := hide hr'
      clear hr hr'
      by_cases h1 : C < A
      · have q1 : decide (C < A) = true := by simpa using h1
        have HM := hide (ofm_swap c1 h1 b1 b2)
        have HI2 := hide (HI.out.swap HN.out)
        clear h1 a1 a2 b1 b2 c1 c2 n2 n3
        go_wp2_with fail
        refine (CR _).out.mono ?_
        rintro e w1 ⟨rfl, hb⟩
        have HS2 := hide (HS.out.below hb)
        clear hb g0 g1 g2
        obtain ⟨g0, g1, g2⟩ := HS2.out.f.cells
        have z0 := HS2.out.f.frozen 0
        have z1 := HS2.out.f.frozen 1
        have z2 := HS2.out.f.frozen 2
        have HS3 := hide (HS2.out.put C (-B) A)
        go_wp2_with fail
        go_roundg (ofm C (-B))
        case measure => exact HM.out
        case rel => exact ⟨_, _, _, rfl, HI2, HS3⟩
      · have q1 : decide (C < A) = false := by simpa using h1
        by_cases h2 : A < B ∨ B ≤ -A
        · have HM := hide (ofm_step a1 h2)
          have hk := ofk_small a1 h2
          obtain ⟨k, hk0⟩ : ∃ k, ofk A B = k := ⟨_, rfl⟩
          rw [hk0] at hk HM
          have hr1 : -2000000000 ≤ B + 2 * k * A := by omega
          have hr2 : B + 2 * k * A ≤ 2000000000 := by omega
          have HI2 := hide (HI.out.step HN.out hr1 hr2)
          obtain ⟨W1, W2, W3, W4, W5, W6, W7, W8⟩ := of_wraps c1 c2 b1 b2 hk.2.2.2 hr1 hr2
          have nA : ¬ 2 * A = 0 := by omega
          have e0 : IntKind.i64.wrap k = k := by rw [IntKind.wrap_i64]; omega
          clear hr1 hr2 hk
          unfold ofk at hk0
          by_cases hs : B.natAbs < 2 * A.natAbs
          · rw [if_pos hs] at hk0
            have z : (-B).tdiv (2 * A) = 0 := by
              apply Int.natAbs_eq_zero.1
              rw [Int.natAbs_tdiv]
              exact Nat.div_eq_of_lt (by omega)
            by_cases hb : A < B
            · rw [if_pos hb] at hk0
              have q2 : decide (A < B) = true := by simpa using hb
              clear h1 h2 hb hs a1 a2 b1 b2 c1 c2
              go_wp2_with fail
              refine (CR _).out.mono ?_
              rintro e w1 ⟨rfl, hb⟩
              have HS2 := hide (HS.out.below hb)
              clear hb g0 g1 g2
              obtain ⟨g0, g1, g2⟩ := HS2.out.f.cells
              have z0 := HS2.out.f.frozen 0
              have z1 := HS2.out.f.frozen 1
              have z2 := HS2.out.f.frozen 2
              go_upto_region 10 with (fail)
              rw [show Value.int .i64 (-1) = Value.int .i64 k from by rw [hk0]]
              clear hk0 z g0 g1 g2
              obtain ⟨g0, g1, g2⟩ := HS2.out.f.cells
              have HS3 := hide (HS2.out.put A (B + 2 * k * A) (C + k * B + k * k * A))
              go_wp2_with fail
              go_roundg (ofm A (B + 2 * k * A))
              case measure => exact HM.out
              case rel => exact ⟨_, _, _, rfl, HI2, HS3⟩
            · rw [if_neg hb] at hk0
              have q2 : decide (A < B) = false := by simpa using hb
              have q3 : decide (B ≤ -A) = true := by rw [decide_eq_true_eq]; omega
              have e2 : -B / (2 * A) = 0 := by rw [← z]; exact (Int.tdiv_eq_ediv_of_nonneg (by omega)).symm
              clear h1 h2 hb hs a1 a2 b1 b2 c1 c2
              go_wp2_with fail
              refine (CR _).out.mono ?_
              rintro e w1 ⟨rfl, hb⟩
              have HS2 := hide (HS.out.below hb)
              clear hb g0 g1 g2
              obtain ⟨g0, g1, g2⟩ := HS2.out.f.cells
              have z0 := HS2.out.f.frozen 0
              have z1 := HS2.out.f.frozen 1
              have z2 := HS2.out.f.frozen 2
              go_upto_region 10 with (fail)
              rw [show Value.int .i64 1 = Value.int .i64 k from by rw [hk0]]
              clear hk0 z g0 g1 g2
              obtain ⟨g0, g1, g2⟩ := HS2.out.f.cells
              have HS3 := hide (HS2.out.put A (B + 2 * k * A) (C + k * B + k * k * A))
              go_wp2_with fail
              go_roundg (ofm A (B + 2 * k * A))
              case measure => exact HM.out
              case rel => exact ⟨_, _, _, rfl, HI2, HS3⟩
          · rw [if_neg hs] at hk0
            have hkn : ¬ k = 0 := by
              intro e
              rw [e] at hk0
              have e1 := Int.mul_tdiv_add_tmod (-B) (2 * A)
              have e3 : ((-B).tmod (2 * A)).natAbs < 2 * A.natAbs := by
                rw [Int.natAbs_tmod]
                have := Nat.mod_lt (-B).natAbs (show 0 < (2 * A).natAbs by omega)
                omega
              rw [hk0] at e1
              omega
            have q4 : (k == 0) = false := by simpa using hkn
            have q5 : decide (k = 0) = false := by simpa using hkn
            by_cases hb : A < B
            · have q2 : decide (A < B) = true := by simpa using hb
              clear h1 h2 hb hs hkn a1 a2 b1 b2 c1 c2
              go_wp2_with fail
              refine (CR _).out.mono ?_
              rintro e w1 ⟨rfl, hb⟩
              have HS2 := hide (HS.out.below hb)
              clear hb g0 g1 g2
              obtain ⟨g0, g1, g2⟩ := HS2.out.f.cells
              have z0 := HS2.out.f.frozen 0
              have z1 := HS2.out.f.frozen 1
              have z2 := HS2.out.f.frozen 2
              have HS3 := hide (HS2.out.put A (B + 2 * k * A) (C + k * B + k * k * A))
              go_wp2_with fail
              go_roundg (ofm A (B + 2 * k * A))
              case measure => exact HM.out
              case rel => exact ⟨_, _, _, rfl, HI2, HS3⟩
            · have q2 : decide (A < B) = false := by simpa using hb
              have q3 : decide (B ≤ -A) = true := by rw [decide_eq_true_eq]; omega
              have e2 : -B / (2 * A) = k := by rw [← hk0]; exact (Int.tdiv_eq_ediv_of_nonneg (by omega)).symm
              clear h1 h2 hb hs hkn a1 a2 b1 b2 c1 c2
              go_wp2_with fail
              refine (CR _).out.mono ?_
              rintro e w1 ⟨rfl, hb⟩
              have HS2 := hide (HS.out.below hb)
              clear hb g0 g1 g2
              obtain ⟨g0, g1, g2⟩ := HS2.out.f.cells
              have z0 := HS2.out.f.frozen 0
              have z1 := HS2.out.f.frozen 1
              have z2 := HS2.out.f.frozen 2
              have HS3 := hide (HS2.out.put A (B + 2 * k * A) (C + k * B + k * k * A))
              go_wp2_with fail
              go_roundg (ofm A (B + 2 * k * A))
              case measure => exact HM.out
              case rel => exact ⟨_, _, _, rfl, HI2, HS3⟩
        · obtain ⟨hac, hb0⟩ := red_not HR.out h1 h2
          have q2 : decide (A < B) = false := by rw [decide_eq_false_iff_not]; omega
          have q3 : decide (B ≤ -A) = false := by rw [decide_eq_false_iff_not]; omega
          have HM := hide (ofm_turn hac hb0)
          have HI2 := hide (HI.out.swap HN.out)
          clear h1 h2 hac hb0 a1 a2 b1 b2 c1 c2 n3
          go_wp2_with fail
          refine (CR _).out.mono ?_
          rintro e w1 ⟨rfl, hb⟩
          have HS2 := hide (HS.out.below hb)
          clear hb g0 g1 g2
          obtain ⟨g0, g1, g2⟩ := HS2.out.f.cells
          have z0 := HS2.out.f.frozen 0
          have z1 := HS2.out.f.frozen 1
          have z2 := HS2.out.f.frozen 2
          have HS3 := hide (HS2.out.put C (-B) A)
          go_wp2_with fail
          go_roundg (ofm C (-B))
          case measure => exact HM.out
          case rel => exact ⟨_, _, _, rfl, HI2, HS3⟩
end Go.Proofs.Ytkfjjljdhfjpbaa
