/- The walk of the law FracZeckendorf. -/
import Derived.Test.YticgnjapgbjfiaaDoorZeckW
import Derived.Test.YticgnjapgbjfiaaDoorFracB
import Derived.Deep.DeepCutAuto
import Derived.Deep.RegionHeld3
namespace Go.Proofs.YticgnjapgbjfiaaDoor
open Go.RowKit

theorem fck {w1 W : World} {g : Nat} {a b : Int} (h : FC w1 g a b) (k : Below w1.heap.size w1 W) : (W.cell? ⟨g, 0, none⟩ = some (.int .i64 a) ∧ W.cell? ⟨g, 1, none⟩ = some (.int .i64 b)) ∧ Hid (Below w1.heap.size w1 W) :=
  ⟨⟨(h.below k).cells.1, (h.below k).cells.2.1⟩, k⟩

set_option maxRecDepth 100000 in
set_option maxHeartbeats 6400000 in
theorem fzeck_any (n : Int) (w : World) (hT : TabW w) (hP : PowW w) (h0 : -9223372036854775808 ≤ n) (h1 : n ≤ 9223372036854775807) :
    Calls Tryd.prog 9 #[.int .i64 n] w fun e w' => e = .returned (.bool true) ∧ Below w.heap.size w w' := by
  have C := hide (zeck_any n w h0 h1)
  have CB := fun W (hT : TabW W) (hP : PowW W) => hide (fracBegun_any W hT hP)
  have CN := fun W => hide (number_any n W)
  have CF := fun W => hide (refF_any 3 0 W)
  have HT := hide hT
  have HP := hide hP
  clear hT hP h0 h1
  go_enter Tryd.func9, Tryd.ntmps9
  go_wp2_with fail
  refine C.out.mono ?_
  rintro e w1 ⟨v, c, l, rfl, hy, hno, hR, hb⟩
  simp only [fv]
  have HY := hide (And.intro hy hno)
  have F1 := hide (FC.made w1 c 0)
  have HB1 := hide (hb.alloc hb.size (.cells #[.int .i64 c, .int .i64 0] 24))
  have HR1 := hide (hR.below (bel_f w1 (.cells #[.int .i64 c, .int .i64 0] 24)))
  clear hb hy hno hR C
  go_wp2_with fail
  refine (CB _ (HT.out.below HB1.out) (HP.out.below HB1.out)).out.mono ?_
  rintro e w2 ⟨rfl, hb⟩
  have F2 := hide (F1.out.below hb)
  have HB2 := hide (HB1.out.trans (hb.mono HB1.out.size))
  have HR2 := hide (HR1.out.below hb)
  clear hb F1 HB1 HR1 CB
  by_cases hok : 0 ≤ n ∧ n ≤ 1000000000000000000
  · as_aux_lemma =>
    obtain ⟨N, rfl⟩ : ∃ N : Nat, n = N := ⟨n.toNat, by omega⟩
    obtain ⟨rfl, hZ, hS, hl⟩ := HY.out.1 hok
    rw [show ((N : Int)).toNat = N from rfl] at hS
    rw [show okB (N : Int) = true from by unfold okB; simp; omega] at CN
    have q1 : decide ((N : Int) < 0) = false := by rw [decide_eq_false_iff_not]; omega
    have hN : N ≤ 1000000000000000000 := by omega
    obtain ⟨x0, x1, x2, x3⟩ := F2.out.cells
    have HZ := hide hZ
    have HS := hide hS
    obtain ⟨A, cp, hform⟩ : ∃ A cp, v = .slice A l.length cp := by
      have h := HR2.out
      unfold Row at h
      rcases h.2 with ⟨e1, e2⟩ | ⟨g, cap, cur, e1, _⟩
      · exact ⟨none, 0, by rw [e1, e2]⟩
      · exact ⟨_, _, e1⟩
    subst hform
    clear hok hS hZ HY CF
    go_wp2_with fail
    refine (CN _).out.mono ?_
    rintro e w3 ⟨rfl, rfl⟩
    go_wp2_with fail
    go_loopg [5, 6] l.length (fun J sv iv wr => ∃ i j : Nat, J = l.length - i ∧ iv = .int .i64 i ∧ i ≤ l.length ∧ sv = .int .i64 (fsum (l.take i) : Nat) ∧ wr = w2.drewN j)
    case atStart => exact ⟨0, 0, by omega, rfl, by omega, rfl, rfl⟩
    case round =>
      obtain ⟨i, j, hJ, rfl, hi, rfl, rfl⟩ := hrel
      by_cases hil : i < l.length
      · obtain ⟨x, hx⟩ : ∃ x, l[i]? = some x := ⟨l[i], List.getElem?_eq_getElem hil⟩
        obtain ⟨g, c', e1, cx, hg, hgl⟩ := HR2.out.get hx
        injection e1 with e1 _ e3
        subst e1
        clear e3
        obtain ⟨hx2, hx90, hxp⟩ := HZ.out i x hx
        have CFi := fun W => hide (fibonacci_any x W hx90)
        have HTK := hide (fsum_take hx)
        have hle := fsum_take_le l (i + 1)
        rw [HS.out, HTK.out] at hle
        obtain ⟨s, hs⟩ : ∃ s, fsum (l.take i) = s := ⟨_, rfl⟩
        obtain ⟨f, hf⟩ : ∃ f, fib x = f := ⟨_, rfl⟩
        rw [hs, hf] at hle HTK
        rw [hf] at CFi
        rw [hs]
        have hsf : (s : Int) + (f : Int) = ((s + f : Nat) : Int) := by omega
        obtain ⟨t, ht⟩ : ∃ t, s + f = t := ⟨_, rfl⟩
        rw [ht] at hsf hle HTK
        have V1 : IntKind.i64.wrap ((s : Int) + (f : Int)) = (t : Int) := by rw [hsf, IntKind.wrap_i64]; omega
        have q2 : decide ((x : Int) < 2) = false := by rw [decide_eq_false_iff_not]; omega
        have q3 : decide ((90 : Int) < (x : Int)) = false := by rw [decide_eq_false_iff_not]; omega
        have q4 : decide ((N : Int) < (t : Int)) = false := by rw [decide_eq_false_iff_not]; omega
        have q5 : decide (N < t) = false := by rw [decide_eq_false_iff_not]; omega
        have q6 : decide (x < 2) = false := by rw [decide_eq_false_iff_not]; omega
        have q7 : decide (90 < x) = false := by rw [decide_eq_false_iff_not]; omega
        by_cases hi0 : i = 0
        · subst hi0
          clear hs hf ht hsf hxp hx
          go_wp2_with fail
          go_quiet (fail)
          go_wp2_with fail
          refine (CFi _).out.mono ?_
          rintro e w5 ⟨rfl, rfl⟩
          go_wp2_with fail
          go_roundg (l.length - 1)
          case measure => omega
          case rel => exact ⟨1, _, rfl, by simp, by omega, by rw [← HTK.out], rfl⟩
        · obtain ⟨y, hy⟩ : ∃ y, l[i - 1]? = some y := ⟨l[i - 1], List.getElem?_eq_getElem (by omega)⟩
          have cy := HR2.out.at_ hy
          have hxy := hxp y (by omega) hy
          have hy90 := (HZ.out (i - 1) y hy).2.1
          obtain ⟨i, rfl⟩ : ∃ k, i = k + 1 := ⟨i - 1, by omega⟩
          rw [show i + 1 - 1 = i from rfl] at cy
          have V2 : IntKind.i64.wrap ((i : Int) + 1 - 1) = (i : Int) := by rw [IntKind.wrap_i64]; omega
          have V3 : IntKind.i64.wrap ((x : Int) + 2) = (x : Int) + 2 := by rw [IntKind.wrap_i64]; omega
          have V4 : IntKind.i64.wrap (i : Int) = (i : Int) := by rw [IntKind.wrap_i64]; omega
          have s1 : (0 : Int) ≤ (i : Int) + 1 := by omega
          have s2 : (0 : Int) ≤ (i : Int) := by omega
          have s3 : (i : Int) < (l.length : Int) := by omega
          have s4 : (i : Int) + 1 < (l.length : Int) := by omega
          have q8 : decide ((0 : Int) < (i : Int) + 1) = true := by rw [decide_eq_true_eq]; omega
          have q9 : decide ((y : Int) < (x : Int) + 2) = false := by rw [decide_eq_false_iff_not]; omega
          clear hs hf ht hsf hxp hx hxy hy
          go_wp2_with fail
          go_quiet (fail)
          go_wp2_with fail
          refine (CFi _).out.mono ?_
          rintro e w5 ⟨rfl, rfl⟩
          go_wp2_with fail
          go_roundg (l.length - (i + 1 + 1))
          case measure => omega
          case rel => exact ⟨i + 1 + 1, _, rfl, by simp, by omega, by rw [← HTK.out], rfl⟩
      · obtain rfl : i = l.length := by omega
        rw [List.take_length, HS.out]
        go_wp2_with fail
        go_ret
        exact ⟨by simp, below_drewN HB2.out j⟩
  · as_aux_lemma =>
    obtain ⟨rfl, rfl, rfl⟩ := HY.out.2 hok
    have K := fun W (k : Below w2.heap.size w2 W) => hide (fck F2.out k)
    have hh : decide (n < 0) = true ∨ (decide (n < 0) = false ∧ okB n = false) := by
      by_cases h : n < 0
      · exact .inl (by simpa using h)
      · exact .inr ⟨by simpa using h, by unfold okB; simp; omega⟩
    clear HY hok
    rcases hh with q1 | ⟨q1, q2⟩
    · go_wp2_with fail
      go_region_held3 (fun W => (W.cell? ⟨w1.heap.size, 0, none⟩ = some (.int .i64 3) ∧ W.cell? ⟨w1.heap.size, 1, none⟩ = some (.int .i64 0)) ∧ Hid (Below w2.heap.size w2 W)) (first | exact (K _ (below_drewN (Below.refl _ _) 1)).out | exact (K _ ((below_drewN (Below.refl _ _) 1).trans (hb.mono (Nat.le_refl _)))).out) (first | (go_at_call 14; refine (CF _).out.mono ?_; rintro e w5 ⟨rfl, hb⟩))
      all_goals
        rename_i hS
        have HB5 := hide (HB2.out.trans (hS.2.out.mono HB2.out.size))
        clear hS
        go_wp2_with fail
        go_ret
        exact ⟨rfl, HB5.out⟩
    · rw [q2] at CN
      go_wp2_with fail
      refine (CN _).out.mono ?_
      rintro e w3 ⟨rfl, rfl⟩
      go_wp2_with fail
      go_region_held3 (fun W => (W.cell? ⟨w1.heap.size, 0, none⟩ = some (.int .i64 3) ∧ W.cell? ⟨w1.heap.size, 1, none⟩ = some (.int .i64 0)) ∧ Hid (Below w2.heap.size w2 W)) (first | exact (K _ (below_drewN (Below.refl _ _) 1)).out | exact (K _ ((below_drewN (Below.refl _ _) 1).trans (hb.mono (Nat.le_refl _)))).out) (first | (go_at_call 14; refine (CF _).out.mono ?_; rintro e w5 ⟨rfl, hb⟩))
      all_goals
        rename_i hS
        have HB5 := hide (HB2.out.trans (hS.2.out.mono HB2.out.size))
        clear hS
        go_wp2_with fail
        go_ret
        exact ⟨rfl, HB5.out⟩

theorem fzeck_row (n : Int) (w : World) (hT : TabW w) (hP : PowW w) (w0 : (Lit.int .i64 n).wf = true) :
    Calls Tryd.prog 9 #[.int .i64 n] w fun e w' => e = .returned (.bool true) ∧ Below w.heap.size w w' := by
  have h1 : IntKind.i64.min = -9223372036854775808 := rfl
  have h2 : IntKind.i64.max = 9223372036854775807 := rfl
  have h := w0
  simp only [Lit.wf, Bool.and_eq_true, decide_eq_true_eq] at h
  exact fzeck_any n w hT hP (by omega) (by omega)
end Go.Proofs.YticgnjapgbjfiaaDoor
