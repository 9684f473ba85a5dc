/- The walk of the law WholePowers. -/
import Derived.Test.YtddnchjnbgdocaaWholeC
import Derived.Test.YtddnchjnbgdocaaRefC
import Derived.Test.YtddnchjnbgdocaaBegunW
import Derived.Test.YtddnchjnbgdocaaDividesW
import Derived.Test.YtddnchjnbgdocaaPowersH
namespace Go.Proofs.Ytddnchjnbgdocaa
open Go.RowKit

set_option maxRecDepth 100000 in
set_option maxHeartbeats 16000000 in
theorem powers_any (a n m k : Int) (w : World) :
    Calls Try.prog 6 #[.int .i64 a, .int .i64 n, .int .i64 m, .int .i64 k] w fun e w' => e = .returned (.bool true) ∧ Below w.heap.size w w' := by
  obtain ⟨⟨c, i⟩, hF0⟩ : ∃ F0, lookK 0 [a, n, m] = F0 := ⟨_, rfl⟩
  have HF0 := hide hF0
  have L : ∀ (W : World) (g : Nat), g = W.heap.size → Hid (Calls Try.prog 11 #[.slice (some ⟨g, 0, none⟩) 3 3] (W.alloc (.cells #[.int .i64 a, .int .i64 n, .int .i64 m] 3)) (RetFault (W.alloc (.cells #[.int .i64 a, .int .i64 n, .int .i64 m] 3)) (c, i))) := fun W g hg => hF0 ▸ hg ▸ numbersFault_any _ 3 3 [a, n, m] _ rfl (by omega) (ints_new W [a, n, m] _)
  clear hF0
  have CW := fun W => hide (begun_any W)
  have CF := fun c i W => hide (refF_any c i W)
  go_enter Try.func6, Try.ntmps6
  go_wp2_with fail
  refine (L _ _ (by simp)).out.mono ?_
  rintro e w1 ⟨rfl, hb⟩
  simp only [fv]
  have S0 : Hid (St w (w1.alloc (.cells #[.int .i64 c, .int .i64 i] 24)) w1.heap.size (c, i)) := ⟨(below_new hb).alloc (below_new hb).size _, FC.made _ _ _, (below_new hb).size⟩
  clear hb L
  have HF : Hid ((c, i) = lookK 0 [a, n, m]) := HF0.out.symm
  have HS := S0
  clear S0 HF0
  go_upto_region 2 with (fail)
  go_cut [25] (fun b wc => ∃ B : Bool, b = .bool B ∧ Hid (B = (decide (c = 0) && decide (n < 0))) ∧ Hid (St w wc w1.heap.size (c, i)))
  case first => as_aux_lemma =>
    obtain ⟨x0, x1, x2, x3⟩ := HS.out.2.1.cells
    by_cases hc : c = 0
    · subst hc
      go_wp2_with fail
      go_meet
      exact ⟨_, rfl, by unfold Hid; simp, HS⟩
    · have q1 : (c == 0) = false := by simpa using hc
      have q2 := hide hc
      clear hc
      go_wp2_with fail
      go_meet
      exact ⟨_, rfl, by unfold Hid; simp [q2.out], HS⟩
  case rest => as_aux_lemma =>
    obtain ⟨B, rfl, HBB, HS2⟩ := hcut
    clear HS
    have HS := HS2
    clear HS2
    have HFN : Hid (stepF (c, i) (decide (n < 0)) (3, 1) = stepF (c, i) (decide (n < 0)) (3, 1)) := rfl
    go_upto_if 25 with (fail)
    go_cut [] (fun wd => ∃ c2 i2, Hid ((c2, i2) = stepF (c, i) (decide (n < 0)) (3, 1)) ∧ Hid (St w wd w1.heap.size (c2, i2)))
    case first => as_aux_lemma =>
      cases B
      · have HE : Hid ((c, i) = stepF (c, i) (decide (n < 0)) (3, 1)) := by
          have := HBB.out
          unfold Hid stepF
          rw [if_neg (by simpa using this.symm)]
        go_wp2_with fail
        go_meet
        exact ⟨c, i, HE, HS⟩
      · have HE : Hid ((3, 1) = stepF (c, i) (decide (n < 0)) (3, 1)) := by
          have := HBB.out
          unfold Hid stepF
          rw [if_pos (by simpa using this.symm)]
        go_wp2_with fail
        refine (CF 3 1 _).out.mono ?_
        rintro e wx ⟨rfl, hb⟩
        have HX : Hid (St w wx w1.heap.size (c, i)) := HS.out.below hb
        obtain ⟨x0, x1, x2, x3⟩ := HX.out.2.1.cells
        clear hb
        go_wp2_with fail
        go_meet
        exact ⟨3, 1, HE, HX.out.set (3, 1)⟩
    case rest => as_aux_lemma =>
      obtain ⟨c, i, HC2, HS2⟩ := hcut
      have HFZ : Hid ((c, i) = stepF (lookK 0 [a, n, m]) (decide (n < 0)) (3, 1)) := by unfold Hid; rw [HC2.out]; rw [HF.out]
      clear HS HBB HF HFN HC2
      have HF := HFZ
      have HS := HS2
      clear HS2 HFZ
      go_upto_region 4 with (fail)
      go_cut [33] (fun b wc => ∃ B : Bool, b = .bool B ∧ Hid (B = (decide (c = 0) && decide (m < 1))) ∧ Hid (St w wc w1.heap.size (c, i)))
      case first => as_aux_lemma =>
        obtain ⟨x0, x1, x2, x3⟩ := HS.out.2.1.cells
        by_cases hc : c = 0
        · subst hc
          go_wp2_with fail
          go_meet
          exact ⟨_, rfl, by unfold Hid; simp, HS⟩
        · have q1 : (c == 0) = false := by simpa using hc
          have q2 := hide hc
          clear hc
          go_wp2_with fail
          go_meet
          exact ⟨_, rfl, by unfold Hid; simp [q2.out], HS⟩
      case rest => as_aux_lemma =>
        obtain ⟨B, rfl, HBB, HS2⟩ := hcut
        clear HS
        have HS := HS2
        clear HS2
        have HFN : Hid (stepF (c, i) (decide (m < 1)) (3, 2) = stepF (c, i) (decide (m < 1)) (3, 2)) := rfl
        go_upto_if 33 with (fail)
        go_cut [] (fun wd => ∃ c2 i2, Hid ((c2, i2) = stepF (c, i) (decide (m < 1)) (3, 2)) ∧ Hid (St w wd w1.heap.size (c2, i2)))
        case first => as_aux_lemma =>
          cases B
          · have HE : Hid ((c, i) = stepF (c, i) (decide (m < 1)) (3, 2)) := by
              have := HBB.out
              unfold Hid stepF
              rw [if_neg (by simpa using this.symm)]
            go_wp2_with fail
            go_meet
            exact ⟨c, i, HE, HS⟩
          · have HE : Hid ((3, 2) = stepF (c, i) (decide (m < 1)) (3, 2)) := by
              have := HBB.out
              unfold Hid stepF
              rw [if_pos (by simpa using this.symm)]
            go_wp2_with fail
            refine (CF 3 2 _).out.mono ?_
            rintro e wx ⟨rfl, hb⟩
            have HX : Hid (St w wx w1.heap.size (c, i)) := HS.out.below hb
            obtain ⟨x0, x1, x2, x3⟩ := HX.out.2.1.cells
            clear hb
            go_wp2_with fail
            go_meet
            exact ⟨3, 2, HE, HX.out.set (3, 2)⟩
        case rest => as_aux_lemma =>
          obtain ⟨c, i, HC2, HS2⟩ := hcut
          have HFZ : Hid ((c, i) = powF a n m) := by unfold Hid; rw [HC2.out]; rw [HF.out, powF_step]
          clear HS HBB HF HFN HC2
          have HF := HFZ
          have HS := HS2
          clear HS2 HFZ
          have CP := fun W => hide (power_any a n m W)
          unfold RetNF at CP
          rw [← HF.out] at CP
          go_wp2_with fail
          refine (CP _).out.mono ?_
          rintro e w2 ⟨p, rfl, hp, hp0, hb⟩
          simp only [fv]
          have HP : Hid ((c = 0 → p = a ^ n.toNat % m) ∧ (c ≠ 0 → p = 0)) := ⟨hp, hp0⟩
          have S2 := HS.out.below hb
          have hgh : w1.heap.size < w2.heap.size := S2.2.1.lt
          have T2 : Hid (St w (w2.alloc (.cells #[.int .i64 c, .int .i64 i] 24)) w1.heap.size (c, i) ∧ FC (w2.alloc (.cells #[.int .i64 c, .int .i64 i] 24)) w2.heap.size c i) := ⟨S2.below (bel_new w2 _), FC.made w2 c i⟩
          clear hp hp0 hb S2 HS CP
          go_wp2_with fail
          refine (CW _).out.mono ?_
          rintro e w3 ⟨rfl, hb⟩
          have T3 : Hid (St w w3 w1.heap.size (c, i) ∧ FC w3 w2.heap.size c i) := ⟨T2.out.1.below hb, T2.out.2.below hb⟩
          have hl2 : w.heap.size ≤ w2.heap.size := Nat.le_trans T3.out.1.2.2 (Nat.le_of_lt hgh)
          obtain ⟨x0, x1, x2, x3⟩ := T3.out.1.2.1.cells
          obtain ⟨y0, y1, y2, y3⟩ := T3.out.2.cells
          clear hb T2
          go_upto_region 9 with (fail)
          go_cut [68] (fun b wc => b = .bool false ∧ Hid (St w wc w1.heap.size (c, i) ∧ FCx wc w2.heap.size))
          case first => as_aux_lemma =>
            by_cases hc : c = 0
            · subst hc
              have hp := HP.out.1 rfl
              have hbd := powF_ok (a := a) (n := n) (m := m) (by rw [← HF.out])
              obtain ⟨N, rfl⟩ : ∃ N : Nat, n = N := ⟨n.toNat, by omega⟩
              rw [show ((N : Int)).toNat = N from by omega] at hp
              have CR := fun W => hide (power_ref a m N W (by omega) (by omega) (by omega) (by omega) (by omega))
              rw [← hp] at CR
              clear hp hbd HP
              go_wp2_with fail
              refine (CR _).out.mono ?_
              rintro e w4 ⟨rfl, hb⟩
              have T4 : Hid (St w w4 w1.heap.size (0, i) ∧ FCx w4 w2.heap.size) := ⟨T3.out.1.below hb, _, _, T3.out.2.below hb⟩
              clear hb
              go_wp2_with fail
              go_meet
              exact ⟨by simp, T4⟩
            · have hp := HP.out.2 hc
              subst hp
              have q1 : (c == 0) = false := by simpa using hc
              have q3 : (c != 0) = true := by simpa using hc
              have T4 : Hid (St w w3 w1.heap.size (c, i) ∧ FCx w3 w2.heap.size) := ⟨T3.out.1, _, _, T3.out.2⟩
              clear hc HP
              go_wp2_with fail
              go_meet
              exact ⟨by simp, T4⟩
          case rest => as_aux_lemma =>
            obtain ⟨rfl, HS⟩ := hcut
            clear T3 HP HF x0 x1 x2 x3 y0 y1 y2 y3
            obtain ⟨⟨c, i⟩, hF2⟩ : ∃ F2, lookK 0 [a, m] = F2 := ⟨_, rfl⟩
            have HF : Hid ((c, i) = lookK 0 [a, m]) := hF2.symm
            have L2 : ∀ (W : World) (g : Nat), g = W.heap.size → Hid (Calls Try.prog 11 #[.slice (some ⟨g, 0, none⟩) 2 2] (W.alloc (.cells #[.int .i64 a, .int .i64 m] 3)) (RetFault (W.alloc (.cells #[.int .i64 a, .int .i64 m] 3)) (c, i))) := fun W g hg => hF2 ▸ hg ▸ numbersFault_any _ 2 2 [a, m] _ rfl (by omega) (ints_new W [a, m] _)
            clear hF2
            go_wp2_with fail
            refine (L2 _ _ (by simp)).out.mono ?_
            rintro e w5 ⟨rfl, hb⟩
            simp only [fv]
            have hb := below_new hb
            have T5 := hide (And.intro (HS.out.1.below hb) (HS.out.2.below hb))
            obtain ⟨z0, z1, z2, z3⟩ := T5.out.1.2.1.cells
            obtain ⟨x0, x1⟩ := T5.out.1.2.1.put c i
            have HSZ : Hid (St w ((w5.setCell ⟨w1.heap.size, 0, none⟩ (.int .i64 c)).setCell ⟨w1.heap.size, 1, none⟩ (.int .i64 i)) w1.heap.size (c, i) ∧ FCx ((w5.setCell ⟨w1.heap.size, 0, none⟩ (.int .i64 c)).setCell ⟨w1.heap.size, 1, none⟩ (.int .i64 i)) w2.heap.size) := ⟨T5.out.1.set (c, i), T5.out.2.keep (by omega) _ _⟩
            clear HS hb L2 T5
            have HS := HSZ
            clear HSZ x0 x1
            go_upto_region 12 with (fail)
            go_cut [79] (fun b wc => ∃ B : Bool, b = .bool B ∧ Hid (B = (decide (c = 0) && decide (m < 1))) ∧ Hid (St w wc w1.heap.size (c, i) ∧ FCx wc w2.heap.size))
            case first => as_aux_lemma =>
              obtain ⟨x0, x1, x2, x3⟩ := HS.out.1.2.1.cells
              by_cases hc : c = 0
              · subst hc
                go_wp2_with fail
                go_meet
                exact ⟨_, rfl, by unfold Hid; simp, HS⟩
              · have q1 : (c == 0) = false := by simpa using hc
                have q2 := hide hc
                clear hc
                go_wp2_with fail
                go_meet
                exact ⟨_, rfl, by unfold Hid; simp [q2.out], HS⟩
            case rest => as_aux_lemma =>
              obtain ⟨B, rfl, HBB, HS2⟩ := hcut
              clear HS
              have HS := HS2
              clear HS2
              have HFN : Hid (stepF (c, i) (decide (m < 1)) (3, 1) = stepF (c, i) (decide (m < 1)) (3, 1)) := rfl
              go_upto_if 79 with (fail)
              go_cut [] (fun wd => ∃ c2 i2, Hid ((c2, i2) = stepF (c, i) (decide (m < 1)) (3, 1)) ∧ Hid (St w wd w1.heap.size (c2, i2) ∧ FCx wd w2.heap.size))
              case first => as_aux_lemma =>
                cases B
                · have HE : Hid ((c, i) = stepF (c, i) (decide (m < 1)) (3, 1)) := by
                    have := HBB.out
                    unfold Hid stepF
                    rw [if_neg (by simpa using this.symm)]
                  go_wp2_with fail
                  go_meet
                  exact ⟨c, i, HE, HS⟩
                · have HE : Hid ((3, 1) = stepF (c, i) (decide (m < 1)) (3, 1)) := by
                    have := HBB.out
                    unfold Hid stepF
                    rw [if_pos (by simpa using this.symm)]
                  go_wp2_with fail
                  refine (CF 3 1 _).out.mono ?_
                  rintro e wx ⟨rfl, hb⟩
                  have HX : Hid (St w wx w1.heap.size (c, i) ∧ FCx wx w2.heap.size) := ⟨HS.out.1.below hb, HS.out.2.below hb⟩
                  obtain ⟨x0, x1, x2, x3⟩ := HX.out.1.2.1.cells
                  clear hb
                  go_wp2_with fail
                  go_meet
                  exact ⟨3, 1, HE, ⟨HX.out.1.set (3, 1), HX.out.2.keep (by omega) _ _⟩⟩
              case rest => as_aux_lemma =>
                obtain ⟨c, i, HC2, HS2⟩ := hcut
                have HFZ : Hid ((c, i) = stepF (lookK 0 [a, m]) (decide (m < 1)) (3, 1)) := by unfold Hid; rw [HC2.out]; rw [HF.out]
                clear HS HBB HF HFN HC2
                have HF := HFZ
                have HS := HS2
                clear HS2 HFZ
                go_upto_region 14 with (fail)
                go_cut [89] (fun b wc => ∃ B : Bool, b = .bool B ∧ Hid (B = (decide (c = 0) && decide (Int.gcd a m ≠ 1))) ∧ Hid (St w wc w1.heap.size (c, i) ∧ FCx wc w2.heap.size))
                case first => as_aux_lemma =>
                  obtain ⟨x0, x1, x2, x3⟩ := HS.out.1.2.1.cells
                  by_cases hc : c = 0
                  · subst hc
                    have hbd := invS_ok (a := a) (m := m) (by rw [← HF.out])
                    have CG := fun W => hide (refGcd_any a m W (by omega) (by omega) (by omega) (by omega))
                    clear hbd
                    go_wp2_with fail
                    refine (CG _).out.mono ?_
                    rintro e wy ⟨rfl, rfl⟩
                    go_wp2_with fail
                    go_meet
                    exact ⟨_, rfl, by unfold Hid; rw [gcd_bne]; simp, HS⟩
                  · have q1 : (c == 0) = false := by simpa using hc
                    have q2 := hide hc
                    clear hc
                    go_wp2_with fail
                    go_meet
                    exact ⟨_, rfl, by unfold Hid; simp [q2.out], HS⟩
                case rest => as_aux_lemma =>
                  obtain ⟨B, rfl, HBB, HS2⟩ := hcut
                  clear HS
                  have HS := HS2
                  clear HS2
                  have HFN : Hid (stepF (c, i) (decide (Int.gcd a m ≠ 1)) (5, 0) = stepF (c, i) (decide (Int.gcd a m ≠ 1)) (5, 0)) := rfl
                  go_upto_if 89 with (fail)
                  go_cut [] (fun wd => ∃ c2 i2, Hid ((c2, i2) = stepF (c, i) (decide (Int.gcd a m ≠ 1)) (5, 0)) ∧ Hid (St w wd w1.heap.size (c2, i2) ∧ FCx wd w2.heap.size))
                  case first => as_aux_lemma =>
                    cases B
                    · have HE : Hid ((c, i) = stepF (c, i) (decide (Int.gcd a m ≠ 1)) (5, 0)) := by
                        have := HBB.out
                        unfold Hid stepF
                        rw [if_neg (by simpa using this.symm)]
                      go_wp2_with fail
                      go_meet
                      exact ⟨c, i, HE, HS⟩
                    · have HE : Hid ((5, 0) = stepF (c, i) (decide (Int.gcd a m ≠ 1)) (5, 0)) := by
                        have := HBB.out
                        unfold Hid stepF
                        rw [if_pos (by simpa using this.symm)]
                      go_wp2_with fail
                      refine (CF 5 0 _).out.mono ?_
                      rintro e wx ⟨rfl, hb⟩
                      have HX : Hid (St w wx w1.heap.size (c, i) ∧ FCx wx w2.heap.size) := ⟨HS.out.1.below hb, HS.out.2.below hb⟩
                      obtain ⟨x0, x1, x2, x3⟩ := HX.out.1.2.1.cells
                      clear hb
                      go_wp2_with fail
                      go_meet
                      exact ⟨5, 0, HE, ⟨HX.out.1.set (5, 0), HX.out.2.keep (by omega) _ _⟩⟩
                  case rest => as_aux_lemma =>
                    obtain ⟨c, i, HC2, HS2⟩ := hcut
                    have HFZ : Hid ((c, i) = invF a m) := by unfold Hid; rw [HC2.out]; rw [HF.out, invF_step]
                    clear HS HBB HF HFN HC2
                    have HF := HFZ
                    have HS := HS2
                    clear HS2 HFZ
                    have CI := fun W => hide (inverse_any a m W)
                    unfold RetNF at CI
                    rw [← HF.out] at CI
                    go_wp2_with fail
                    refine (CI _).out.mono ?_
                    rintro e w6 ⟨p, rfl, hp, hp0, hb⟩
                    simp only [fv]
                    have HP : Hid ((c = 0 → InvOk a m p) ∧ (c ≠ 0 → p = 0)) := ⟨hp, hp0⟩
                    have T6 := hide (And.intro (HS.out.1.below hb) (HS.out.2.below hb))
                    obtain ⟨f1, f2, hff⟩ := T6.out.2
                    obtain ⟨y0, y1, y2, y3⟩ := hff.cells
                    obtain ⟨y4, y5⟩ := hff.put c i
                    obtain ⟨x0, x1, x2, x3⟩ := T6.out.1.2.1.cells
                    have T7 : Hid (St w ((w6.setCell ⟨w2.heap.size, 0, none⟩ (.int .i64 c)).setCell ⟨w2.heap.size, 1, none⟩ (.int .i64 i)) w1.heap.size (c, i) ∧ FCx ((w6.setCell ⟨w2.heap.size, 0, none⟩ (.int .i64 c)).setCell ⟨w2.heap.size, 1, none⟩ (.int .i64 i)) w2.heap.size) := ⟨T6.out.1.other hl2 (by omega) _ _, _, _, (hff.set0 c).set1 i⟩
                    have hne1 : ¬ w1.heap.size = w2.heap.size := by omega
                    have hne2 : ¬ w2.heap.size = w1.heap.size := by omega
                    clear hp hp0 hb HS CI T6 hff
                    go_upto_region 19 with (fail)
                    go_cut [129] (fun b wc => b = .bool false ∧ Hid (St w wc w1.heap.size (c, i) ∧ FCx wc w2.heap.size))
                    case first => as_aux_lemma =>
                      obtain ⟨v0, v1, v2, v3⟩ := T7.out.1.2.1.cells
                      by_cases hc : c = 0
                      · subst hc
                        have hio := HP.out.1 rfl
                        have hbd := invF_ok (a := a) (m := m) (by rw [← HF.out])
                        have CP := fun W => hide (product_ref a p m W (by omega) (by omega) (by omega) (by omega) (by have := hio.1; omega) (by have := hio.2.1; omega))
                        rw [inv_emod hio.2.2] at CP
                        have e1 : (1 : Int).tmod m = 1 % m := Int.tmod_eq_emod_of_nonneg (by omega)
                        have hm0 : ¬ m = 0 := by omega
                        have hz0 := Int.emod_nonneg 1 hm0
                        have hz1 := Int.emod_lt_of_pos 1 (b := m) (by omega)
                        obtain ⟨z, hz⟩ : ∃ z, 1 % m = z := ⟨_, rfl⟩
                        rw [hz] at CP e1 hz0 hz1
                        have e2 : IntKind.i64.wrap z = z := by rw [IntKind.wrap_i64]; omega
                        have q1 : decide (p < 0) = false := by have := hio.1; simpa using this
                        have q2 : decide (m ≤ p) = false := by have := hio.2.1; simpa using this
                        have HT : Hid (∀ W, Below ((w6.setCell ⟨w2.heap.size, 0, none⟩ (.int .i64 0)).setCell ⟨w2.heap.size, 1, none⟩ (.int .i64 i)).heap.size ((w6.setCell ⟨w2.heap.size, 0, none⟩ (.int .i64 0)).setCell ⟨w2.heap.size, 1, none⟩ (.int .i64 i)) W → St w W w1.heap.size (0, i) ∧ FCx W w2.heap.size) := fun W hW => ⟨T7.out.1.below hW, T7.out.2.below hW⟩
                        clear hio hbd hz HP HF
                        refine wp_region_P (fun _ => True) 29 (by rfl) trivial ?_
                        intro _
                        refine wpAnyP_take 0 100 [0, 1, 2, 3, 7, 29] (v := ?_) rfl (by kernel_rfl) (by kernel_rfl) (by kernel_rfl) (by kernel_rfl) (by kernel_rfl) (by kernel_rfl) (by rfl) (fun _ _ _ h => h) (Or.inl ⟨by rfl, ?_⟩) trivial ?_; rotate_left
                        · (intro w hSw; clear hSw; go_simp; (try with_reducible rfl))
                        (try simp only [List.setIfInBounds_toArray, List.set_cons_zero, List.set_cons_succ])
                        refine wpAnyP_one 1 rfl (by kernel_rfl) (fun K hK => ?_)
                        go_simp
                        refine hK.out _ _ (fun _ => trivial) ?_
                        clear hK K
                        (try simp only [Act.put, List.setIfInBounds_toArray, List.set_cons_zero, List.set_cons_succ])
                        refine wpAnyP_take 2 102 [2, 3, 7, 29] (v := ?_) rfl (by kernel_rfl) (by kernel_rfl) (by kernel_rfl) (by kernel_rfl) (by kernel_rfl) (by kernel_rfl) (by rfl) (fun _ _ _ h => h) (Or.inl ⟨by rfl, ?_⟩) trivial ?_; rotate_left
                        · (intro w hSw; clear hSw; go_simp; (try with_reducible rfl))
                        (try simp only [List.setIfInBounds_toArray, List.set_cons_zero, List.set_cons_succ])
                        refine wpAnyP_take 3 103 [3, 7, 29] (v := ?_) rfl (by kernel_rfl) (by kernel_rfl) (by kernel_rfl) (by kernel_rfl) (by kernel_rfl) (by kernel_rfl) (by rfl) (fun _ _ _ h => h) (Or.inl ⟨by rfl, ?_⟩) trivial ?_; rotate_left
                        · (intro w hSw; clear hSw; go_simp; (try with_reducible rfl))
                        (try simp only [List.setIfInBounds_toArray, List.set_cons_zero, List.set_cons_succ])
                        refine wpAnyP_take 4 104 [4, 5, 6, 7, 29] (v := undef) rfl (by kernel_rfl) (by kernel_rfl) (by kernel_rfl) (by kernel_rfl) (by kernel_rfl) (by kernel_rfl) (by rfl) (fun _ _ _ h => h) (Or.inr ⟨by rfl, rfl⟩) trivial ?_
                        (try simp only [List.setIfInBounds_toArray, List.set_cons_zero, List.set_cons_succ])
                        refine wpAnyP_take 5 105 [5, 6, 7, 29] (v := undef) rfl (by kernel_rfl) (by kernel_rfl) (by kernel_rfl) (by kernel_rfl) (by kernel_rfl) (by kernel_rfl) (by rfl) (fun _ _ _ h => h) (Or.inr ⟨by rfl, rfl⟩) trivial ?_
                        (try simp only [List.setIfInBounds_toArray, List.set_cons_zero, List.set_cons_succ])
                        refine wpAnyP_take 6 106 [6, 7, 29] (v := ?_) rfl (by kernel_rfl) (by kernel_rfl) (by kernel_rfl) (by kernel_rfl) (by kernel_rfl) (by kernel_rfl) (by rfl) (fun _ _ _ h => h) (Or.inl ⟨by rfl, ?_⟩) trivial ?_; rotate_left
                        · (intro w hSw; clear hSw; go_simp; (try with_reducible rfl))
                        (try simp only [List.setIfInBounds_toArray, List.set_cons_zero, List.set_cons_succ])
                        refine wpAnyP_take 7 107 [7, 29] (v := ?_) rfl (by kernel_rfl) (by kernel_rfl) (by kernel_rfl) (by kernel_rfl) (by kernel_rfl) (by kernel_rfl) (by rfl) (fun _ _ _ h => h) (Or.inl ⟨by rfl, ?_⟩) trivial ?_; rotate_left
                        · (intro w hSw; clear hSw; go_simp; (try with_reducible rfl))
                        (try simp only [List.setIfInBounds_toArray, List.set_cons_zero, List.set_cons_succ])
                        refine wpAnyP_take 8 108 [8, 9, 10, 11, 28, 29] (v := ?_) rfl (by kernel_rfl) (by kernel_rfl) (by kernel_rfl) (by kernel_rfl) (by kernel_rfl) (by kernel_rfl) (by rfl) (fun _ _ _ h => h) (Or.inl ⟨by rfl, ?_⟩) trivial ?_; rotate_left
                        · (intro w hSw; clear hSw; go_simp; (try with_reducible rfl))
                        (try simp only [List.setIfInBounds_toArray, List.set_cons_zero, List.set_cons_succ])
                        refine wpAnyP_one 9 rfl (by kernel_rfl) (fun K hK => ?_)
                        go_simp
                        refine hK.out _ _ (fun _ => trivial) ?_
                        clear hK K
                        (try simp only [Act.put, List.setIfInBounds_toArray, List.set_cons_zero, List.set_cons_succ])
                        refine wpAnyP_take 10 110 [10, 11, 28, 29] (v := ?_) rfl (by kernel_rfl) (by kernel_rfl) (by kernel_rfl) (by kernel_rfl) (by kernel_rfl) (by kernel_rfl) (by rfl) (fun _ _ _ h => h) (Or.inl ⟨by rfl, ?_⟩) trivial ?_; rotate_left
                        · (intro w hSw; clear hSw; go_simp; (try with_reducible rfl))
                        (try simp only [List.setIfInBounds_toArray, List.set_cons_zero, List.set_cons_succ])
                        refine wpAnyP_take 11 111 [11, 28, 29] (v := ?_) rfl (by kernel_rfl) (by kernel_rfl) (by kernel_rfl) (by kernel_rfl) (by kernel_rfl) (by kernel_rfl) (by rfl) (fun _ _ _ h => h) (Or.inl ⟨by rfl, ?_⟩) trivial ?_; rotate_left
                        · (intro w hSw; clear hSw; go_simp; (try with_reducible rfl))
                        (try simp only [List.setIfInBounds_toArray, List.set_cons_zero, List.set_cons_succ])
                        refine wpAnyP_take 12 112 [12, 13, 14, 19, 27, 28, 29] (v := ?_) rfl (by kernel_rfl) (by kernel_rfl) (by kernel_rfl) (by kernel_rfl) (by kernel_rfl) (by kernel_rfl) (by rfl) (fun _ _ _ h => h) (Or.inl ⟨by rfl, ?_⟩) trivial ?_; rotate_left
                        · (intro w hSw; clear hSw; go_simp; (try with_reducible rfl))
                        (try simp only [List.setIfInBounds_toArray, List.set_cons_zero, List.set_cons_succ])
                        refine wpAnyP_take 13 113 [13, 14, 19, 27, 28, 29] (v := ?_) rfl (by kernel_rfl) (by kernel_rfl) (by kernel_rfl) (by kernel_rfl) (by kernel_rfl) (by kernel_rfl) (by rfl) (fun _ _ _ h => h) (Or.inl ⟨by rfl, ?_⟩) trivial ?_; rotate_left
                        · (intro w hSw; clear hSw; go_simp; (try with_reducible rfl))
                        (try simp only [List.setIfInBounds_toArray, List.set_cons_zero, List.set_cons_succ])
                        refine wpAnyP_take 14 114 [14, 19, 27, 28, 29] (v := ?_) rfl (by kernel_rfl) (by kernel_rfl) (by kernel_rfl) (by kernel_rfl) (by kernel_rfl) (by kernel_rfl) (by rfl) (fun _ _ _ h => h) (Or.inl ⟨by rfl, ?_⟩) trivial ?_; rotate_left
                        · (intro w hSw; clear hSw; go_simp; (try with_reducible rfl))
                        (try simp only [List.setIfInBounds_toArray, List.set_cons_zero, List.set_cons_succ])
                        refine wpAnyP_take 15 115 [15, 17, 18, 19, 27, 28, 29] (v := ?_) rfl (by kernel_rfl) (by kernel_rfl) (by kernel_rfl) (by kernel_rfl) (by kernel_rfl) (by kernel_rfl) (by rfl) (fun _ _ _ h => h) (Or.inl ⟨by rfl, ?_⟩) trivial ?_; rotate_left
                        · (intro w hSw; clear hSw; go_simp; (try with_reducible rfl))
                        (try simp only [List.setIfInBounds_toArray, List.set_cons_zero, List.set_cons_succ])
                        refine wpAnyP_take 16 116 [16, 17, 18, 19, 27, 28, 29] (v := ?_) rfl (by kernel_rfl) (by kernel_rfl) (by kernel_rfl) (by kernel_rfl) (by kernel_rfl) (by kernel_rfl) (by rfl) (fun _ _ _ h => h) (Or.inl ⟨by rfl, ?_⟩) trivial ?_; rotate_left
                        · (intro w hSw; clear hSw; go_simp; (try with_reducible rfl))
                        (try simp only [List.setIfInBounds_toArray, List.set_cons_zero, List.set_cons_succ])
                        refine wpAnyP_take 17 117 [17, 18, 19, 27, 28, 29] (v := ?_) rfl (by kernel_rfl) (by kernel_rfl) (by kernel_rfl) (by kernel_rfl) (by kernel_rfl) (by kernel_rfl) (by rfl) (fun _ _ _ h => h) (Or.inl ⟨by rfl, ?_⟩) trivial ?_; rotate_left
                        · (intro w hSw; clear hSw; go_simp; (try with_reducible rfl))
                        (try simp only [List.setIfInBounds_toArray, List.set_cons_zero, List.set_cons_succ])
                        refine wpAnyP_take 18 118 [18, 19, 27, 28, 29] (v := ?_) rfl (by kernel_rfl) (by kernel_rfl) (by kernel_rfl) (by kernel_rfl) (by kernel_rfl) (by kernel_rfl) (by rfl) (fun _ _ _ h => h) (Or.inl ⟨by rfl, ?_⟩) trivial ?_; rotate_left
                        · (intro w hSw; clear hSw; go_simp; (try with_reducible rfl))
                        (try simp only [List.setIfInBounds_toArray, List.set_cons_zero, List.set_cons_succ])
                        refine wpAnyP_take 19 119 [19, 27, 28, 29] (v := ?_) rfl (by kernel_rfl) (by kernel_rfl) (by kernel_rfl) (by kernel_rfl) (by kernel_rfl) (by kernel_rfl) (by rfl) (fun _ _ _ h => h) (Or.inl ⟨by rfl, ?_⟩) trivial ?_; rotate_left
                        · (intro w hSw; clear hSw; go_simp; (try with_reducible rfl))
                        (try simp only [List.setIfInBounds_toArray, List.set_cons_zero, List.set_cons_succ])
                        refine wpAnyP_take 20 120 [20, 23, 26, 27, 28, 29] (v := ?_) rfl (by kernel_rfl) (by kernel_rfl) (by kernel_rfl) (by kernel_rfl) (by kernel_rfl) (by kernel_rfl) (by rfl) (fun _ _ _ h => h) (Or.inl ⟨by rfl, ?_⟩) trivial ?_; rotate_left
                        · (intro w hSw; clear hSw; go_simp; (try with_reducible rfl))
                        (try simp only [List.setIfInBounds_toArray, List.set_cons_zero, List.set_cons_succ])
                        refine wpAnyP_take 21 121 [21, 23, 26, 27, 28, 29] (v := ?_) rfl (by kernel_rfl) (by kernel_rfl) (by kernel_rfl) (by kernel_rfl) (by kernel_rfl) (by kernel_rfl) (by rfl) (fun _ _ _ h => h) (Or.inl ⟨by rfl, ?_⟩) trivial ?_; rotate_left
                        · (intro w hSw; clear hSw; go_simp; (try with_reducible rfl))
                        (try simp only [List.setIfInBounds_toArray, List.set_cons_zero, List.set_cons_succ])
                        refine wpAnyP_take 22 122 [22, 23, 26, 27, 28, 29] (v := ?_) rfl (by kernel_rfl) (by kernel_rfl) (by kernel_rfl) (by kernel_rfl) (by kernel_rfl) (by kernel_rfl) (by rfl) (fun _ _ _ h => h) (Or.inl ⟨by rfl, ?_⟩) trivial ?_; rotate_left
                        · (intro w hSw; clear hSw; go_simp; (try with_reducible rfl))
                        (try simp only [List.setIfInBounds_toArray, List.set_cons_zero, List.set_cons_succ])
                        refine wpAnyP_take 24 124 [24, 25, 26, 27, 28, 29] (v := ?_) rfl (by kernel_rfl) (by kernel_rfl) (by kernel_rfl) (by kernel_rfl) (by kernel_rfl) (by kernel_rfl) (by rfl) (fun _ _ _ h => h) (Or.inl ⟨by rfl, ?_⟩) trivial ?_; rotate_left
                        · (intro w hSw; clear hSw; go_simp; (try with_reducible rfl))
                        (try simp only [List.setIfInBounds_toArray, List.set_cons_zero, List.set_cons_succ])
                        refine wpAnyP_take 25 125 [25, 26, 27, 28, 29] (v := ?_) rfl (by kernel_rfl) (by kernel_rfl) (by kernel_rfl) (by kernel_rfl) (by kernel_rfl) (by kernel_rfl) (by rfl) (fun _ _ _ h => h) (Or.inl ⟨by rfl, ?_⟩) trivial ?_; rotate_left
                        · (intro w hSw; clear hSw; go_simp; (try with_reducible rfl))
                        (try simp only [List.setIfInBounds_toArray, List.set_cons_zero, List.set_cons_succ])
                        refine wpAnyP_one 23 rfl (by kernel_rfl) (fun K hK => ?_)
                        go_simp
                        refine (CP _).out.mono ?_
                        rintro e wy ⟨rfl, hb⟩
                        go_wp2_with fail
                        refine hK.out _ _ (fun _ => trivial) ?_
                        clear hK K
                        (try simp only [Act.put, List.setIfInBounds_toArray, List.set_cons_zero, List.set_cons_succ])
                        refine wpAnyP_take 26 126 [26, 27, 28, 29] (v := ?_) rfl (by kernel_rfl) (by kernel_rfl) (by kernel_rfl) (by kernel_rfl) (by kernel_rfl) (by kernel_rfl) (by rfl) (fun _ _ _ h => h) (Or.inl ⟨by rfl, ?_⟩) trivial ?_; rotate_left
                        · (intro w hSw; clear hSw; go_simp; (try with_reducible rfl))
                        (try simp only [List.setIfInBounds_toArray, List.set_cons_zero, List.set_cons_succ])
                        refine wpAnyP_take 27 127 [27, 28, 29] (v := ?_) rfl (by kernel_rfl) (by kernel_rfl) (by kernel_rfl) (by kernel_rfl) (by kernel_rfl) (by kernel_rfl) (by rfl) (fun _ _ _ h => h) (Or.inl ⟨by rfl, ?_⟩) trivial ?_; rotate_left
                        · (intro w hSw; clear hSw; go_simp; (try with_reducible rfl))
                        (try simp only [List.setIfInBounds_toArray, List.set_cons_zero, List.set_cons_succ])
                        refine wpAnyP_take 28 128 [28, 29] (v := ?_) rfl (by kernel_rfl) (by kernel_rfl) (by kernel_rfl) (by kernel_rfl) (by kernel_rfl) (by kernel_rfl) (by rfl) (fun _ _ _ h => h) (Or.inl ⟨by rfl, ?_⟩) trivial ?_; rotate_left
                        · (intro w hSw; clear hSw; go_simp; (try with_reducible rfl))
                        (try simp only [List.setIfInBounds_toArray, List.set_cons_zero, List.set_cons_succ])
                        refine wpAnyP_one 29 rfl (by kernel_rfl) (fun K hK => ?_)
                        go_simp
                        refine hK.out _ _ (fun _ => trivial) ?_
                        clear hK K
                        (try simp only [Act.put, List.setIfInBounds_toArray, List.set_cons_zero, List.set_cons_succ])
                        refine wpAnyP_done (by kernel_rfl) ?_ _
                        go_wp2_with fail
                        go_meet
                        exact ⟨rfl, HT.out _ ((Below.refl _ _).drew.trans hb)⟩
                      · have hp := HP.out.2 hc
                        subst hp
                        have q1 : (c == 0) = false := by simpa using hc
                        have q3 : (c != 0) = true := by simpa using hc
                        clear hc HP HF
                        go_quiet (fail)
                        go_wp2_with fail
                        go_meet
                        exact ⟨rfl, T7.out.1.below (below_drewN (Below.refl _ _) _), T7.out.2.below (below_drewN (Below.refl _ _) _)⟩
                    case rest => as_aux_lemma =>
                      obtain ⟨rfl, HS⟩ := hcut
                      clear T7 HP HF x0 x1 x2 x3 y0 y1 y2 y3 y4 y5
                      obtain ⟨x0, x1, x2, x3⟩ := HS.out.1.2.1.cells
                      obtain ⟨wb, hwb⟩ : ∃ wb, wb = wc := ⟨_, rfl⟩
                      have K := fun W => hide (number_any n W)
                      have HS0 : Hid (St w ((wb.setCell ⟨w1.heap.size, 0, none⟩ (.int .i64 0)).setCell ⟨w1.heap.size, 1, none⟩ (.int .i64 0)) w1.heap.size (0, 0) ∧ FCx ((wb.setCell ⟨w1.heap.size, 0, none⟩ (.int .i64 0)).setCell ⟨w1.heap.size, 1, none⟩ (.int .i64 0)) w2.heap.size) := by
                        rw [hwb]; exact ⟨HS.out.1.set (0, 0), HS.out.2.keep (by omega) _ _⟩
                      rw [hwb] at HS0
                      clear hwb HS
                      go_upto_region 22 with (fail)
                      go_cut [137] (fun b wc => ∃ B : Bool, b = .bool B ∧ Hid (B = (!okB n || decide (n < 0))) ∧ Hid (St w wc w1.heap.size (0, 0) ∧ FCx wc w2.heap.size))
                      case first => as_aux_lemma =>
                        cases ho : okB n
                        · rw [ho] at K
                          have HO := hide ho
                          clear ho
                          go_wp2_with fail
                          refine (K _).out.mono ?_
                          rintro e wx ⟨rfl, rfl⟩
                          go_wp2_with fail
                          go_meet
                          exact ⟨_, rfl, by unfold Hid; rw [HO.out]; simp, HS0⟩
                        · rw [ho] at K
                          have HO := hide ho
                          clear ho
                          go_wp2_with fail
                          refine (K _).out.mono ?_
                          rintro e wx ⟨rfl, rfl⟩
                          go_wp2_with fail
                          go_meet
                          exact ⟨_, rfl, by unfold Hid; rw [HO.out]; simp, HS0⟩
                      case rest => as_aux_lemma =>
                        obtain ⟨B, rfl, HBB, HS⟩ := hcut
                        clear HS0 K x0 x1 x2 x3
                        have HRB := hide (rootF_B n k B HBB.out)
                        clear HBB
                        go_upto_if 137 with (fail)
                        go_cut [] (fun wd => Hid (St w wd w1.heap.size (rootF n k) ∧ FCx wd w2.heap.size))
                        case first => as_aux_lemma =>
                          cases B
                          · by_cases hk : k < 1 ∨ 60 < k
                            · have HE := hide ((HRB.out.2 rfl).1 hk)
                              have hkk : decide (k < 1) = true ∨ (decide (k < 1) = false ∧ decide (60 < k) = true) := by
                                by_cases h : k < 1
                                · exact .inl (by simpa using h)
                                · exact .inr ⟨by simpa using h, by simp; omega⟩
                              clear hk HRB
                              rcases hkk with h | ⟨h, h'⟩
                              all_goals
                                go_wp2_with fail
                                refine (CF 3 1 _).out.mono ?_
                                rintro e wx ⟨rfl, hb⟩
                                have HX := hide (And.intro (HS.out.1.below hb) (HS.out.2.below hb))
                                obtain ⟨x0, x1, x2, x3⟩ := HX.out.1.2.1.cells
                                clear hb
                                go_wp2_with fail
                                go_meet
                                rw [HE.out]
                                exact ⟨HX.out.1.set (3, 1), HX.out.2.keep (by omega) _ _⟩
                            · have HE := hide ((HRB.out.2 rfl).2 hk)
                              have q1 : decide (k < 1) = false := by simp; omega
                              have q2 : decide (60 < k) = false := by simp; omega
                              clear hk HRB
                              go_wp2_with fail
                              go_meet
                              rw [HE.out]
                              exact HS
                          · have HE := hide (HRB.out.1 rfl)
                            clear HRB
                            go_wp2_with fail
                            refine (CF 3 0 _).out.mono ?_
                            rintro e wx ⟨rfl, hb⟩
                            have HX := hide (And.intro (HS.out.1.below hb) (HS.out.2.below hb))
                            obtain ⟨x0, x1, x2, x3⟩ := HX.out.1.2.1.cells
                            clear hb
                            go_wp2_with fail
                            go_meet
                            rw [HE.out]
                            exact ⟨HX.out.1.set (3, 0), HX.out.2.keep (by omega) _ _⟩
                        case rest => as_aux_lemma =>
                          clear HRB HS
                          have HS := hcut
                          clear hcut
                          have CR := fun W => hide (root_any n k W)
                          unfold RetNF at CR
                          obtain ⟨⟨c, i⟩, hF3⟩ : ∃ F3, rootF n k = F3 := ⟨_, rfl⟩
                          rw [hF3] at CR HS
                          have HF := hide hF3
                          clear hF3
                          go_wp2_with fail
                          refine (CR _).out.mono ?_
                          rintro e w7 ⟨p, rfl, hp, hp0, hb⟩
                          simp only [fv]
                          have HP : Hid ((c = 0 → RootOk n k p) ∧ (c ≠ 0 → p = 0)) := ⟨hp, hp0⟩
                          have T6 := hide (And.intro (HS.out.1.below hb) (HS.out.2.below hb))
                          obtain ⟨f1, f2, hff⟩ := T6.out.2
                          obtain ⟨y0, y1, y2, y3⟩ := hff.cells
                          obtain ⟨y4, y5⟩ := hff.put c i
                          obtain ⟨x0, x1, x2, x3⟩ := T6.out.1.2.1.cells
                          have T7 : Hid (St w ((w7.setCell ⟨w2.heap.size, 0, none⟩ (.int .i64 c)).setCell ⟨w2.heap.size, 1, none⟩ (.int .i64 i)) w1.heap.size (c, i)) := T6.out.1.other hl2 (by omega) _ _
                          clear hp hp0 hb HS CR T6 hff
                          by_cases hc : c = 0
                          · subst hc
                            obtain ⟨r, hpr, hr1, hr2, hr3⟩ := HP.out.1 rfl
                            subst hpr
                            have hbd := rootF_ok (n := n) (k := k) (by rw [HF.out])
                            obtain ⟨K, rfl⟩ : ∃ K : Nat, k = K := ⟨k.toNat, by omega⟩
                            rw [show ((K : Int)).toNat = K from by omega] at hr2 hr3
                            have CN := fun W => hide (number_any (r : Int) W)
                            rw [show okB (r : Int) = true from by unfold okB; simp; omega] at CN
                            have CA := fun W => hide (above_ref r K n W (by omega) (by omega) (by omega) (by omega))
                            have CA2 := fun W => hide (above_ref (r + 1) K n W (by omega) (by omega) (by omega) (by omega))
                            rw [show decide (n < (r : Int) ^ K) = false from by simpa using hr2] at CA
                            rw [show decide (n < ((r + 1 : Nat) : Int) ^ K) = true from by simpa using hr3] at CA2
                            rw [show ((r + 1 : Nat) : Int) = (r : Int) + 1 from by omega] at CA2
                            have hrb : r ≤ 1000000000000000000 := by omega
                            clear hr1 hr2 hr3 hbd HP HF
                            go_wp2_with fail
                            refine (CN _).out.mono ?_
                            rintro e w8 ⟨rfl, rfl⟩
                            go_wp2_with fail
                            refine (CA _).out.mono ?_
                            rintro e w8 ⟨rfl, hb⟩
                            have T8 := hide (T7.out.below hb)
                            clear hb
                            go_wp2_with fail
                            refine (CA2 _).out.mono ?_
                            rintro e w9 ⟨rfl, hb⟩
                            have T9 := hide (T8.out.below hb)
                            clear hb
                            go_wp2_with fail
                            go_ret
                            exact ⟨rfl, T9.out.1⟩
                          · have hp := HP.out.2 hc
                            subst hp
                            have q1 : (c == 0) = false := by simpa using hc
                            have q3 : (c != 0) = true := by simpa using hc
                            clear hc HP
                            go_wp2_with fail
                            go_ret
                            exact ⟨rfl, T7.out.1⟩
end Go.Proofs.Ytddnchjnbgdocaa
