/- The walk of the answers' ClassesOf. -/
import Derived.Test.YtkfjjljdhfjpbaaKFormD
namespace Go.Proofs.Ytkfjjljdhfjpbaa
open Go.RowKit

theorem okF_red {d a b c : Int} (ha : 1 ≤ a) (hb : -a ≤ b) (hb2 : b ≤ a) (hc : (b * b - d) / (4 * a) = c) (h : redB a b c = false) : okF d a b = false := by
  rw [redB_at ha hb hb2, decide_eq_false_iff_not] at h
  unfold okF
  rw [hc, decide_eq_false_iff_not]
  rintro ⟨_, h1, _, h3, h4, _⟩
  exact h ⟨h1, h3, h4⟩
def RetClOf (w : World) (d : Int) : Ending → World → Prop := fun e w' => ∃ (v : Value) (n : Nat), e = .returned v ∧ 3 * (n : Int) * n ≤ -d ∧ -d < 3 * ((n : Int) + 1) * ((n : Int) + 1) ∧ n ≤ 258 ∧ Forms w' w.heap.size v (allF d n) ∧ Below w.heap.size w w'

set_option maxRecDepth 100000 in
set_option maxHeartbeats 6400000 in
theorem classesOf_any (d : Int) (w : World) (hd1 : d < 0) (hd2 : -200000 ≤ d) : Calls Try.prog 13 #[.int .i64 d] w (RetClOf w d) := by
  have KF := field_code
  obtain ⟨i0, hi, hz0, hz1, hz2⟩ := info_parts finfo
  have HI := hide (And.intro hi (And.intro hz0 (And.intro hz1 hz2)))
  clear hi hz0 hz1 hz2
  go_enter Try.func13, Try.ntmps13
  go_wp2_with fail
  go_loopw [3, 4, 5, 6] (fun v x _ _ wr => ∃ (a : Int) (n : Nat), x = .int .i64 a ∧ 1 ≤ a ∧ a ≤ 259 ∧ Hid (a = n + 1) ∧ Hid (3 * (n : Int) * n ≤ -d) ∧ Hid (Forms wr w.heap.size v (allF d n)) ∧ Hid (Below w.heap.size w wr)) (fun _ x _ _ _ => 300 - (intOf x).toNat)
  case atStart => exact ⟨1, 0, rfl, by omega, by omega, rfl, by unfold Hid; omega, Forms.nil0 _ _, Below.refl _ _⟩
  case round =>
    obtain ⟨a, n, rfl, ha1, ha2, HA, HN, HF, HB⟩ := hrel
    obtain ⟨wo, rfl⟩ : ∃ wo : World, wo = wr := ⟨_, rfl⟩
    have ha3 := abs_mul_le (x := 3 * a) (y := a) (p := 777) (q := 259) (by omega) (by omega)
    by_cases hle : 3 * a * a ≤ -d
    · have hle2 : decide (3 * a * a ≤ -d) = true := by simpa using hle
      have HLE := hide hle
      have R0 : Hid (Forms wo w.heap.size u3 (allF d n ++ rowF d a 0)) := by unfold Hid; rw [rowF, List.append_nil]; exact HF.out
      clear hle
      go_wp2_with fail
      go_loopw [3, 5, 6] (fun v x _ wr => ∃ (b : Int) (j : Nat), x = .int .i64 b ∧ -a ≤ b ∧ b ≤ a + 1 ∧ Hid (b = -a + j) ∧ Hid (Forms wr w.heap.size v (allF d n ++ rowF d a j)) ∧ Hid (Below w.heap.size w wr)) (fun _ x _ _ => (a + 1 - intOf x).toNat)
      case atStart => exact ⟨-a, 0, rfl, by omega, by omega, by unfold Hid; omega, R0, HB⟩
      case round =>
        clear R0 HF HB
        obtain ⟨b, j, rfl, hb1, hb2, HJ, HF, HB⟩ := hrel
        by_cases hba : b ≤ a
        · have hb3 := abs_mul_le (x := b) (y := b) (p := 260) (q := 260) (by omega) (by omega)
          have hb4 := sq_nonneg b
          have hc0 : 0 ≤ (b * b - d) / (4 * a) := Int.ediv_nonneg (by omega) (by omega)
          have hc1 : (b * b - d) / (4 * a) ≤ b * b - d := Int.ediv_le_self _ (by omega)
          have hr0 := Int.emod_nonneg (b * b - d) (b := 4 * a) (by omega)
          have e1 : (b * b - d).tmod (4 * a) = (b * b - d) % (4 * a) := Int.tmod_eq_emod_of_nonneg (by omega)
          have e2 : (b * b - d).tdiv (4 * a) = (b * b - d) / (4 * a) := Int.tdiv_eq_ediv_of_nonneg (by omega)
          have hr1 := Int.emod_lt_of_pos (b * b - d) (b := 4 * a) (by omega)
          obtain ⟨c, hc⟩ : ∃ c, (b * b - d) / (4 * a) = c := ⟨_, rfl⟩
          obtain ⟨r, hr⟩ : ∃ r, (b * b - d) % (4 * a) = r := ⟨_, rfl⟩
          rw [hc] at hc0 hc1 e2
          rw [hr] at e1 hr0 hr1
          have HC := hide hc
          have HR := hide hr
          have HJ2 := HJ.out
          by_cases h0 : r = 0
          · subst h0
            have HX : Hid (Below w.heap.size w (wr.alloc (.cells #[.int .i64 a, .int .i64 b, .int .i64 c] 23))) := HB.out.alloc (by have := HB.out.size; simpa using this) _
            have HFX : Hid (Forms (wr.alloc (.cells #[.int .i64 a, .int .i64 b, .int .i64 c] 23)) w.heap.size u3 (allF d n ++ rowF d a j)) := HF.out.below (bel_obj _ _)
            have CR := fun W => hide (reduced_any a b c W (by omega) (by omega))
            have MC0 := hide (MC.made wr a b c)
            cases hred : redB a b c
            · rw [hred] at CR
              have hno := okF_red (d := d) ha1 hb1 hba hc hred
              have HRW : Hid (∀ W, Forms W w.heap.size u3 (allF d n ++ rowF d a j) → Forms W w.heap.size u3 (allF d n ++ rowF d a (j + 1))) := by intro W hW; rw [rowF_no (by omega) hno]; exact hW
              clear HJ2 hred hno
              go_wp2_with fail
              refine (CR _).out.mono ?_
              rintro e w2 ⟨rfl, hb⟩
              have HN2 := hide (HRW.out _ (HFX.out.below hb))
              have HX2 := hide (HX.out.trans (hb.mono HX.out.size))
              clear hb
              go_wp2_with fail
              exact ⟨⟨b + 1, j + 1, rfl, by omega, by omega, by have := HJ.out; unfold Hid; omega, HN2, HX2⟩, by simp [intOf]; omega⟩
            · rw [hred] at CR
              have hrd := hred
              rw [redB_at ha1 hb1 hba, decide_eq_true_eq] at hrd
              have hform := okF_form (d := d) (a := a) (b := b) (c := c) ha1 (by omega) hrd.1 hba hd1 hd2 hc hr hrd.2.1 hrd.2.2
              have CK := fun W => hide (formFault_any a b c W)
              unfold RetFault at CK
              obtain ⟨⟨x, y⟩, hxy⟩ : ∃ F, formF a b c = F := ⟨_, rfl⟩
              rw [hxy] at CK hform
              simp only [fv] at CK
              cases hok : okF d a b
              · rw [hok, if_neg (by simp)] at hform
                simp only at hform
                subst hform
                have HRW : Hid (∀ W, Forms W w.heap.size u3 (allF d n ++ rowF d a j) → Forms W w.heap.size u3 (allF d n ++ rowF d a (j + 1))) := by intro W hW; rw [rowF_no (by omega) hok]; exact hW
                clear HJ2 hred hrd hxy hok
                go_wp2_with fail
                refine (CR _).out.mono ?_
                rintro e w1 ⟨rfl, hb⟩
                have HF1 := hide (HFX.out.below hb)
                have HX1 := hide (HX.out.trans (hb.mono HX.out.size))
                have MC1 := hide (MC0.out.below hb)
                obtain ⟨m0, m1, m2⟩ := MC1.out.cells
                clear hb
                go_wp2_with fail
                refine (CK _).out.mono ?_
                rintro e w2 ⟨rfl, hb⟩
                have HN2 := hide (HRW.out _ (HF1.out.below hb))
                have HX2 := hide (HX1.out.trans (hb.mono HX1.out.size))
                clear hb m0 m1 m2
                go_wp2_with fail
                exact ⟨⟨b + 1, j + 1, rfl, by omega, by omega, by have := HJ.out; unfold Hid; omega, HN2, HX2⟩, by simp [intOf]; omega⟩
              · rw [hok, if_pos rfl] at hform
                simp only at hform
                subst hform
                have HRW : Hid (allF d n ++ rowF d a (j + 1) = (allF d n ++ rowF d a j) ++ [(a, b, c)]) := by unfold Hid; rw [rowF_yes (by omega) hok, List.append_assoc]; unfold frm; rw [hc]
                have HLN : Hid ((allF d n ++ rowF d a j).length ≤ 1000000) := by
                  unfold Hid
                  rw [List.length_append]
                  have h7 := allF_len d n
                  have h8 := rowF_len d a j
                  have h9 : n ≤ 260 := by have := HA.out; omega
                  have h10 : n * (2 * n + 1) ≤ 260 * 521 := Nat.mul_le_mul h9 (by omega)
                  omega
                clear HJ2 hred hrd hxy hok
                go_wp2_with fail
                refine (CR _).out.mono ?_
                rintro e w1 ⟨rfl, hb⟩
                have HF1 := hide (HFX.out.below hb)
                have HX1 := hide (HX.out.trans (hb.mono HX.out.size))
                have MC1 := hide (MC0.out.below hb)
                obtain ⟨m0, m1, m2⟩ := MC1.out.cells
                clear hb
                go_wp2_with fail
                refine (CK _).out.mono ?_
                rintro e w2 ⟨rfl, hb⟩
                have HF2 := hide (HF1.out.below hb)
                have HX2 := hide (HX1.out.trans (hb.mono HX1.out.size))
                obtain ⟨m0, m1, m2⟩ := (MC1.out.below hb).cells
                have hlt2 : wr.heap.size < w2.heap.size := (MC1.out.below hb).lt
                clear hb
                go_wp2_with (at_builtin; refine wpList_append_own _ rfl _ _ 37 rfl w.heap.size 23 i0 (.agg #[.int .i64 0, .int .i64 0, .int .i64 0]) 3 24 Try.underlying37 HI.out.1 HI.out.2.1 HI.out.2.2.1 HI.out.2.2.2 rfl (by decide) u3 _ _ rfl (HF2.out.below (bel_obj w2 (.cells #[.int .i64 a, .int .i64 b, .int .i64 c] 23))) ⟨w2.heap.size, 0, none⟩ 1 1 [.int .i64 a, .int .i64 b, .int .i64 c] rfl rfl (three_new _ _ _ _ _) ?c2 ?c3 ?c4 ?c5 ?_)
                case c2 => intro u hu; simp at hu; rcases hu with rfl | rfl | rfl <;> rfl
                case c3 => have := HLN.out; simp only [maxLen]; omega
                case c4 => have := HLN.out; omega
                case c5 => have := HX2.out.size; simp at this ⊢; omega
                intro v' w3 hown hg _
                clear e1 e2 hc hr KF
                have HF3 : Hid (Forms w3 w.heap.size v' (allF d n ++ rowF d a (j + 1))) := by
                  unfold Hid Forms
                  rw [HRW.out, List.length_append, List.length_append, fcs_append, fcs_one]
                  exact hown
                have HX3 : Hid (Below w.heap.size w w3) := (HX2.out.alloc (by have := HX2.out.size; simpa using this) _).grown hg (by have := HX2.out.size; simp at this ⊢; omega) (Forms.own HF2.out)
                clear hown hg
                go_wp2_with fail
                exact ⟨⟨b + 1, j + 1, rfl, by omega, by omega, by have := HJ.out; unfold Hid; omega, HF3, HX3⟩, by simp [intOf]; omega⟩
          · have HN2 : Hid (Forms wr w.heap.size u3 (allF d n ++ rowF d a (j + 1))) := by unfold Hid; rw [rowF_no (by omega) (okF_rest hr h0)]; exact HF.out
            have q5 : (r != 0) = true := by simpa using h0
            clear HJ2 h0
            go_wp2_with fail
            exact ⟨⟨b + 1, j + 1, rfl, by omega, by omega, by have := HJ.out; unfold Hid; omega, HN2, HB⟩, by simp [intOf]; omega⟩
        · obtain rfl : b = a + 1 := by omega
          have hae := a_bound (a := a) (d := d) (by omega) HLE.out hd2
          have HA2 : Hid (a + 1 = ((n + 1 : Nat) : Int) + 1) := by have := HA.out; unfold Hid; omega
          have HN2 : Hid (3 * ((n + 1 : Nat) : Int) * ((n + 1 : Nat) : Int) ≤ -d) := by
            have := HA.out
            have h1 := HLE.out
            unfold Hid
            rw [show ((n + 1 : Nat) : Int) = a from by omega]
            exact h1
          have HF2 : Hid (Forms wr w.heap.size u3 (allF d (n + 1))) := by
            have h1 := HF.out
            have h2 := HJ.out
            have h3 := HA.out
            unfold Hid
            rw [allF_next h3, show 2 * (n + 1) + 1 = j from by omega]
            exact h1
          clear HF hba hb1 hb2 ha3
          go_wp2_with fail
          exact ⟨⟨a + 1, n + 1, rfl, by omega, by omega, HA2, HN2, HF2, HB⟩, by simp [intOf]; omega⟩
    · have q5 : decide (3 * a * a ≤ -d) = false := by simpa using hle
      have HL : Hid (-d < 3 * ((n : Int) + 1) * ((n : Int) + 1) ∧ n ≤ 258) := by
        have := HA.out
        unfold Hid
        rw [show (n : Int) + 1 = a from by omega]
        omega
      clear hle
      go_wp2_with fail
      go_ret
      exact ⟨u3, n, rfl, HN.out, HL.out.1, HL.out.2, HF.out, HB.out⟩
end Go.Proofs.Ytkfjjljdhfjpbaa
