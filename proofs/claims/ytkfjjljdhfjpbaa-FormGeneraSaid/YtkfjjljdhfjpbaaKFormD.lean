/- The walk of quad.Classes. -/
import Derived.Test.YtkfjjljdhfjpbaaKFormC
namespace Go.Proofs.Ytkfjjljdhfjpbaa
open Go.RowKit

theorem Forms.below {w w' : World} {base : Nat} {v : Value} {l : List (Int × Int × Int)} (h : Forms w base v l) (k : Below w.heap.size w w') : Forms w' base v l := by
  obtain ⟨h1, h2⟩ := h
  refine ⟨h1, ?_⟩
  rcases h2 with h2 | ⟨g, cap, cur, hv, hg, hh, r⟩
  · exact .inl h2
  · exact .inr ⟨g, cap, cur, hv, hg, (k.block g (heap_lt hh)).trans hh, r⟩

theorem Forms.set {w : World} {g : Nat} {v : Value} {l : List (Int × Int × Int)} (h : Forms w (g + 1) v l) (k : Nat) (u : Value) : Forms (w.setCell ⟨g, k, none⟩ u) (g + 1) v l := by
  obtain ⟨h1, h2⟩ := h
  refine ⟨h1, ?_⟩
  rcases h2 with h2 | ⟨b, cap, cur, hv, hg, hh, r⟩
  · exact .inl h2
  · exact .inr ⟨b, cap, cur, hv, hg, by rw [Below.heap_setCell _ _ _ _ (by show b ≠ g; omega)]; exact hh, r⟩
theorem Forms.own {w : World} {base : Nat} {v : Value} {l : List (Int × Int × Int)} (h : Forms w base v l) : ∀ k, v.ownBlock = some k → base ≤ k := by
  intro k hk
  obtain ⟨_, h2⟩ := h
  rcases h2 with ⟨rfl, _⟩ | ⟨g, cap, cur, rfl, hg, _⟩
  · cases hk
  · simp [Value.ownBlock] at hk; omega
theorem field_code (x y : Int) (w : World) : (Instr.field 26 (.agg #[.int .i64 x, .int .i64 y]) 0).run Try.prog w = .ok (.int .i64 x) w := by kernel_rfl
theorem three_new (W : World) (a b c : Value) (T : TypeId) : ∀ (j : Nat) (u : Value), [a, b, c][j]? = some u → (W.alloc (.cells #[a, b, c] T)).cell? ((⟨W.heap.size, 0, none⟩ : Addr).add j) = some u := by
  intro j u hu
  have hb : (W.alloc (.cells #[a, b, c] T)).heap[W.heap.size]? = some (.cells #[a, b, c] T (0, 0)) := by
    show (W.heap.push _)[W.heap.size]? = _
    simp
  generalize W.alloc (.cells #[a, b, c] T) = W2 at hb
  generalize W.heap.size = g at hb
  match j, hu with
  | 0, hu => simp at hu; subst hu; simp [World.cell?, Addr.add, hb]
  | 1, hu => simp at hu; subst hu; simp [World.cell?, Addr.add, hb]
  | 2, hu => simp at hu; subst hu; simp [World.cell?, Addr.add, hb]
theorem sq_nonneg (b : Int) : 0 ≤ b * b := by
  rcases Int.le_total 0 b with h | h
  · exact Int.mul_nonneg h h
  · exact Int.mul_nonneg_of_nonpos_of_nonpos h h

/-- Classes' word -/
def ClsF (d : Int) : Int × Int := if 0 ≤ d ∨ d < -200000 then (3, 0) else if 1 < d % 4 then (7, 0) else (0, 0)
def RetClasses (w : World) (d : Int) : Ending → World → Prop := fun e w' => ∃ v, e = .returned (.tuple #[v, fv (ClsF d)]) ∧ ((ClsF d).1 ≠ 0 → v = .slice none 0 0) ∧ ((ClsF d).1 = 0 → ∃ n : Nat, 3 * (n : Int) * n ≤ -d ∧ -d < 3 * ((n : Int) + 1) * ((n : Int) + 1) ∧ n ≤ 258 ∧ Forms w' (w.heap.size + 1) v (allF d n)) ∧ Below w.heap.size w w'

set_option maxRecDepth 100000 in
set_option maxHeartbeats 1600000 in
theorem classes_range (d : Int) (w : World) (h : 0 ≤ d ∨ d < -200000) : Calls Try.prog 24 #[.int .i64 d] w (RetClasses w d) := by
  have HE : Hid (ClsF d = (3, 0)) := by unfold Hid ClsF; rw [if_pos h]
  have C := fun W => hide (qfault_any 3 0 W)
  have hh : decide (0 ≤ d) = true ∨ (decide (0 ≤ d) = false ∧ decide (d < -200000) = true) := by
    simp only [decide_eq_true_eq, decide_eq_false_iff_not]; omega
  clear h
  rcases hh with h | ⟨h, h2⟩
  all_goals
    go_enter Try.func24, Try.ntmps24
    go_wp2_with fail
    refine (C _).out.mono ?_
    rintro e w1 ⟨rfl, hb⟩
    have F1 := (FC.fresh w).below hb
    obtain ⟨d0, d1, f0, f1⟩ := F1.cells
    obtain ⟨p0, p1⟩ := F1.put 3 0
    have HB2 := hide (below_fault (u := .int .i64 3) (v := .int .i64 0) (below_new hb) (Nat.le_refl w.heap.size))
    clear hb F1
    go_wp2_with fail
    exact bodyPost_ret (v := .tuple #[.slice none 0 0, fv (3, 0)]) (by simp [results, Try.results24, go_sem, fv, p0, p1]) rfl ⟨_, by rw [HE.out], fun _ => rfl, fun h => by rw [HE.out] at h; simp at h, HB2.out⟩

set_option maxRecDepth 100000 in
set_option maxHeartbeats 1600000 in
theorem classes_kind (d : Int) (w : World) (h : ¬ (0 ≤ d ∨ d < -200000)) (h2 : 1 < d % 4) : Calls Try.prog 24 #[.int .i64 d] w (RetClasses w d) := by
  have HE : Hid (ClsF d = (7, 0)) := by unfold Hid ClsF; rw [if_neg h, if_pos h2]
  have C := fun W => hide (qfault_any 7 0 W)
  have CM := fun W => hide (mod_any d 4 W (by omega) (by omega) (by omega) (by omega))
  have q1 : decide (0 ≤ d) = false := by simp; omega
  have q2 : decide (d < -200000) = false := by simp; omega
  obtain ⟨r, hr⟩ : ∃ r, d % 4 = r := ⟨_, rfl⟩
  rw [hr] at CM h2
  have q3 : decide (1 < r) = true := by simpa using h2
  clear h h2 hr
  go_enter Try.func24, Try.ntmps24
  go_wp2_with fail
  refine (CM _).out.mono ?_
  rintro e w1 ⟨rfl, rfl⟩
  go_wp2_with fail
  refine (C _).out.mono ?_
  rintro e w1 ⟨rfl, hb⟩
  have F1 := (FC.fresh w).below hb
  obtain ⟨d0, d1, f0, f1⟩ := F1.cells
  obtain ⟨p0, p1⟩ := F1.put 7 0
  have HB2 := hide (below_fault (u := .int .i64 7) (v := .int .i64 0) (below_new hb) (Nat.le_refl w.heap.size))
  clear hb F1
  go_wp2_with fail
  exact bodyPost_ret (v := .tuple #[.slice none 0 0, fv (7, 0)]) (by simp [results, Try.results24, go_sem, fv, p0, p1]) rfl ⟨_, by rw [HE.out], fun _ => rfl, fun h => by rw [HE.out] at h; simp at h, HB2.out⟩

theorem sq_mono {a b : Int} (h0 : 0 ≤ a) (h : a ≤ b) : a * a ≤ b * b := Int.mul_le_mul h h h0 (by omega)
theorem a_bound {a d : Int} (_ha : 0 ≤ a) (h : 3 * a * a ≤ -d) (hd : -200000 ≤ d) : a ≤ 258 := by
  rcases Int.lt_or_le 258 a with h1 | h1
  · have := sq_mono (a := 259) (b := a) (by omega) (by omega)
    rw [Int.mul_assoc] at h
    omega
  · omega

set_option maxRecDepth 100000 in
set_option maxHeartbeats 6400000 in
theorem classes_main (d : Int) (w : World) (h : ¬ (0 ≤ d ∨ d < -200000)) (h2 : ¬ 1 < d % 4) : Calls Try.prog 24 #[.int .i64 d] w (RetClasses w d) := by
  have HE : Hid (ClsF d = (0, 0)) := by unfold Hid ClsF; rw [if_neg h, if_neg h2]
  have CM := fun W => hide (mod_any d 4 W (by omega) (by omega) (by omega) (by omega))
  have hd1 : d < 0 := by omega
  have hd2 : -200000 ≤ d := by omega
  have q1 : decide (0 ≤ d) = false := by simp; omega
  have q2 : decide (d < -200000) = false := by simp; omega
  obtain ⟨r, hr⟩ : ∃ r, d % 4 = r := ⟨_, rfl⟩
  rw [hr] at CM h2
  have q3 : decide (1 < r) = false := by simpa using h2
  have B0 := hide (bel_obj w (.cells #[.int .i64 0, .int .i64 0] 26))
  have KF := field_code
  obtain ⟨i0, hi, hz0, hz1, hz2⟩ := info_parts finfo
  have HI := hide (And.intro hi (And.intro hz0 (And.intro hz1 hz2)))
  clear h h2 hr hi hz0 hz1 hz2
  go_enter Try.func24, Try.ntmps24
  go_wp2_with fail
  refine (CM _).out.mono ?_
  rintro e w1 ⟨rfl, rfl⟩
  go_wp2_with fail
  go_loopw [5, 6, 7, 8] (fun v x _ _ wr => ∃ (a : Int) (n : Nat), x = .int .i64 a ∧ 1 ≤ a ∧ a ≤ 259 ∧ Hid (a = n + 1) ∧ Hid (3 * (n : Int) * n ≤ -d) ∧ Hid (Forms wr (w.heap.size + 1) v (allF d n)) ∧ Hid (Below (w.heap.size + 1) (w.alloc (.cells #[.int .i64 0, .int .i64 0] 26)) wr)) (fun _ x _ _ _ => 300 - (intOf x).toNat)
  case atStart => exact ⟨1, 0, rfl, by omega, by omega, rfl, by unfold Hid; omega, Forms.nil0 _ _, Below.refl _ _⟩
  case round =>
    obtain ⟨a, n, rfl, ha1, ha2, HA, HN, HF, HB⟩ := hrel
    obtain ⟨wo, rfl⟩ : ∃ wo : World, wo = wr := ⟨_, rfl⟩
    have ha3 := abs_mul_le (x := 3 * a) (y := a) (p := 777) (q := 259) (by omega) (by omega)
    by_cases hle : 3 * a * a ≤ -d
    · have hle2 : decide (3 * a * a ≤ -d) = true := by simpa using hle
      have HLE := hide hle
      have R0 : Hid (Forms wo (w.heap.size + 1) u5 (allF d n ++ rowF d a 1)) := by unfold Hid; rw [rowF_one, List.append_nil]; exact HF.out
      clear hle
      go_wp2_with fail
      go_loopw [5, 7, 8] (fun v x _ wr => ∃ (b : Int) (j : Nat), x = .int .i64 b ∧ -a < b ∧ b ≤ a + 1 ∧ Hid (b = -a + (j + 1)) ∧ Hid (Forms wr (w.heap.size + 1) v (allF d n ++ rowF d a (j + 1))) ∧ Hid (Below (w.heap.size + 1) (w.alloc (.cells #[.int .i64 0, .int .i64 0] 26)) wr)) (fun _ x _ _ => (a + 1 - intOf x).toNat)
      case atStart => exact ⟨-a + 1, 0, rfl, by omega, by omega, by unfold Hid; omega, R0, HB⟩
      case round =>
        clear R0 HF HB
        obtain ⟨b, j, rfl, hb1, hb2, HJ, HF, HB⟩ := hrel
        by_cases hba : b ≤ a
        · have hb3 := abs_mul_le (x := b) (y := b) (p := 260) (q := 260) (by omega) (by omega)
          have hb4 := sq_nonneg b
          have hc0 : 0 ≤ (b * b - d) / (4 * a) := Int.ediv_nonneg (by omega) (by omega)
          have hc1 : (b * b - d) / (4 * a) ≤ b * b - d := Int.ediv_le_self _ (by omega)
          have hr0 := Int.emod_nonneg (b * b - d) (b := 4 * a) (by omega)
          have e1 : (b * b - d).tmod (4 * a) = (b * b - d) % (4 * a) := Int.tmod_eq_emod_of_nonneg (by omega)
          have e2 : (b * b - d).tdiv (4 * a) = (b * b - d) / (4 * a) := Int.tdiv_eq_ediv_of_nonneg (by omega)
          have hr1 := Int.emod_lt_of_pos (b * b - d) (b := 4 * a) (by omega)
          obtain ⟨c, hc⟩ : ∃ c, (b * b - d) / (4 * a) = c := ⟨_, rfl⟩
          obtain ⟨r, hr⟩ : ∃ r, (b * b - d) % (4 * a) = r := ⟨_, rfl⟩
          rw [hc] at hc0 hc1 e2
          rw [hr] at e1 hr0 hr1
          have HC := hide hc
          have HR := hide hr
          have HJ2 := HJ.out
          by_cases h0 : r = 0
          · subst h0
            have HX : Hid (Below (w.heap.size + 1) (w.alloc (.cells #[.int .i64 0, .int .i64 0] 26)) (wr.alloc (.cells #[.int .i64 a, .int .i64 b, .int .i64 c] 23))) := HB.out.alloc (by have := HB.out.size; simpa using this) _
            have HFX : Hid (Forms (wr.alloc (.cells #[.int .i64 a, .int .i64 b, .int .i64 c] 23)) (w.heap.size + 1) u5 (allF d n ++ rowF d a (j + 1))) := HF.out.below (bel_obj _ _)
            by_cases h1 : c < a
            · have HN2 : Hid (Forms (wr.alloc (.cells #[.int .i64 a, .int .i64 b, .int .i64 c] 23)) (w.heap.size + 1) u5 (allF d n ++ rowF d a (j + 1 + 1))) := by unfold Hid; rw [rowF_no (by omega) (okF_less hc (.inl h1))]; exact HFX.out
              have q5 : decide (c < a) = true := by simpa using h1
              clear HJ2 h1
              go_wp2_with fail
              exact ⟨⟨b + 1, j + 1, rfl, by omega, by omega, by have := HJ.out; unfold Hid; omega, HN2, HX⟩, by simp [intOf]; omega⟩
            · have q5 : decide (c < a) = false := by simpa using h1
              by_cases h2 : c = a ∧ b < 0
              · obtain ⟨h3a, h3⟩ := h2
                have HN2 : Hid (Forms (wr.alloc (.cells #[.int .i64 a, .int .i64 b, .int .i64 c] 23)) (w.heap.size + 1) u5 (allF d n ++ rowF d a (j + 1 + 1))) := by unfold Hid; rw [rowF_no (by omega) (okF_less hc (.inr ⟨h3a, h3⟩))]; exact HFX.out
                have q6 : decide (b < 0) = true := by simpa using h3
                have q7 : (c == a) = true := by simpa using h3a
                clear HJ2 h1 h3 h3a
                go_wp2_with fail
                exact ⟨⟨b + 1, j + 1, rfl, by omega, by omega, by have := HJ.out; unfold Hid; omega, HN2, HX⟩, by simp [intOf]; omega⟩
              · have hform := okF_form (d := d) (a := a) (b := b) (c := c) ha1 (by omega) hb1 hba hd1 hd2 hc hr (by omega) h2
                have CK := fun W => hide (check_any a b c W)
                unfold RetFault at CK
                obtain ⟨⟨x, y⟩, hxy⟩ : ∃ F, formF a b c = F := ⟨_, rfl⟩
                rw [hxy] at CK hform
                simp only [fv] at CK
                have q6 : (c == a) = false ∨ ((c == a) = true ∧ decide (b < 0) = false) := by
                  by_cases h3 : c = a
                  · exact .inr ⟨by simpa using h3, by simp; omega⟩
                  · exact .inl (by simpa using h3)
                have MC0 := hide (MC.made wr a b c)
                cases hok : okF d a b
                · rw [hok, if_neg (by simp)] at hform
                  simp only at hform
                  subst hform
                  have HRW : Hid (∀ W, Forms W (w.heap.size + 1) u5 (allF d n ++ rowF d a (j + 1)) → Forms W (w.heap.size + 1) u5 (allF d n ++ rowF d a (j + 1 + 1))) := by intro W hW; rw [rowF_no (by omega) hok]; exact hW
                  clear HJ2 h1 h2 hxy hok
                  rcases q6 with q6 | ⟨q6, q7⟩
                  all_goals
                    go_wp2_with fail
                    refine (CK _).out.mono ?_
                    rintro e w2 ⟨rfl, hb⟩
                    have HN2 := hide (HRW.out _ (HFX.out.below hb))
                    have HX2 := hide (HX.out.trans (hb.mono (by have := HX.out.size; simp at this ⊢; omega)))
                    clear hb
                    go_wp2_with fail
                    exact ⟨⟨b + 1, j + 1, rfl, by omega, by omega, by have := HJ.out; unfold Hid; omega, HN2, HX2⟩, by simp [intOf]; omega⟩
                · rw [hok, if_pos rfl] at hform
                  simp only at hform
                  subst hform
                  have HRW : Hid (allF d n ++ rowF d a (j + 1 + 1) = (allF d n ++ rowF d a (j + 1)) ++ [(a, b, c)]) := by unfold Hid; rw [rowF_yes (by omega) hok, List.append_assoc]; unfold frm; rw [hc]
                  have HLN : Hid ((allF d n ++ rowF d a (j + 1)).length ≤ 1000000) := by
                    unfold Hid
                    rw [List.length_append]
                    have h7 := allF_len d n
                    have h8 := rowF_len d a (j + 1)
                    have h9 : n ≤ 260 := by have := HA.out; omega
                    have h10 : n * (2 * n + 1) ≤ 260 * 521 := Nat.mul_le_mul h9 (by omega)
                    omega
                  clear HJ2 h1 h2 hxy hok
                  rcases q6 with q6 | ⟨q6, q7⟩
                  all_goals
                    go_wp2_with fail
                    refine (CK _).out.mono ?_
                    rintro e w2 ⟨rfl, hb⟩
                    have HF2 := hide (HFX.out.below hb)
                    have HX2 := hide (HX.out.trans (hb.mono (by have := HX.out.size; simp at this ⊢; omega)))
                    obtain ⟨m0, m1, m2⟩ := (MC0.out.below hb).cells
                    have hlt2 : wr.heap.size < w2.heap.size := (MC0.out.below hb).lt
                    clear hb
                    go_wp2_with (at_builtin; refine wpList_append_own _ rfl _ _ 37 rfl (w.heap.size + 1) 23 i0 (.agg #[.int .i64 0, .int .i64 0, .int .i64 0]) 3 24 Try.underlying37 HI.out.1 HI.out.2.1 HI.out.2.2.1 HI.out.2.2.2 rfl (by decide) u5 _ _ rfl (HF2.out.below (bel_obj w2 (.cells #[.int .i64 a, .int .i64 b, .int .i64 c] 23))) ⟨w2.heap.size, 0, none⟩ 1 1 [.int .i64 a, .int .i64 b, .int .i64 c] rfl rfl (three_new _ _ _ _ _) ?c2 ?c3 ?c4 ?c5 ?_)
                    case c2 => intro u hu; simp at hu; rcases hu with rfl | rfl | rfl <;> rfl
                    case c3 => have := HLN.out; simp only [maxLen]; omega
                    case c4 => have := HLN.out; omega
                    case c5 => have := HX2.out.size; simp at this ⊢; omega
                    intro v' w3 hown hg _
                    clear e1 e2 hc hr KF
                    have HF3 : Hid (Forms w3 (w.heap.size + 1) v' (allF d n ++ rowF d a (j + 1 + 1))) := by
                      unfold Hid Forms
                      rw [HRW.out, List.length_append, List.length_append, fcs_append, fcs_one]
                      exact hown
                    have HX3 : Hid (Below (w.heap.size + 1) (w.alloc (.cells #[.int .i64 0, .int .i64 0] 26)) w3) := (HX2.out.alloc (by have := HX2.out.size; simpa using this) _).grown hg (by have := HX2.out.size; simp at this ⊢; omega) (Forms.own HF2.out)
                    clear hown hg
                    go_wp2_with fail
                    exact ⟨⟨b + 1, j + 1, rfl, by omega, by omega, by have := HJ.out; unfold Hid; omega, HF3, HX3⟩, by simp [intOf]; omega⟩
          · have HN2 : Hid (Forms wr (w.heap.size + 1) u5 (allF d n ++ rowF d a (j + 1 + 1))) := by unfold Hid; rw [rowF_no (by omega) (okF_rest hr h0)]; exact HF.out
            have q5 : (r != 0) = true := by simpa using h0
            clear HJ2 h0
            go_wp2_with fail
            exact ⟨⟨b + 1, j + 1, rfl, by omega, by omega, by have := HJ.out; unfold Hid; omega, HN2, HB⟩, by simp [intOf]; omega⟩
        · obtain rfl : b = a + 1 := by omega
          have hae := a_bound (a := a) (d := d) (by omega) HLE.out hd2
          have HA2 : Hid (a + 1 = ((n + 1 : Nat) : Int) + 1) := by have := HA.out; unfold Hid; omega
          have HN2 : Hid (3 * ((n + 1 : Nat) : Int) * ((n + 1 : Nat) : Int) ≤ -d) := by
            have := HA.out
            have h1 := HLE.out
            unfold Hid
            rw [show ((n + 1 : Nat) : Int) = a from by omega]
            exact h1
          have HF2 : Hid (Forms wr (w.heap.size + 1) u5 (allF d (n + 1))) := by
            have h1 := HF.out
            have h2 := HJ.out
            have h3 := HA.out
            unfold Hid
            rw [allF_next h3, show 2 * (n + 1) + 1 = j + 1 from by omega]
            exact h1
          clear HF hba hb1 hb2 ha3
          go_wp2_with fail
          exact ⟨⟨a + 1, n + 1, rfl, by omega, by omega, HA2, HN2, HF2, HB⟩, by simp [intOf]; omega⟩
    · have q5 : decide (3 * a * a ≤ -d) = false := by simpa using hle
      have HL : Hid (-d < 3 * ((n : Int) + 1) * ((n : Int) + 1) ∧ n ≤ 258) := by
        have := HA.out
        unfold Hid
        rw [show (n : Int) + 1 = a from by omega]
        omega
      obtain ⟨d0, d1, f0, f1⟩ := ((FC.fresh w).below (by simpa using HB.out)).cells
      obtain ⟨p0, p1⟩ := ((FC.fresh w).below (w' := wo) (by simpa using HB.out)).put 0 0
      have HB2 := hide (below_fault (u := .int .i64 0) (v := .int .i64 0) (below_new (by simpa using HB.out)) (Nat.le_refl w.heap.size))
      have HF2 : Hid (Forms ((wo.setCell ⟨w.heap.size, 0, none⟩ (.int .i64 0)).setCell ⟨w.heap.size, 1, none⟩ (.int .i64 0)) (w.heap.size + 1) u5 (allF d n)) := (HF.out.set _ _).set _ _
      clear hle
      go_wp2_with fail
      exact bodyPost_ret (v := .tuple #[u5, fv (0, 0)]) (by simp [results, Try.results24, go_sem, fv, p0, p1]) rfl ⟨u5, by rw [HE.out], fun h => by rw [HE.out] at h; simp at h, fun _ => ⟨n, HN.out, HL.out.1, HL.out.2, HF2.out⟩, HB2.out⟩
theorem classes_any (d : Int) (w : World) : Calls Try.prog 24 #[.int .i64 d] w (RetClasses w d) := by
  by_cases h : 0 ≤ d ∨ d < -200000
  · exact classes_range d w h
  · by_cases h2 : 1 < d % 4
    · exact classes_kind d w h h2
    · exact classes_main d w h h2
end Go.Proofs.Ytkfjjljdhfjpbaa
