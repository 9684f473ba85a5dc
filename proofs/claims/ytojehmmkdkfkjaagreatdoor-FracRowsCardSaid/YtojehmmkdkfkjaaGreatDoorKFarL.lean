/- The walk of the law FracRows. (gen_farl.py prints this text.) -/
import Derived.Test.YtojehmmkdkfkjaaGreatDoorKFarT
namespace Go.Proofs.YtojehmmkdkfkjaaGreatDoor
open Go.RowKit
open FA

set_option maxRecDepth 100000 in
set_option maxHeartbeats 6400000 in
theorem frows_any (u v n : Int) (w : World) (hT : TabW w) (hP : PowW w) : Calls Tryz.prog 3 #[.agg #[.int .i64 u, .int .i64 v], .int .i64 n] w fun e w' => e = .returned (.bool true) ∧ Below w.heap.size w w' := by
  have CN := fun W => hide (next_any u v n W)
  have CF := fun W => hide (fracFault_any u v W)
  have CE := fun c i W => hide (refF_any c i W)
  obtain ⟨k0, m0, hkm⟩ : ∃ k m, fracF u v = (k, m) := ⟨_, _, rfl⟩
  unfold RetFault at CF
  rw [hkm] at CF
  simp only [fv] at CF
  obtain ⟨k1, m1, hkm1⟩ : ∃ k m, wA u v n = (k, m) := ⟨_, _, rfl⟩
  have HA := hide (show (k1, m1) = if k0 = 0 ∧ (n < v ∨ 1000000 < n) then (3, 1) else (k0, m0) from by
    rw [← hkm1]
    unfold wA
    rw [hkm])
  have HUV := hide (show k0 = 0 → 1 ≤ v from fun h => by
    have := fracF_ok (a := u) (b := v) (by rw [hkm]; exact h)
    exact this.2.2.2.1)
  have HT := hide hT
  have HP := hide hP
  have HQ0 := hide (QC.made w u v)
  have HB0 := hide (bel_new w (.cells #[.int .i64 u, .int .i64 v] 23))
  clear hkm hT hP
  go_enter Tryz.func3, Tryz.ntmps3
  go_upto_region 1 with (fail)
  obtain ⟨W0, hW⟩ : ∃ Z, w.alloc (.cells #[.int .i64 u, .int .i64 v] 23) = Z := ⟨_, rfl⟩
  rw [hW] at HQ0 HB0
  (try rw [hW])
  clear hW
  obtain ⟨f0, f1, _, _⟩ := HQ0.out.cells
  go_wp2_with fail
  refine (CN _).out.mono ?_
  rintro e w1 ⟨P, Q, k, m, rfl, hnk, hz, hgood, hb⟩
  have HNK := hide (show (k, m) = if k1 = 0 ∧ (1000000 < u ∨ u < -1000000) then (9, 0) else (k1, m1) from by
    rw [hnk]
    unfold nextF
    rw [hkm1])
  have HFACT := hide (show k = 0 → (-1000000 ≤ u ∧ u ≤ 1000000) ∧ 1 ≤ v ∧ v ≤ n ∧ n ≤ 1000000 from fun h => by
    have h1 := HNK.out
    have h2 := HA.out
    by_cases c : k1 = 0 ∧ (1000000 < u ∨ u < -1000000)
    · rw [if_pos c] at h1
      injection h1 with e
      omega
    · rw [if_neg c] at h1
      injection h1 with e _
      by_cases c2 : k0 = 0 ∧ (n < v ∨ 1000000 < n)
      · rw [if_pos c2] at h2
        injection h2 with e2
        omega
      · rw [if_neg c2] at h2
        injection h2 with e2 _
        have hv := HUV.out (by omega)
        omega)
  have HZ := hide hz
  have HG := hide hgood
  have HQ1 := hide (HQ0.out.below hb)
  have HB1 := hide (HB0.out.trans (hb.mono HB0.out.size))
  clear hb HQ0 HB0 CN f0 f1 hkm1 hnk hz hgood
  go_upto_region 2 with (fail)
  have hq0 := (HQ1.out.below (bel_new w1 (.cells #[.int .i64 P, .int .i64 Q] 23))).below (bel_new _ (.cells #[.int .i64 k, .int .i64 m] 25))
  have HLS := hide (fun W2 b2 => ls_start HQ1.out HB1.out P Q k m k0 m0 W2 b2)
  obtain ⟨W1, hW⟩ : ∃ Z, ((w1.alloc (.cells #[.int .i64 P, .int .i64 Q] 23)).alloc (.cells #[.int .i64 k, .int .i64 m] 25)) = Z := ⟨_, rfl⟩
  rw [hW] at hq0 HLS
  (try rw [hW])
  obtain ⟨p5, hp5⟩ : ∃ p, w1.heap.size = p := ⟨_, rfl⟩
  rw [hp5] at HLS
  (try rw [hp5])
  have HQ := hide hq0
  clear hW hp5 hq0 HQ1 HB1
  obtain ⟨f0, f1, _, _⟩ := HQ.out.cells
  go_wp2_with fail
  refine (CF _).out.mono ?_
  rintro e w2 ⟨rfl, hb⟩
  have HL := hide (HLS.out w2 hb)
  clear hb HLS HQ CF f0 f1
  go_upto_region 3 with (fail)
  obtain ⟨W2, hW⟩ : ∃ Z, w2.alloc (.cells #[.int .i64 k0, .int .i64 m0] 25) = Z := ⟨_, rfl⟩
  rw [hW] at HL
  (try rw [hW])
  obtain ⟨p7, hp⟩ : ∃ p, w2.heap.size = p := ⟨_, rfl⟩
  rw [hp] at HL
  (try rw [hp])
  clear hW hp
  obtain ⟨f0, f1, _, _⟩ := HL.out.f.cells
  obtain ⟨v0, v1, v2, v3⟩ := HL.out.v.cells
  go_upto_region 3 with (fail)
  go_cut [32] (fun b wd => b = .bool (decide (k0 = 0 ∧ (n < v ∨ 1000000 < n))) ∧ W2 = wd)
  case first => as_aux_lemma =>
    clear HA HNK HZ HG HT HP CE HL
    by_cases h0 : k0 = 0
    · subst h0
      by_cases h1 : n < v
      · have c1 : decide (n < v) = true := by simpa using h1
        have e : decide ((0 : Int) = 0 ∧ (n < v ∨ 1000000 < n)) = true := by simp [h1]
        go_wp2_with fail
        go_meet
        exact ⟨by first | rw [e] | simp [e], rfl⟩
      · have c1 : decide (n < v) = false := by simpa using h1
        by_cases h2 : 1000000 < n
        · have c2 : decide (1000000 < n) = true := by simpa using h2
          have e : decide ((0 : Int) = 0 ∧ (n < v ∨ 1000000 < n)) = true := by simp [h2]
          go_wp2_with fail
          go_meet
          exact ⟨by first | rw [e] | simp [e], rfl⟩
        · have c2 : decide (1000000 < n) = false := by simpa using h2
          have e : decide ((0 : Int) = 0 ∧ (n < v ∨ 1000000 < n)) = false := by simp [h1, h2]
          go_wp2_with fail
          go_meet
          exact ⟨by first | rw [e] | simp [e], rfl⟩
    · have c1 : (k0 == 0) = false := by simpa using h0
      have c2 : decide (k0 = 0) = false := by simpa using h0
      have e : decide (k0 = 0 ∧ (n < v ∨ 1000000 < n)) = false := by simp [h0]
      clear h0
      go_wp2_with fail
      go_meet
      exact ⟨by first | rw [e] | simp [e], rfl⟩
  case rest =>
    obtain ⟨rfl, rfl⟩ := hcut
    go_upto_if 32 with (fail)
    go_cut [32] (fun _ wd => Hid (LS w wd p5 (p5 + 1) p7 u v P Q k m k1 m1))
    case first => as_aux_lemma =>
      clear HNK HZ HG HT HP
      by_cases h0 : k0 = 0 ∧ (n < v ∨ 1000000 < n)
      · have hA := HA.out
        rw [if_pos h0] at hA
        injection hA with e1 e2
        subst e1
        subst e2
        rw [decide_eq_true h0]
        clear h0 HA
        go_wp2_with fail
        refine (CE _ _ _).out.mono ?_
        rintro e w3 ⟨rfl, hb⟩
        have HL3 := hide ((HL.out.below hb).setv 3 1)
        obtain ⟨v0, v1, v2, v3⟩ := (HL.out.below hb).v.cells
        clear hb HL
        go_wp2_with fail
        go_meet
        exact HL3
      · have hA := HA.out
        rw [if_neg h0] at hA
        injection hA with e1 e2
        subst e1
        subst e2
        rw [decide_eq_false h0]
        clear h0 HA
        go_wp2_with fail
        go_meet
        exact HL
    case rest =>
      obtain ⟨W3, rfl⟩ : ∃ Z, Z = wc := ⟨_, rfl⟩
      have HL := hcut
      clear hcut HA f0 f1 v0 v1 v2 v3
      obtain ⟨f0, f1, _, _⟩ := HL.out.f.cells
      obtain ⟨v0, v1, v2, v3⟩ := HL.out.v.cells
      go_upto_region 5 with (fail)
      go_cut [46] (fun b wd => b = .bool (decide (k1 = 0 ∧ (1000000 < u ∨ u < -1000000))) ∧ W3 = wd)
      case first => as_aux_lemma =>
        clear HNK HZ HG HT HP CE HL
        by_cases h0 : k1 = 0
        · subst h0
          by_cases h1 : 1000000 < u
          · have c1 : decide (1000000 < u) = true := by simpa using h1
            have e : decide ((0 : Int) = 0 ∧ (1000000 < u ∨ u < -1000000)) = true := by simp [h1]
            go_wp2_with fail
            go_meet
            exact ⟨by first | rw [e] | simp [e], rfl⟩
          · have c1 : decide (1000000 < u) = false := by simpa using h1
            by_cases h2 : u < -1000000
            · have c2 : decide (u < -1000000) = true := by simpa using h2
              have e : decide ((0 : Int) = 0 ∧ (1000000 < u ∨ u < -1000000)) = true := by simp [h2]
              go_wp2_with fail
              go_meet
              exact ⟨by first | rw [e] | simp [e], rfl⟩
            · have c2 : decide (u < -1000000) = false := by simpa using h2
              have e : decide ((0 : Int) = 0 ∧ (1000000 < u ∨ u < -1000000)) = false := by simp [h1, h2]
              go_wp2_with fail
              go_meet
              exact ⟨by first | rw [e] | simp [e], rfl⟩
        · have c1 : (k1 == 0) = false := by simpa using h0
          have c2 : decide (k1 = 0) = false := by simpa using h0
          have e : decide (k1 = 0 ∧ (1000000 < u ∨ u < -1000000)) = false := by simp [h0]
          clear h0
          go_wp2_with fail
          go_meet
          exact ⟨by first | rw [e] | simp [e], rfl⟩
      case rest =>
        obtain ⟨rfl, rfl⟩ := hcut
        go_upto_if 46 with (fail)
        go_cut [46] (fun _ wd => Hid (LS w wd p5 (p5 + 1) p7 u v P Q k m k m))
        case first => as_aux_lemma =>
          clear HZ HG HT HP
          by_cases h0 : k1 = 0 ∧ (1000000 < u ∨ u < -1000000)
          · have hA := HNK.out
            rw [if_pos h0] at hA
            injection hA with e1 e2
            subst e1
            subst e2
            rw [decide_eq_true h0]
            clear h0 HNK
            go_wp2_with fail
            refine (CE _ _ _).out.mono ?_
            rintro e w3 ⟨rfl, hb⟩
            have HL3 := hide ((HL.out.below hb).setv 9 0)
            obtain ⟨v0, v1, v2, v3⟩ := (HL.out.below hb).v.cells
            clear hb HL
            go_wp2_with fail
            go_meet
            exact HL3
          · have hA := HNK.out
            rw [if_neg h0] at hA
            injection hA with e1 e2
            subst e1
            subst e2
            rw [decide_eq_false h0]
            clear h0 HNK
            go_wp2_with fail
            go_meet
            exact HL
        case rest =>
          obtain ⟨W4, rfl⟩ : ∃ Z, Z = wc := ⟨_, rfl⟩
          have HL := hcut
          clear hcut HNK f0 f1 v0 v1 v2 v3
          have CB := hide (fracBegun_any W4 (HT.out.below HL.out.b) (HP.out.below HL.out.b))
          go_upto_region 7 with (fail)
          go_cut [64] (fun b wd => b = .bool false ∧ Hid (LS w wd p5 (p5 + 1) p7 u v P Q k m k m))
          case first => as_aux_lemma =>
            by_cases h0 : k = 0
            · subst h0
              clear HZ HG HT HP CE
              go_wp2_with fail
              refine CB.out.mono ?_
              rintro e w5 ⟨rfl, hb⟩
              have HL5 := hide (HL.out.below hb)
              obtain ⟨e0, e1, _, _⟩ := HL5.out.e.cells
              obtain ⟨v0, v1, _, _⟩ := HL5.out.v.cells
              clear hb CB HL
              go_wp2_with fail
              go_meet
              exact ⟨by simp, HL5⟩
            · have c1 : (k == 0) = false := by simpa using h0
              have c2 : decide (k = 0) = false := by simpa using h0
              have c3 : (k != 0) = true := by simpa using h0
              obtain ⟨rfl, rfl⟩ := HZ.out h0
              clear HZ HG HT HP CE h0
              go_wp2_with fail
              refine CB.out.mono ?_
              rintro e w5 ⟨rfl, hb⟩
              have HL5 := hide (HL.out.below hb)
              obtain ⟨e0, e1, _, _⟩ := HL5.out.e.cells
              obtain ⟨v0, v1, _, _⟩ := HL5.out.v.cells
              obtain ⟨y0, y1, _, _⟩ := HL5.out.y.cells
              clear hb CB HL
              go_wp2_with fail
              go_meet
              exact ⟨by simp, HL5⟩
          case rest =>
            obtain ⟨rfl, HL⟩ := hcut
            obtain ⟨W5, rfl⟩ : ∃ Z, Z = wc := ⟨_, rfl⟩
            clear CB HZ HT HP
            obtain ⟨v0, v1, v2, v3⟩ := HL.out.v.cells
            go_upto_if 67 with (fail)
            go_cut [67] (fun _ wd => Hid (LS w wd p5 (p5 + 1) p7 u v P Q k m k m))
            case first => as_aux_lemma =>
              by_cases h0 : k = 0
              · obtain ⟨hdet, hlo, hhi, hfar⟩ := HG.out h0
                obtain ⟨⟨hu1, hu2⟩, hv1, hvn, hn2⟩ := HFACT.out h0
                subst h0
                obtain ⟨N, hN⟩ : ∃ N : Nat, n = (N : Int) := ⟨n.toNat, by omega⟩
                have hud : (u * Q).natAbs ≤ 1000000000000 := by
                  rw [Int.natAbs_mul]
                  exact Nat.le_trans (Nat.mul_le_mul (show u.natAbs ≤ 1000000 by omega) (show Q.natAbs ≤ 1000000 by omega)) (by omega)
                have hPb : -1000000000001 ≤ P ∧ P ≤ 1000000000001 := by
                  have h1 : (P * v).natAbs ≤ 1000000000001 := by omega
                  rw [Int.natAbs_mul] at h1
                  have h2 : P.natAbs * 1 ≤ P.natAbs * v.natAbs := Nat.mul_le_mul_left _ (by omega)
                  omega
                have c1 : decide (Q < 1) = false := by simp; omega
                have c2 : decide (n < Q) = false := by simp; omega
                have c3 : decide (2000000000000 < P) = false := by simp; omega
                have c4 : decide (P < -2000000000000) = false := by simp; omega
                obtain ⟨M1, hM1⟩ : ∃ M, P * v = M := ⟨_, rfl⟩
                obtain ⟨M2, hM2⟩ : ∃ M, u * Q = M := ⟨_, rfl⟩
                obtain ⟨S, hS⟩ : ∃ M, Q + v = M := ⟨_, rfl⟩
                rw [hM1, hM2] at hdet
                rw [hM2] at hud
                have J1 : wrap64 (P * v) = M1 := by rw [hM1]; unfold wrap64; omega
                have J2 : wrap64 (u * Q) = M2 := by rw [hM2]; unfold wrap64; omega
                have J3 : wrap64 (M1 - M2) = 1 := by unfold wrap64; omega
                have J4 : wrap64 (Q + v) = S := by rw [hS]; unfold wrap64; omega
                have J5 : M1 - M2 = 1 := by omega
                have c5 : decide (S ≤ n) = false := by simp; omega
                have HD := hide (show P * v - u * Q = 1 ∧ 1 ≤ Q ∧ Q ≤ n ∧ n < Q + v ∧ 1 ≤ v from ⟨by omega, by omega, by omega, by omega, by omega⟩)
                obtain ⟨y0, y1, _, _⟩ := HL.out.y.cells
                obtain ⟨f0, f1, _, _⟩ := HL.out.f.cells
                have KS := fun W (b : Below W5.heap.size W5 W) => hide (show ((W.cell? ⟨w.heap.size, 0, none⟩ = some (.int .i64 u) ∧ W.cell? ⟨w.heap.size, 1, none⟩ = some (.int .i64 v)) ∧ (W.cell? ⟨p5, 0, none⟩ = some (.int .i64 P) ∧ W.cell? ⟨p5, 1, none⟩ = some (.int .i64 Q))) ∧ Hid (Below W5.heap.size W5 W) from ⟨⟨⟨(HL.out.below b).f.cells.1, (HL.out.below b).f.cells.2.1⟩, (HL.out.below b).y.cells.1, (HL.out.below b).y.cells.2.1⟩, hide b⟩)
                by_cases h300 : n ≤ 300
                · have g1 : decide (n ≤ 300) = true := by simpa using h300
                  have CX := fun W => hide (nextOf_any u v N W (by omega) hv1 (by omega) (by omega) (by omega))
                  rw [← hN] at CX
                  have HVV := hide (And.intro hv1 (And.intro hvn hn2))
                  clear HG HFACT CE hdet hlo hhi hfar hu1 hu2 hv1 hvn hn2 hN hud hPb hM1 hM2 hS h300
                  go_upto_region 12 with (fail)
                  clear v0 v1 v2 v3
                  go_region_held3 (fun W => ((W.cell? ⟨w.heap.size, 0, none⟩ = some (.int .i64 u) ∧ W.cell? ⟨w.heap.size, 1, none⟩ = some (.int .i64 v)) ∧ (W.cell? ⟨p5, 0, none⟩ = some (.int .i64 P) ∧ W.cell? ⟨p5, 1, none⟩ = some (.int .i64 Q))) ∧ Hid (Below W5.heap.size W5 W)) (first | exact (KS _ (below_drewN (Below.refl _ _) 1)).out | (have hx := ‹(_ ∧ _) ∧ Hid (Below W5.heap.size W5 _)›; exact (KS _ (hx.2.out.trans (hb.mono hx.2.out.size))).out)) (first | (go_at_call 8; refine (CX _).out.mono ?_; rintro e w6 ⟨P', Q', rfl, hbest, hb⟩; obtain ⟨e1, e2⟩ := hbest.next HD.out.2.2.2.2 HD.out.1 HD.out.2.1 HD.out.2.2.1 HD.out.2.2.2.1; rw [e1, e2]))
                  all_goals
                    rename_i hS
                    have HL6 := hide (HL.out.below hS.2.out)
                    clear hS
                    go_wp2_with fail
                    go_meet
                    exact HL6
                · have g1 : decide (n ≤ 300) = false := by simpa using h300
                  clear HG HFACT CE hdet hlo hhi hfar hu1 hu2 hv1 hvn hn2 hN hud hPb hM1 hM2 hS h300
                  go_upto_region 12 with (fail)
                  clear v0 v1 v2 v3
                  have HL6 := hide (HL.out.below (below_drewN (Below.refl _ _) 1))
                  go_region
                  go_wp2_with fail
                  go_meet
                  exact HL6
              · have c1 : (k == 0) = false := by simpa using h0
                have c2 : decide (k = 0) = false := by simpa using h0
                clear HG HFACT CE h0
                (try rw [c1])
                (try rw [c2])
                go_wp2_with fail
                go_meet
                exact HL
            case rest =>
              obtain ⟨W6, rfl⟩ : ∃ Z, Z = wc := ⟨_, rfl⟩
              have HL := hcut
              have hk := ‹∀ (a : Act) (w : World), Code.wp _ _ _ a w → _›
              refine hk _ _ ?_
              exact tail_any u v n w W6 p5 p7 P Q k m HL.out _ _ _ _ _ _ _ _ _ _ _ _ _ _ _ _ _ _ _ _ _ _ _ _ _ _ _ _ _ _ _ _ _ _ _ _ _ _ _ _ _ _ _ _ _ _ _ _ _ _ _ _ _ _ _ _ _ _ _ _ _ _ _ _ _ _ _ _ _ _ _ _ _ _ _ _ _ _ _ _ _ _ _ _ _ _ _ _ _ _ _ _ _ _ _ _ _ _ _ _ _ _ _ _ _ _ _ _ _ _ _ _ _ _ _ _ _ _ _ _ _ _ _ _ _ _ _ _ _ _ _ _ _ _ _ _ _ _ _ _ _ _ _ _ _ _ _ _ _ _ _ _ _ _ _ _ _ _ _ _ _ _ _ _ _ _ _ _ _ _ _ _ _ _ _ _ _ _ _ _ _ _ _ _ _ _ _ _ _ _ _ _ _ _ _ _ _ _ _ _ _ _ _ _ _ _ _ _ _ _ _ _ _ _ _ _ _ _ _ _ _ _ _ _ _ _ _ _ _ _ _ _ _ _ _ _ _ _ _
end Go.Proofs.YtojehmmkdkfkjaaGreatDoor
