/- The walk of the answers' Composed, whole. -/
import Derived.Test.YtlchmaiflcnaoaaCdW
namespace Go.Proofs.Ytlchmaiflcnaoaa
open Go.RowKit

theorem b_step (B0 a1 j : Int) : B0 + 2 * a1 * (j + 1) = B0 + 2 * a1 * j + 2 * a1 := by grind

set_option maxRecDepth 100000 in
set_option maxHeartbeats 6400000 in
theorem composed_any (a1 b1 c1 a2 b2 c2 D : Int) (w : World) (r1 : RedF a1 b1 c1) (r2 : RedF a2 b2 c2) (hD1 : D = b1 * b1 - 4 * a1 * c1) (hD2 : D = b2 * b2 - 4 * a2 * c2) (hlow : -20000 ≤ D) (hn : D < 0) (g2 : Int.gcd a2 (Int.gcd b2 c2) = 1) :
    Calls Try.prog 20 #[.agg #[.int .i64 a1, .int .i64 b1, .int .i64 c1], .agg #[.int .i64 a2, .int .i64 b2, .int .i64 c2]] w (RetCo w D a1 b1 a2 b2) := by
  have s1 := small_form r1 hD1 hlow
  have s2 := small_form r2 hD2 hlow
  obtain ⟨X, Y, hX, hY, hXY, hgXY, hgV⟩ := good_pair s1.1 s1.2.1 (ibez3 g2)
  have hgV' : Int.gcd (tA a2 b2 c2 X Y) a1 = 1 := hgV
  obtain ⟨T, hT⟩ : ∃ T, X + Y = T := ⟨_, rfl⟩
  have hT1 : T ≤ 41 := by omega
  have hT0 : 0 ≤ T := by omega
  have HG := hide (show 0 ≤ X ∧ 0 ≤ Y ∧ X + Y = T ∧ Int.gcd X Y = 1 ∧ Int.gcd (tA a2 b2 c2 X Y) a1 = 1 from ⟨hX, hY, hT, hgXY, hgV'⟩)
  have HA := hide (show 1 ≤ a1 ∧ a1 ≤ 81 from ⟨s1.1, s1.2.1⟩)
  have HVA := hide (fun (x y : Int) (hx : x.natAbs ≤ 50) (hy : y.natAbs ≤ 50) W => value_any a2 b2 c2 x y W (small_all (a := a2) (b := b2) (c := c2) (x := x) (r := 0) (y := y) (s := 0) (by omega) (by omega) (by omega) hx (by omega) hy (by omega)).2.1)
  have HTU := hide (fun (x r y s : Int) (hx : x.natAbs ≤ 50) (hr : r.natAbs ≤ 50) (hy : y.natAbs ≤ 50) (hs : s.natAbs ≤ 50) W => turned_any a2 b2 c2 x r y s W (small_all (a := a2) (b := b2) (c := c2) (x := x) (r := 0) (y := y) (s := 0) (by omega) (by omega) (by omega) hx (by omega) hy (by omega)).2.1 (small_all (a := a2) (b := b2) (c := c2) (x := r) (r := 0) (y := s) (s := 0) (by omega) (by omega) (by omega) hr (by omega) hs (by omega)).2.1 (small_all (a := a2) (b := b2) (c := c2) (by omega) (by omega) (by omega) hx hr hy hs).1)
  have HTB := hide (fun (x y : Int) (hx : 0 ≤ x) (hy : 0 ≤ y) (hxy : x + y ≤ 41) (hg : Int.gcd x y = 1) => tA_bounds r2 s2.2.2.2.2.2 hx hy hxy hg)
  have HFO := hide (fun (x y r s : Int) (hx : 0 ≤ x) (hy : 0 ≤ y) (hxy : x + y ≤ 41) (hg : Int.gcd x y = 1) (hv : Int.gcd (tA a2 b2 c2 x y) a1 = 1) (hdet : x * s - y * r = 1) (hr : r.natAbs ≤ 50) (hs : s.natAbs ≤ 50) => found_of (b1 := b1) (c1 := c1) r2 hD2 hlow hx hy hxy hg hv hdet hr hs)
  have HFE := hide (fun (A B C b : Int) (h : Found D a1 b1 c1 a2 b2 c2 A B C) (h1 : (b - b1) % (2 * a1) = 0) (h2 : (b - B) % (2 * A) = 0) (hb1 : -2000000000 ≤ b) (hb2 : b ≤ 2000000000) => found_end h hn s1.1 hD1 h1 h2 hb1 hb2)
  have HFB := hide (fun (A B C : Int) (h : Found D a1 b1 c1 a2 b2 c2 A B C) => found_b h hD1)
  have CD := fun W => hide (rdisc_any a1 b1 c1 W (by omega) (by omega) (by omega))
  rw [← hD1] at CD
  have CL := fun W => hide (left_r b1 (2 * a1) W (by omega) (by omega) (by omega) (by omega))
  have n2 : wrap64 (2 * a1) = 2 * a1 := by unfold wrap64; omega
  have HN0 := hide (And.intro hn hlow)
  have H0 := hide (CoSt.start w a1 b1 c1 a2 b2 c2)
  clear r1 r2 hD1 hD2 hlow hn g2 s1 s2 hX hY hXY hgXY hgV hgV' hT
  go_enter Try.func20, Try.ntmps20
  go_wp2_with fail
  go_loopg [5] T.toNat (fun N k wr => ∃ K : Int, k = .int .i64 K ∧ 0 ≤ K ∧ K ≤ T ∧ N = (T - K).toNat ∧ Hid (CoSt w wr a1 b1 c1 a2 b2 c2))
  case atStart => exact ⟨0, rfl, by omega, by omega, by simp, H0⟩
  case round =>
    clear H0
    obtain ⟨K, rfl, hK0, hK1, rfl, HS⟩ := hrel
    obtain ⟨wo, rfl⟩ : ∃ wo : World, wo = wr := ⟨_, rfl⟩
    have nK1 : wrap64 (K + 1) = K + 1 := by unfold wrap64; omega
    have nK2 : wrap64 (-K) = -K := by unfold wrap64; omega
    go_wp2_with fail
    go_loopg [6] (K + 1).toNat (fun N x wr => ∃ x0 : Int, x = .int .i64 x0 ∧ 0 ≤ x0 ∧ x0 ≤ K + 1 ∧ Hid (K = T → x0 ≤ X) ∧ N = (K + 1 - x0).toNat ∧ Hid (CoSt w wr a1 b1 c1 a2 b2 c2))
    case atStart => exact ⟨0, rfl, by omega, by omega, hide (fun _ => HG.out.1), by simp, HS⟩
    case round =>
      clear HS
      obtain ⟨x, rfl, hx0, hx1, HX, rfl, HS⟩ := hrel
      obtain ⟨wp, rfl⟩ : ∃ wp : World, wp = wr := ⟨_, rfl⟩
      by_cases hx : x ≤ K
      · obtain ⟨y, hy⟩ : ∃ y, K - x = y := ⟨_, rfl⟩
        have hy0 : 0 ≤ y := by omega
        have hxy : x + y ≤ 41 := by omega
        have nY : wrap64 (K - x) = y := by rw [hy]; unfold wrap64; omega
        have nX : wrap64 (x + 1) = x + 1 := by unfold wrap64; omega
        have CG := fun W => hide (refGcd_any x y W (by omega) (by omega) (by omega) (by omega))
        by_cases hg : Int.gcd x y = 1
        · obtain ⟨v1, v2⟩ := HTB.out x y hx0 hy0 hxy hg
          have CV := fun W => hide (HVA.out x y (by omega) (by omega) W)
          have HA1 := HA.out.1
          have HA2 := HA.out.2
          have CG2 := fun W => hide (refGcd_any (tA a2 b2 c2 x y) a1 W (by omega) (by omega) (by omega) (by omega))
          rw [hg] at CG
          by_cases hv : Int.gcd (tA a2 b2 c2 x y) a1 = 1
          · rw [hv] at CG2
            obtain ⟨r0, s0, hdet, hr1, hr2, hs1, hs2⟩ := turn_pair hx0 hy0 hg
            have HQ := hide (show (0 ≤ x ∧ 0 ≤ y ∧ x + y ≤ 41 ∧ Int.gcd x y = 1 ∧ Int.gcd (tA a2 b2 c2 x y) a1 = 1) ∧ x * s0 - y * r0 = 1 ∧ -K ≤ s0 ∧ s0 ≤ K + 1 from ⟨⟨hx0, hy0, hxy, hg, hv⟩, hdet, by omega, by omega⟩)
            have hr3 : -K ≤ r0 ∧ r0 ≤ K + 1 := by omega
            obtain ⟨V, hV⟩ : ∃ V, tA a2 b2 c2 x y = V := ⟨_, rfl⟩
            rw [hV] at CV CG2
            clear hV v1 v2 hv hg hdet hr1 hr2 hs1 hs2 HA1 HA2 HX
            go_upto_region 7 with (fail)
            refine wp_region_P (fun W => ((W.cell? ⟨w.heap.size, 0, none⟩ = some (.int .i64 a1) ∧ W.cell? ⟨w.heap.size, 1, none⟩ = some (.int .i64 b1) ∧ W.cell? ⟨w.heap.size, 2, none⟩ = some (.int .i64 c1)) ∧ (W.cell? ⟨w.heap.size + 1, 0, none⟩ = some (.int .i64 a2) ∧ W.cell? ⟨w.heap.size + 1, 1, none⟩ = some (.int .i64 b2) ∧ W.cell? ⟨w.heap.size + 1, 2, none⟩ = some (.int .i64 c2))) ∧ Hid (CoSt w W a1 b1 c1 a2 b2 c2)) 13 (by rfl) ((HS.out.below (below_drewN (Below.refl _ _) 1)).keep) ?_
            intro hS
            refine wpAnyP_take 0 23 [0, 2, 4, 13] (v := ?_) rfl (by kernel_rfl) (by kernel_rfl) (by kernel_rfl) (by kernel_rfl) (by kernel_rfl) (by kernel_rfl) (by rfl) (fun _ _ _ h => h) (Or.inl ⟨by rfl, ?_⟩) hS ?_; rotate_left
            · (intro w hSw; (try dsimp only at hSw); go_simp; (try with_reducible rfl))
            (try simp only [List.setIfInBounds_toArray, List.set_cons_zero, List.set_cons_succ])
            refine wpAnyP_take 1 24 [1, 2, 4, 13] (v := ?_) rfl (by kernel_rfl) (by kernel_rfl) (by kernel_rfl) (by kernel_rfl) (by kernel_rfl) (by kernel_rfl) (by rfl) (fun _ _ _ h => h) (Or.inl ⟨by rfl, ?_⟩) hS ?_; rotate_left
            · (intro w hSw; (try dsimp only at hSw); go_simp; (try with_reducible rfl))
            (try simp only [List.setIfInBounds_toArray, List.set_cons_zero, List.set_cons_succ])
            refine wpAnyP_one 2 rfl (by kernel_rfl) (fun K hK => ?_)
            go_simp
            refine (CG _).out.mono ?_
            rintro e w5 ⟨rfl, rfl⟩
            refine hK.out _ _ (fun _ => hS) ?_
            clear hK K
            (try simp only [Act.put, List.setIfInBounds_toArray, List.set_cons_zero, List.set_cons_succ])
            refine wpAnyP_take 3 26 [3, 4, 13] (v := ?_) rfl (by kernel_rfl) (by kernel_rfl) (by kernel_rfl) (by kernel_rfl) (by kernel_rfl) (by kernel_rfl) (by rfl) (fun _ _ _ h => h) (Or.inl ⟨by rfl, ?_⟩) hS ?_; rotate_left
            · (intro w hSw; (try dsimp only at hSw); go_simp; (try with_reducible rfl))
            (try simp only [List.setIfInBounds_toArray, List.set_cons_zero, List.set_cons_succ])
            refine wpAnyP_take 4 27 [4, 13] (v := ?_) rfl (by kernel_rfl) (by kernel_rfl) (by kernel_rfl) (by kernel_rfl) (by kernel_rfl) (by kernel_rfl) (by rfl) (fun _ _ _ h => h) (Or.inl ⟨by rfl, ?_⟩) hS ?_; rotate_left
            · (intro w hSw; (try dsimp only at hSw); go_simp; (try with_reducible rfl))
            (try simp only [List.setIfInBounds_toArray, List.set_cons_zero, List.set_cons_succ])
            refine wpAnyP_take 5 28 [5, 8, 11, 12, 13] (v := ?_) rfl (by kernel_rfl) (by kernel_rfl) (by kernel_rfl) (by kernel_rfl) (by kernel_rfl) (by kernel_rfl) (by rfl) (fun _ _ _ h => h) (Or.inl ⟨by rfl, ?_⟩) hS ?_; rotate_left
            · (intro w hSw; (try dsimp only at hSw); go_simp; (try with_reducible rfl))
            (try simp only [List.setIfInBounds_toArray, List.set_cons_zero, List.set_cons_succ])
            refine wpAnyP_take 6 29 [6, 8, 11, 12, 13] (v := ?_) rfl (by kernel_rfl) (by kernel_rfl) (by kernel_rfl) (by kernel_rfl) (by kernel_rfl) (by kernel_rfl) (by rfl) (fun _ _ _ h => h) (Or.inl ⟨by rfl, ?_⟩) hS ?_; rotate_left
            · (intro w hSw; (try dsimp only at hSw); go_simp; (try with_reducible rfl))
            (try simp only [List.setIfInBounds_toArray, List.set_cons_zero, List.set_cons_succ])
            refine wpAnyP_take 7 30 [7, 8, 11, 12, 13] (v := ?_) rfl (by kernel_rfl) (by kernel_rfl) (by kernel_rfl) (by kernel_rfl) (by kernel_rfl) (by kernel_rfl) (by rfl) (fun _ _ _ h => h) (Or.inl ⟨by rfl, ?_⟩) hS ?_; rotate_left
            · (intro w hSw; (try dsimp only at hSw); go_simp; (try with_reducible rfl))
            (try simp only [List.setIfInBounds_toArray, List.set_cons_zero, List.set_cons_succ])
            refine wpAnyP_take 9 32 [9, 10, 11, 12, 13] (v := ?_) rfl (by kernel_rfl) (by kernel_rfl) (by kernel_rfl) (by kernel_rfl) (by kernel_rfl) (by kernel_rfl) (by rfl) (fun _ _ _ h => h) (Or.inl ⟨by rfl, ?_⟩) hS ?_; rotate_left
            · (intro w hSw; (try dsimp only at hSw); go_simp; (try with_reducible rfl))
            (try simp only [List.setIfInBounds_toArray, List.set_cons_zero, List.set_cons_succ])
            refine wpAnyP_take 10 33 [10, 11, 12, 13] (v := ?_) rfl (by kernel_rfl) (by kernel_rfl) (by kernel_rfl) (by kernel_rfl) (by kernel_rfl) (by kernel_rfl) (by rfl) (fun _ _ _ h => h) (Or.inl ⟨by rfl, ?_⟩) hS ?_; rotate_left
            · (intro w hSw; (try dsimp only at hSw); go_simp; (try with_reducible rfl))
            (try simp only [List.setIfInBounds_toArray, List.set_cons_zero, List.set_cons_succ])
            refine wpAnyP_one 8 rfl (by kernel_rfl) (fun K hK => ?_)
            go_simp
            refine (CV _).out.mono ?_
            rintro e w6 ⟨rfl, hb⟩
            have hy := hS.2.out.below hb
            clear hS
            have hS := hy.keep
            refine hK.out _ _ (fun _ => hS) ?_
            clear hK K
            (try simp only [Act.put, List.setIfInBounds_toArray, List.set_cons_zero, List.set_cons_succ])
            refine wpAnyP_one 11 rfl (by kernel_rfl) (fun K hK => ?_)
            go_simp
            refine (CG2 _).out.mono ?_
            rintro e w5 ⟨rfl, rfl⟩
            refine hK.out _ _ (fun _ => hS) ?_
            clear hK K
            (try simp only [Act.put, List.setIfInBounds_toArray, List.set_cons_zero, List.set_cons_succ])
            refine wpAnyP_take 12 35 [12, 13] (v := ?_) rfl (by kernel_rfl) (by kernel_rfl) (by kernel_rfl) (by kernel_rfl) (by kernel_rfl) (by kernel_rfl) (by rfl) (fun _ _ _ h => h) (Or.inl ⟨by rfl, ?_⟩) hS ?_; rotate_left
            · (intro w hSw; (try dsimp only at hSw); go_simp; (try with_reducible rfl))
            (try simp only [List.setIfInBounds_toArray, List.set_cons_zero, List.set_cons_succ])
            refine wpAnyP_one 13 rfl (by kernel_rfl) (fun K hK => ?_)
            go_simp
            refine hK.out _ _ (fun _ => hS) ?_
            clear hK K
            (try simp only [Act.put, List.setIfInBounds_toArray, List.set_cons_zero, List.set_cons_succ])
            refine wpAnyP_done (by kernel_rfl) ?_ _
            have HS1 := hS.2
            clear hS HS CG CV CG2
            go_wp2_with fail
            go_loopg [8] (r0 + K).toNat (fun N r wr => ∃ R : Int, r = .int .i64 R ∧ -K ≤ R ∧ R ≤ r0 ∧ N = (r0 - R).toNat ∧ Hid (CoSt w wr a1 b1 c1 a2 b2 c2))
            case atStart => exact ⟨-K, rfl, by omega, by omega, by congr 1; omega, HS1⟩
            case round =>
              clear HS1
              obtain ⟨R, rfl, hR0, hR1, rfl, HS⟩ := hrel
              obtain ⟨wq, rfl⟩ : ∃ wq : World, wq = wr := ⟨_, rfl⟩
              have hR2 : R ≤ K + 1 := by omega
              go_wp2_with fail
              go_loopg [9] (K + 2 + K).toNat (fun N s wr => ∃ s' : Int, s = .int .i64 s' ∧ -K ≤ s' ∧ s' ≤ K + 2 ∧ Hid (R = r0 → s' ≤ s0) ∧ N = (K + 2 - s').toNat ∧ Hid (CoSt w wr a1 b1 c1 a2 b2 c2))
              case atStart => exact ⟨-K, rfl, by omega, by omega, hide (fun _ => HQ.out.2.2.1), by congr 1; omega, HS⟩
              case round =>
                clear HS
                obtain ⟨s, rfl, hs0, hs1, HX, rfl, HS⟩ := hrel
                obtain ⟨wu, rfl⟩ : ∃ wu : World, wu = wr := ⟨_, rfl⟩
                by_cases hs : s ≤ K + 1
                · have hsb : s.natAbs ≤ 50 := by omega
                  have hRb : R.natAbs ≤ 50 := by omega
                  have m1 := abs_mul_le (x := x) (y := s) (p := 50) (q := 50) (by omega) hsb
                  have m2 := abs_mul_le (x := y) (y := R) (p := 50) (q := 50) (by omega) hRb
                  have ns : wrap64 (s + 1) = s + 1 := by unfold wrap64; omega
                  by_cases hP : x * s - y * R = 1
                  · have HF := HFO.out x y R s HQ.out.1.1 HQ.out.1.2.1 HQ.out.1.2.2.1 HQ.out.1.2.2.2.1 HQ.out.1.2.2.2.2 hP hRb hsb
                    have CT := fun W => hide (HTU.out x R y s (by omega) hRb (by omega) hsb W)
                    obtain ⟨A, hA⟩ : ∃ A, tA a2 b2 c2 x y = A := ⟨_, rfl⟩
                    obtain ⟨B, hB⟩ : ∃ B, tB a2 b2 c2 x R y s = B := ⟨_, rfl⟩
                    obtain ⟨C, hC⟩ : ∃ C, tA a2 b2 c2 R s = C := ⟨_, rfl⟩
                    rw [hA, hB, hC] at HF CT
                    obtain ⟨u, hu⟩ : ∃ u, x * s = u := ⟨_, rfl⟩
                    obtain ⟨v, hv⟩ : ∃ v, y * R = v := ⟨_, rfl⟩
                    rw [hu] at m1 hP
                    rw [hv] at m2 hP
                    have q1 : wrap64 (x * s) = u := by rw [hu]; unfold wrap64; omega
                    have q2 : wrap64 (y * R) = v := by rw [hv]; unfold wrap64; omega
                    have q3 : wrap64 (u - v) = 1 := by rw [hP]; unfold wrap64; omega
                    have hA1 := HF.A1
                    have hA2 := HF.A2
                    have hB0 := HF.B0
                    obtain ⟨J, hJ0, hJA, hJ⟩ := HFB.out A B C HF
                    have HJ := hide hJ
                    have HF' := hide HF
                    obtain ⟨g0, g1, g2⟩ := HS.out.g.cells
                    clear hA hB hC hu hv hP m1 m2 HF hJ ns hsb hRb HX hx hxy
                    go_wp2_with fail
                    refine (CT _).out.mono ?_
                    rintro e w1 ⟨rfl, hb⟩
                    have H2 := hide ((HS.out.below hb).with_ A B C)
                    clear hb CT HS g0 g1 g2 q1 q2 q3
                    obtain ⟨W1, hW⟩ : ∃ Z, w1.alloc (.cells #[.int .i64 A, .int .i64 B, .int .i64 C] 23) = Z := ⟨_, rfl⟩
                    rw [hW] at H2
                    obtain ⟨p, hp⟩ : ∃ p, w1.heap.size = p := ⟨_, rfl⟩
                    rw [hp] at H2
                    go_upto_region 16 with (fail)
                    (try rw [hW])
                    (try rw [hp])
                    clear hW hp
                    obtain ⟨f0, f1, f2⟩ := H2.out.f.cells
                    go_wp2_with fail
                    refine (CD _).out.mono ?_
                    rintro e w2 ⟨rfl, hb⟩
                    have H3 := hide (H2.out.below hb)
                    clear hb H2 f0 f1 f2
                    obtain ⟨f0, f1, f2⟩ := H3.out.f.cells
                    go_wp2_with fail
                    refine (CL _).out.mono ?_
                    rintro e w3 ⟨rfl, rfl⟩
                    clear f0 f1 f2
                    have HFR := hide (fun (j : Int) (h0 : 0 ≤ j) (h1 : j ≤ A) => found_range (b1 := b1) HA.out.1 HA.out.2 h0 h1 hA2)
                    obtain ⟨B0, hB1⟩ : ∃ B0, b1 % (2 * a1) = B0 := ⟨_, rfl⟩
                    rw [hB1] at HJ HFR
                    (try rw [hB1])
                    clear hB1
                    go_wp2_with fail

                    go_loopg [12] J.toNat (fun N b wr => ∃ j : Int, b = .int .i64 (B0 + 2 * a1 * j) ∧ 0 ≤ j ∧ j ≤ J ∧ N = (J - j).toNat ∧ Hid (CoH w wr p a1 b1 c1 A B C))
                    case atStart => exact ⟨0, by simp, by omega, by omega, by simp, H3⟩
                    case round =>
                      clear H3
                      obtain ⟨j, rfl, hj0, hj1, rfl, HS⟩ := hrel
                      obtain ⟨k1, k2, k3⟩ := HFR.out j hj0 (by omega)
                      have e3 := b_step B0 a1 j
                      have hjJ : (B0 + 2 * a1 * j - B) % (2 * A) ≠ 0 → j < J := by
                        intro h
                        rcases (show j < J ∨ j = J by omega) with h1 | h1
                        · exact h1
                        · rw [h1] at h; exact absurd HJ.out h
                      have HJJ := hide hjJ
                      obtain ⟨b, hb⟩ : ∃ b, B0 + 2 * a1 * j = b := ⟨_, rfl⟩
                      rw [hb] at k1 k2 k3 e3 HJJ
                      (try rw [hb])
                      clear hb hjJ
                      have CL2 := fun W => hide (left_r (b - B) (2 * A) W (by omega) (by omega) (by omega) (by omega))
                      have n4 : wrap64 (b - B) = b - B := by unfold wrap64; omega
                      have n5 : wrap64 (2 * A) = 2 * A := by unfold wrap64; omega
                      obtain ⟨f0, f1, f2⟩ := HS.out.f.cells
                      obtain ⟨g0, g1, g2⟩ := HS.out.h.cells
                      by_cases hL : (b - B) % (2 * A) = 0
                      · rw [hL] at CL2
                        obtain ⟨c, hc1, hc2, hc3⟩ := HFE.out A B C b HF'.out k3 hL (by omega) (by omega)
                        have hd := hc2.d
                        have hcp := hc2.c1
                        have ha1 := HA.out.1
                        have ha2 := HA.out.2
                        have d1 := HN0.out.1
                        have d2 := HN0.out.2
                        have CO := fun W => hide (reducedOf_any (a1 * A) b c D W hc2 d1 (by omega))
                        have HSIM := hide hc3
                        have b1' := mul_le_of (x := a1) (y := A) (N := 81) (M := 11205546) (by omega) ha2 (by omega) hA2
                        have b2' := Int.mul_le_mul ha1 hA1 (by omega) (by omega)
                        have b3' := sq_up (x := b) (N := 1815300000) (by omega) k2
                        have b4' := sq_nn b
                        have b5' : 4 * a1 * A = 4 * (a1 * A) := Int.mul_assoc ..
                        have b6' : 1 * c ≤ (4 * (a1 * A)) * c := Int.mul_le_mul_of_nonneg_right (by omega) (by omega)
                        have hq : (b * b - D) / (4 * a1 * A) = c := by rw [← hc1]; exact (Int.tdiv_eq_ediv_of_nonneg (by omega)).symm
                        have hdd : b * b - D = 4 * (a1 * A) * c := by omega
                        rw [b5'] at hc1 hq
                        obtain ⟨Q, hQ⟩ : ∃ Q, a1 * A = Q := ⟨_, rfl⟩
                        obtain ⟨E, hE⟩ : ∃ E, b * b = E := ⟨_, rfl⟩
                        rw [hQ] at CO HSIM b1' b2' b5' b6' hc1 hq hdd
                        rw [hE] at hc1 hq hdd b3' b4'
                        have m1 : IntKind.i64.wrap (a1 * A) = Q := by rw [hQ, IntKind.wrap_i64]; omega
                        have m2 : IntKind.i64.wrap (b * b) = E := by rw [hE, IntKind.wrap_i64]; omega
                        have m3 : IntKind.i64.wrap (E - D) = E - D := by rw [IntKind.wrap_i64]; omega
                        have m4 : IntKind.i64.wrap (4 * a1) = 4 * a1 := by rw [IntKind.wrap_i64]; omega
                        have m5 : IntKind.i64.wrap (4 * a1 * A) = 4 * Q := by rw [b5', IntKind.wrap_i64]; omega
                        have m6 : IntKind.i64.wrap c = c := by rw [IntKind.wrap_i64]; omega
                        have m7 : ¬ 4 * Q = 0 := by omega
                        clear hd hdd hcp ha1 ha2 d1 d2 hc2 hc3 b1' b2' b3' b4' b5' b6' hQ hE e3 k1 k2 k3 hL hA1 hA2 hB0 hJ0 hJA hj0 hj1
                        go_wp2_with fail
                        refine (CL2 _).out.mono ?_
                        rintro e w4 ⟨rfl, rfl⟩
                        go_upto_region 20 with (fail)
                        refine wp_region_P (fun W => ((W.cell? ⟨w.heap.size, 0, none⟩ = some (.int .i64 a1) ∧ W.cell? ⟨w.heap.size, 1, none⟩ = some (.int .i64 b1) ∧ W.cell? ⟨w.heap.size, 2, none⟩ = some (.int .i64 c1)) ∧ (W.cell? ⟨p, 0, none⟩ = some (.int .i64 A) ∧ W.cell? ⟨p, 1, none⟩ = some (.int .i64 B) ∧ W.cell? ⟨p, 2, none⟩ = some (.int .i64 C))) ∧ Hid (CoH w W p a1 b1 c1 A B C)) 20 (by rfl) ((HS.out.below (below_drewN (Below.refl _ _) 1)).keep) ?_
                        intro hS
                        refine wpAnyP_take 0 90 [0, 20] (v := ?_) rfl (by kernel_rfl) (by kernel_rfl) (by kernel_rfl) (by kernel_rfl) (by kernel_rfl) (by kernel_rfl) (by rfl) (fun _ _ _ h => h) (Or.inl ⟨by rfl, ?_⟩) hS ?_; rotate_left
                        · (intro w hSw; (try dsimp only at hSw); go_simp; (try with_reducible rfl))
                        (try simp only [List.setIfInBounds_toArray, List.set_cons_zero, List.set_cons_succ])
                        refine wpAnyP_take 1 91 [1, 20] (v := ?_) rfl (by kernel_rfl) (by kernel_rfl) (by kernel_rfl) (by kernel_rfl) (by kernel_rfl) (by kernel_rfl) (by rfl) (fun _ _ _ h => h) (Or.inl ⟨by rfl, ?_⟩) hS ?_; rotate_left
                        · (intro w hSw; (try dsimp only at hSw); go_simp; (try with_reducible rfl))
                        (try simp only [List.setIfInBounds_toArray, List.set_cons_zero, List.set_cons_succ])
                        refine wpAnyP_take 2 92 [2, 20] (v := ?_) rfl (by kernel_rfl) (by kernel_rfl) (by kernel_rfl) (by kernel_rfl) (by kernel_rfl) (by kernel_rfl) (by rfl) (fun _ _ _ h => h) (Or.inl ⟨by rfl, ?_⟩) hS ?_; rotate_left
                        · (intro w hSw; (try dsimp only at hSw); go_simp; (try with_reducible rfl))
                        (try simp only [List.setIfInBounds_toArray, List.set_cons_zero, List.set_cons_succ])
                        refine wpAnyP_take 3 93 [3, 20] (v := ?_) rfl (by kernel_rfl) (by kernel_rfl) (by kernel_rfl) (by kernel_rfl) (by kernel_rfl) (by kernel_rfl) (by rfl) (fun _ _ _ h => h) (Or.inl ⟨by rfl, ?_⟩) hS ?_; rotate_left
                        · (intro w hSw; (try dsimp only at hSw); go_simp; (try with_reducible rfl))
                        (try simp only [List.setIfInBounds_toArray, List.set_cons_zero, List.set_cons_succ])
                        refine wpAnyP_take 4 94 [4, 20] (v := ?_) rfl (by kernel_rfl) (by kernel_rfl) (by kernel_rfl) (by kernel_rfl) (by kernel_rfl) (by kernel_rfl) (by rfl) (fun _ _ _ h => h) (Or.inl ⟨by rfl, ?_⟩) hS ?_; rotate_left
                        · (intro w hSw; (try dsimp only at hSw); go_simp; (try with_reducible rfl))
                        (try simp only [List.setIfInBounds_toArray, List.set_cons_zero, List.set_cons_succ])
                        refine wpAnyP_take 5 95 [5, 20] (v := ?_) rfl (by kernel_rfl) (by kernel_rfl) (by kernel_rfl) (by kernel_rfl) (by kernel_rfl) (by kernel_rfl) (by rfl) (fun _ _ _ h => h) (Or.inl ⟨by rfl, ?_⟩) hS ?_; rotate_left
                        · (intro w hSw; (try dsimp only at hSw); go_simp; (try with_reducible rfl))
                        (try simp only [List.setIfInBounds_toArray, List.set_cons_zero, List.set_cons_succ])
                        refine wpAnyP_take 6 96 [6, 20] (v := ?_) rfl (by kernel_rfl) (by kernel_rfl) (by kernel_rfl) (by kernel_rfl) (by kernel_rfl) (by kernel_rfl) (by rfl) (fun _ _ _ h => h) (Or.inl ⟨by rfl, ?_⟩) hS ?_; rotate_left
                        · (intro w hSw; (try dsimp only at hSw); go_simp; (try with_reducible rfl))
                        (try simp only [List.setIfInBounds_toArray, List.set_cons_zero, List.set_cons_succ])
                        refine wpAnyP_take 7 97 [7, 20] (v := ?_) rfl (by kernel_rfl) (by kernel_rfl) (by kernel_rfl) (by kernel_rfl) (by kernel_rfl) (by kernel_rfl) (by rfl) (fun _ _ _ h => h) (Or.inl ⟨by rfl, ?_⟩) hS ?_; rotate_left
                        · (intro w hSw; (try dsimp only at hSw); go_simp; (try with_reducible rfl))
                        (try simp only [List.setIfInBounds_toArray, List.set_cons_zero, List.set_cons_succ])
                        refine wpAnyP_take 8 98 [8, 20] (v := ?_) rfl (by kernel_rfl) (by kernel_rfl) (by kernel_rfl) (by kernel_rfl) (by kernel_rfl) (by kernel_rfl) (by rfl) (fun _ _ _ h => h) (Or.inl ⟨by rfl, ?_⟩) hS ?_; rotate_left
                        · (intro w hSw; (try dsimp only at hSw); go_simp; (try with_reducible rfl))
                        (try simp only [List.setIfInBounds_toArray, List.set_cons_zero, List.set_cons_succ])
                        refine wpAnyP_take 9 99 [9, 20] (v := ?_) rfl (by kernel_rfl) (by kernel_rfl) (by kernel_rfl) (by kernel_rfl) (by kernel_rfl) (by kernel_rfl) (by rfl) (fun _ _ _ h => h) (Or.inl ⟨by rfl, ?_⟩) hS ?_; rotate_left
                        · (intro w hSw; (try dsimp only at hSw); go_simp; (try with_reducible rfl))
                        (try simp only [List.setIfInBounds_toArray, List.set_cons_zero, List.set_cons_succ])
                        refine wpAnyP_take 10 100 [10, 20] (v := ?_) rfl (by kernel_rfl) (by kernel_rfl) (by kernel_rfl) (by kernel_rfl) (by kernel_rfl) (by kernel_rfl) (by rfl) (fun _ _ _ h => h) (Or.inl ⟨by rfl, ?_⟩) hS ?_; rotate_left
                        · (intro w hSw; (try dsimp only at hSw); go_simp; (try with_reducible rfl))
                        (try simp only [List.setIfInBounds_toArray, List.set_cons_zero, List.set_cons_succ])
                        refine wpAnyP_take 11 101 [11, 20] (v := ?_) rfl (by kernel_rfl) (by kernel_rfl) (by kernel_rfl) (by kernel_rfl) (by kernel_rfl) (by kernel_rfl) (by rfl) (fun _ _ _ h => h) (Or.inl ⟨by rfl, ?_⟩) hS ?_; rotate_left
                        · (intro w hSw; (try dsimp only at hSw); go_simp; (try with_reducible rfl))
                        (try simp only [List.setIfInBounds_toArray, List.set_cons_zero, List.set_cons_succ])
                        refine wpAnyP_take 12 102 [12, 20] (v := ?_) rfl (by kernel_rfl) (by kernel_rfl) (by kernel_rfl) (by kernel_rfl) (by kernel_rfl) (by kernel_rfl) (by rfl) (fun _ _ _ h => h) (Or.inl ⟨by rfl, ?_⟩) hS ?_; rotate_left
                        · (intro w hSw; (try dsimp only at hSw); go_simp; (try with_reducible rfl))
                        (try simp only [List.setIfInBounds_toArray, List.set_cons_zero, List.set_cons_succ])
                        refine wpAnyP_take 13 103 [13, 20] (v := ?_) rfl (by kernel_rfl) (by kernel_rfl) (by kernel_rfl) (by kernel_rfl) (by kernel_rfl) (by kernel_rfl) (by rfl) (fun _ _ _ h => h) (Or.inl ⟨by rfl, ?_⟩) hS ?_; rotate_left
                        · (intro w hSw; (try dsimp only at hSw); go_simp; (try with_reducible rfl))
                        (try simp only [List.setIfInBounds_toArray, List.set_cons_zero, List.set_cons_succ])
                        refine wpAnyP_take 14 104 [14, 20] (v := ?_) rfl (by kernel_rfl) (by kernel_rfl) (by kernel_rfl) (by kernel_rfl) (by kernel_rfl) (by kernel_rfl) (by rfl) (fun _ _ _ h => h) (Or.inl ⟨by rfl, ?_⟩) hS ?_; rotate_left
                        · (intro w hSw; (try dsimp only at hSw); go_simp; (try with_reducible rfl))
                        (try simp only [List.setIfInBounds_toArray, List.set_cons_zero, List.set_cons_succ])
                        refine wpAnyP_take 15 105 [15, 20] (v := ?_) rfl (by kernel_rfl) (by kernel_rfl) (by kernel_rfl) (by kernel_rfl) (by kernel_rfl) (by kernel_rfl) (by rfl) (fun _ _ _ h => h) (Or.inl ⟨by rfl, ?_⟩) hS ?_; rotate_left
                        · (intro w hSw; (try dsimp only at hSw); go_simp; (try with_reducible rfl))
                        (try simp only [List.setIfInBounds_toArray, List.set_cons_zero, List.set_cons_succ])
                        refine wpAnyP_take 16 106 [16, 20] (v := ?_) rfl (by kernel_rfl) (by kernel_rfl) (by kernel_rfl) (by kernel_rfl) (by kernel_rfl) (by kernel_rfl) (by rfl) (fun _ _ _ h => h) (Or.inl ⟨by rfl, ?_⟩) hS ?_; rotate_left
                        · (intro w hSw; (try dsimp only at hSw); go_simp; (try with_reducible rfl))
                        (try simp only [List.setIfInBounds_toArray, List.set_cons_zero, List.set_cons_succ])
                        refine wpAnyP_take 17 107 [17, 20] (v := ?_) rfl (by kernel_rfl) (by kernel_rfl) (by kernel_rfl) (by kernel_rfl) (by kernel_rfl) (by kernel_rfl) (by rfl) (fun _ _ _ h => h) (Or.inl ⟨by rfl, ?_⟩) hS ?_; rotate_left
                        · (intro w hSw; (try dsimp only at hSw); go_simp; (try with_reducible rfl))
                        (try simp only [List.setIfInBounds_toArray, List.set_cons_zero, List.set_cons_succ])
                        refine wpAnyP_take 18 108 [18, 20] (v := ?_) rfl (by kernel_rfl) (by kernel_rfl) (by kernel_rfl) (by kernel_rfl) (by kernel_rfl) (by kernel_rfl) (by rfl) (fun _ _ _ h => h) (Or.inl ⟨by rfl, ?_⟩) hS ?_; rotate_left
                        · (intro w hSw; (try dsimp only at hSw); go_simp; (try with_reducible rfl))
                        (try simp only [List.setIfInBounds_toArray, List.set_cons_zero, List.set_cons_succ])
                        refine wpAnyP_one 19 rfl (by kernel_rfl) (fun K hK => ?_)
                        go_simp
                        refine (CO _).out.mono ?_
                        rintro e w6 ⟨⟨A', B', C', rfl, hred, hoi⟩, hb⟩
                        have hy := hS.2.out.below hb
                        clear hS
                        have hS := hy.keep
                        have HRED := hide hred
                        have HOI := hide hoi
                        obtain ⟨i0, j0, k0, hzz⟩ := hy.zz
                        have z0 := hzz.frozen 0
                        have z1 := hzz.frozen 1
                        have z2 := hzz.frozen 2
                        obtain ⟨y0, y1, y2⟩ := hzz.cells
                        have HY := hide hy
                        clear hzz
                        clear hred hoi hb hy
                        refine hK.out _ _ (fun _ => hS) ?_
                        clear hK K
                        (try simp only [Act.put, List.setIfInBounds_toArray, List.set_cons_zero, List.set_cons_succ])
                        refine wpAnyP_one 20 rfl (by kernel_rfl) (fun K hK => ?_)
                        go_simp
                        have hS' := (HY.out.fin A' B' C').1.keep
                        clear hS
                        have hS := hS'
                        clear hS'
                        refine hK.out _ _ (fun _ => hS) ?_
                        clear hK K
                        (try simp only [Act.put, List.setIfInBounds_toArray, List.set_cons_zero, List.set_cons_succ])
                        refine wpAnyP_done (by kernel_rfl) ?_ _
                        have FIN := hide (HY.out.fin A' B' C')
                        clear hS HS y0 y1 y2 z0 z1 z2 f0 f1 f2 g0 g1 g2 HY
                        go_wp2_with fail
                        obtain ⟨F1, F2⟩ := FIN.out
                        obtain ⟨G0, G1, G2⟩ := F2.cells
                        exact bodyPost_ret (v := .agg #[.int .i64 A', .int .i64 B', .int .i64 C']) (by simp [results, Try.results20, go_sem, G0, G1, G2]) rfl ⟨⟨A', B', C', rfl, HRED.out, HOI.out.d, HSIM.out.trans HN0.out.1 HOI.out.sim⟩, F1.b⟩
                      · have hjl := HJJ.out hL
                        obtain ⟨ee, hee⟩ : ∃ ee, (b - B) % (2 * A) = ee := ⟨_, rfl⟩
                        rw [hee] at CL2 hL
                        have q1 : (ee == 0) = false := by simpa using hL
                        have q2 : decide (ee = 0) = false := by simpa using hL
                        have n6 : wrap64 (b + 2 * a1) = b + 2 * a1 := by
                          have ha1 := HA.out
                          unfold wrap64; omega
                        clear hee hL k3
                        go_wp2_with fail
                        refine (CL2 _).out.mono ?_
                        rintro e w4 ⟨rfl, rfl⟩
                        go_wp2_with fail
                        go_roundg (J - (j + 1)).toNat
                        case measure => omega
                        case rel => exact ⟨j + 1, by rw [e3, n6], by omega, by omega, rfl, HS⟩
                  · have HX2 := hide (show R = r0 → s + 1 ≤ s0 from fun e => by
                      have h1 := HX.out e
                      have h2 : s ≠ s0 := fun e2 => hP (by rw [e, e2]; exact HQ.out.2.1)
                      omega)
                    obtain ⟨u, hu⟩ : ∃ u, x * s = u := ⟨_, rfl⟩
                    obtain ⟨v, hv⟩ : ∃ v, y * R = v := ⟨_, rfl⟩
                    obtain ⟨z, hz⟩ : ∃ z, u - v = z := ⟨_, rfl⟩
                    rw [hu] at m1 hP
                    rw [hv] at m2 hP
                    rw [hz] at hP
                    have q1 : wrap64 (x * s) = u := by rw [hu]; unfold wrap64; omega
                    have q2 : wrap64 (y * R) = v := by rw [hv]; unfold wrap64; omega
                    have q3 : wrap64 (u - v) = z := by rw [hz]; unfold wrap64; omega
                    have q4 : (z != 1) = true := by simpa using hP
                    have q5 : decide (z = 1) = false := by simpa using hP
                    clear hu hv hz hP m1 m2 hsb hRb HX
                    go_wp2_with fail
                    go_roundg (K + 2 - (s + 1)).toNat
                    case measure => omega
                    case rel => exact ⟨s + 1, rfl, by omega, by omega, HX2, rfl, HS⟩
                · have hRr : R < r0 := by
                    rcases (show R < r0 ∨ R = r0 by omega) with h | h
                    · exact h
                    · have h1 := HX.out h
                      have h2 := HQ.out.2.2.2
                      omega
                  have nR : wrap64 (R + 1) = R + 1 := by unfold wrap64; omega
                  go_wp2_with fail
                  go_roundg (r0 - (R + 1)).toNat
                  case measure => omega
                  case rel => exact ⟨R + 1, rfl, by omega, by omega, rfl, HS⟩
          · have HX2 := hide (show K = T → x + 1 ≤ X from fun e => by
              have h1 := HX.out e
              have h2 : x ≠ X := fun e2 => hv (by
                have h3 := HG.out.2.2.1
                rw [show y = Y by omega, e2]; exact HG.out.2.2.2.2)
              omega)
            obtain ⟨V, hV⟩ : ∃ V, tA a2 b2 c2 x y = V := ⟨_, rfl⟩
            obtain ⟨d, hd⟩ : ∃ d : Int, ((Int.gcd (tA a2 b2 c2 x y) a1 : Nat) : Int) = d := ⟨_, rfl⟩
            have hd1 : d ≠ 1 := by omega
            rw [hd] at CG2
            rw [hV] at CV CG2
            have q4 : (d != 1) = true := by simpa using hd1
            have q5 : decide (d = 1) = false := by simpa using hd1
            clear hV v1 v2 hv hg hd hd1 HA1 HA2 HX
            go_upto_region 7 with (fail)
            refine wp_region_P (fun W => ((W.cell? ⟨w.heap.size, 0, none⟩ = some (.int .i64 a1) ∧ W.cell? ⟨w.heap.size, 1, none⟩ = some (.int .i64 b1) ∧ W.cell? ⟨w.heap.size, 2, none⟩ = some (.int .i64 c1)) ∧ (W.cell? ⟨w.heap.size + 1, 0, none⟩ = some (.int .i64 a2) ∧ W.cell? ⟨w.heap.size + 1, 1, none⟩ = some (.int .i64 b2) ∧ W.cell? ⟨w.heap.size + 1, 2, none⟩ = some (.int .i64 c2))) ∧ Hid (CoSt w W a1 b1 c1 a2 b2 c2)) 13 (by rfl) ((HS.out.below (below_drewN (Below.refl _ _) 1)).keep) ?_
            intro hS
            refine wpAnyP_take 0 23 [0, 2, 4, 13] (v := ?_) rfl (by kernel_rfl) (by kernel_rfl) (by kernel_rfl) (by kernel_rfl) (by kernel_rfl) (by kernel_rfl) (by rfl) (fun _ _ _ h => h) (Or.inl ⟨by rfl, ?_⟩) hS ?_; rotate_left
            · (intro w hSw; (try dsimp only at hSw); go_simp; (try with_reducible rfl))
            (try simp only [List.setIfInBounds_toArray, List.set_cons_zero, List.set_cons_succ])
            refine wpAnyP_take 1 24 [1, 2, 4, 13] (v := ?_) rfl (by kernel_rfl) (by kernel_rfl) (by kernel_rfl) (by kernel_rfl) (by kernel_rfl) (by kernel_rfl) (by rfl) (fun _ _ _ h => h) (Or.inl ⟨by rfl, ?_⟩) hS ?_; rotate_left
            · (intro w hSw; (try dsimp only at hSw); go_simp; (try with_reducible rfl))
            (try simp only [List.setIfInBounds_toArray, List.set_cons_zero, List.set_cons_succ])
            refine wpAnyP_one 2 rfl (by kernel_rfl) (fun K hK => ?_)
            go_simp
            refine (CG _).out.mono ?_
            rintro e w5 ⟨rfl, rfl⟩
            refine hK.out _ _ (fun _ => hS) ?_
            clear hK K
            (try simp only [Act.put, List.setIfInBounds_toArray, List.set_cons_zero, List.set_cons_succ])
            refine wpAnyP_take 3 26 [3, 4, 13] (v := ?_) rfl (by kernel_rfl) (by kernel_rfl) (by kernel_rfl) (by kernel_rfl) (by kernel_rfl) (by kernel_rfl) (by rfl) (fun _ _ _ h => h) (Or.inl ⟨by rfl, ?_⟩) hS ?_; rotate_left
            · (intro w hSw; (try dsimp only at hSw); go_simp; (try with_reducible rfl))
            (try simp only [List.setIfInBounds_toArray, List.set_cons_zero, List.set_cons_succ])
            refine wpAnyP_take 4 27 [4, 13] (v := ?_) rfl (by kernel_rfl) (by kernel_rfl) (by kernel_rfl) (by kernel_rfl) (by kernel_rfl) (by kernel_rfl) (by rfl) (fun _ _ _ h => h) (Or.inl ⟨by rfl, ?_⟩) hS ?_; rotate_left
            · (intro w hSw; (try dsimp only at hSw); go_simp; (try with_reducible rfl))
            (try simp only [List.setIfInBounds_toArray, List.set_cons_zero, List.set_cons_succ])
            refine wpAnyP_take 5 28 [5, 8, 11, 12, 13] (v := ?_) rfl (by kernel_rfl) (by kernel_rfl) (by kernel_rfl) (by kernel_rfl) (by kernel_rfl) (by kernel_rfl) (by rfl) (fun _ _ _ h => h) (Or.inl ⟨by rfl, ?_⟩) hS ?_; rotate_left
            · (intro w hSw; (try dsimp only at hSw); go_simp; (try with_reducible rfl))
            (try simp only [List.setIfInBounds_toArray, List.set_cons_zero, List.set_cons_succ])
            refine wpAnyP_take 6 29 [6, 8, 11, 12, 13] (v := ?_) rfl (by kernel_rfl) (by kernel_rfl) (by kernel_rfl) (by kernel_rfl) (by kernel_rfl) (by kernel_rfl) (by rfl) (fun _ _ _ h => h) (Or.inl ⟨by rfl, ?_⟩) hS ?_; rotate_left
            · (intro w hSw; (try dsimp only at hSw); go_simp; (try with_reducible rfl))
            (try simp only [List.setIfInBounds_toArray, List.set_cons_zero, List.set_cons_succ])
            refine wpAnyP_take 7 30 [7, 8, 11, 12, 13] (v := ?_) rfl (by kernel_rfl) (by kernel_rfl) (by kernel_rfl) (by kernel_rfl) (by kernel_rfl) (by kernel_rfl) (by rfl) (fun _ _ _ h => h) (Or.inl ⟨by rfl, ?_⟩) hS ?_; rotate_left
            · (intro w hSw; (try dsimp only at hSw); go_simp; (try with_reducible rfl))
            (try simp only [List.setIfInBounds_toArray, List.set_cons_zero, List.set_cons_succ])
            refine wpAnyP_take 9 32 [9, 10, 11, 12, 13] (v := ?_) rfl (by kernel_rfl) (by kernel_rfl) (by kernel_rfl) (by kernel_rfl) (by kernel_rfl) (by kernel_rfl) (by rfl) (fun _ _ _ h => h) (Or.inl ⟨by rfl, ?_⟩) hS ?_; rotate_left
            · (intro w hSw; (try dsimp only at hSw); go_simp; (try with_reducible rfl))
            (try simp only [List.setIfInBounds_toArray, List.set_cons_zero, List.set_cons_succ])
            refine wpAnyP_take 10 33 [10, 11, 12, 13] (v := ?_) rfl (by kernel_rfl) (by kernel_rfl) (by kernel_rfl) (by kernel_rfl) (by kernel_rfl) (by kernel_rfl) (by rfl) (fun _ _ _ h => h) (Or.inl ⟨by rfl, ?_⟩) hS ?_; rotate_left
            · (intro w hSw; (try dsimp only at hSw); go_simp; (try with_reducible rfl))
            (try simp only [List.setIfInBounds_toArray, List.set_cons_zero, List.set_cons_succ])
            refine wpAnyP_one 8 rfl (by kernel_rfl) (fun K hK => ?_)
            go_simp
            refine (CV _).out.mono ?_
            rintro e w6 ⟨rfl, hb⟩
            have hy := hS.2.out.below hb
            clear hS
            have hS := hy.keep
            refine hK.out _ _ (fun _ => hS) ?_
            clear hK K
            (try simp only [Act.put, List.setIfInBounds_toArray, List.set_cons_zero, List.set_cons_succ])
            refine wpAnyP_one 11 rfl (by kernel_rfl) (fun K hK => ?_)
            go_simp
            refine (CG2 _).out.mono ?_
            rintro e w5 ⟨rfl, rfl⟩
            refine hK.out _ _ (fun _ => hS) ?_
            clear hK K
            (try simp only [Act.put, List.setIfInBounds_toArray, List.set_cons_zero, List.set_cons_succ])
            refine wpAnyP_take 12 35 [12, 13] (v := ?_) rfl (by kernel_rfl) (by kernel_rfl) (by kernel_rfl) (by kernel_rfl) (by kernel_rfl) (by kernel_rfl) (by rfl) (fun _ _ _ h => h) (Or.inl ⟨by rfl, ?_⟩) hS ?_; rotate_left
            · (intro w hSw; (try dsimp only at hSw); go_simp; (try with_reducible rfl))
            (try simp only [List.setIfInBounds_toArray, List.set_cons_zero, List.set_cons_succ])
            refine wpAnyP_one 13 rfl (by kernel_rfl) (fun K hK => ?_)
            go_simp
            refine hK.out _ _ (fun _ => hS) ?_
            clear hK K
            (try simp only [Act.put, List.setIfInBounds_toArray, List.set_cons_zero, List.set_cons_succ])
            refine wpAnyP_done (by kernel_rfl) ?_ _
            go_wp2_with fail
            go_roundg (K + 1 - (x + 1)).toNat
            case measure => omega
            case rel => exact ⟨x + 1, rfl, by omega, by omega, HX2, rfl, hS.2⟩
        · have HX2 := hide (show K = T → x + 1 ≤ X from fun e => by
            have h1 := HX.out e
            have h2 : x ≠ X := fun e2 => hg (by
              have h3 := HG.out.2.2.1
              rw [show y = Y by omega, e2]; exact HG.out.2.2.2.1)
            omega)
          obtain ⟨d, hd⟩ : ∃ d : Int, ((Int.gcd x y : Nat) : Int) = d := ⟨_, rfl⟩
          have hd1 : d ≠ 1 := by omega
          rw [hd] at CG
          have q4 : (d != 1) = true := by simpa using hd1
          have q5 : decide (d = 1) = false := by simpa using hd1
          clear hd hd1 HX hg
          go_upto_region 7 with (fail)
          refine wp_region_P (fun W => ((W.cell? ⟨w.heap.size, 0, none⟩ = some (.int .i64 a1) ∧ W.cell? ⟨w.heap.size, 1, none⟩ = some (.int .i64 b1) ∧ W.cell? ⟨w.heap.size, 2, none⟩ = some (.int .i64 c1)) ∧ (W.cell? ⟨w.heap.size + 1, 0, none⟩ = some (.int .i64 a2) ∧ W.cell? ⟨w.heap.size + 1, 1, none⟩ = some (.int .i64 b2) ∧ W.cell? ⟨w.heap.size + 1, 2, none⟩ = some (.int .i64 c2))) ∧ Hid (CoSt w W a1 b1 c1 a2 b2 c2)) 13 (by rfl) ((HS.out.below (below_drewN (Below.refl _ _) 1)).keep) ?_
          intro hS
          refine wpAnyP_take 0 23 [0, 2, 4, 13] (v := ?_) rfl (by kernel_rfl) (by kernel_rfl) (by kernel_rfl) (by kernel_rfl) (by kernel_rfl) (by kernel_rfl) (by rfl) (fun _ _ _ h => h) (Or.inl ⟨by rfl, ?_⟩) hS ?_; rotate_left
          · (intro w hSw; (try dsimp only at hSw); go_simp; (try with_reducible rfl))
          (try simp only [List.setIfInBounds_toArray, List.set_cons_zero, List.set_cons_succ])
          refine wpAnyP_take 1 24 [1, 2, 4, 13] (v := ?_) rfl (by kernel_rfl) (by kernel_rfl) (by kernel_rfl) (by kernel_rfl) (by kernel_rfl) (by kernel_rfl) (by rfl) (fun _ _ _ h => h) (Or.inl ⟨by rfl, ?_⟩) hS ?_; rotate_left
          · (intro w hSw; (try dsimp only at hSw); go_simp; (try with_reducible rfl))
          (try simp only [List.setIfInBounds_toArray, List.set_cons_zero, List.set_cons_succ])
          refine wpAnyP_one 2 rfl (by kernel_rfl) (fun K hK => ?_)
          go_simp
          refine (CG _).out.mono ?_
          rintro e w5 ⟨rfl, rfl⟩
          refine hK.out _ _ (fun _ => hS) ?_
          clear hK K
          (try simp only [Act.put, List.setIfInBounds_toArray, List.set_cons_zero, List.set_cons_succ])
          refine wpAnyP_take 3 26 [3, 4, 13] (v := ?_) rfl (by kernel_rfl) (by kernel_rfl) (by kernel_rfl) (by kernel_rfl) (by kernel_rfl) (by kernel_rfl) (by rfl) (fun _ _ _ h => h) (Or.inl ⟨by rfl, ?_⟩) hS ?_; rotate_left
          · (intro w hSw; (try dsimp only at hSw); go_simp; (try with_reducible rfl))
          (try simp only [List.setIfInBounds_toArray, List.set_cons_zero, List.set_cons_succ])
          refine wpAnyP_take 4 27 [4, 13] (v := ?_) rfl (by kernel_rfl) (by kernel_rfl) (by kernel_rfl) (by kernel_rfl) (by kernel_rfl) (by kernel_rfl) (by rfl) (fun _ _ _ h => h) (Or.inl ⟨by rfl, ?_⟩) hS ?_; rotate_left
          · (intro w hSw; (try dsimp only at hSw); go_simp; (try with_reducible rfl))
          (try simp only [List.setIfInBounds_toArray, List.set_cons_zero, List.set_cons_succ])
          refine wpAnyP_take 5 28 [5, 8, 11, 12, 13] (v := undef) rfl (by kernel_rfl) (by kernel_rfl) (by kernel_rfl) (by kernel_rfl) (by kernel_rfl) (by kernel_rfl) (by rfl) (fun _ _ _ h => h) (Or.inr ⟨by rfl, rfl⟩) hS ?_
          (try simp only [List.setIfInBounds_toArray, List.set_cons_zero, List.set_cons_succ])
          refine wpAnyP_take 6 29 [6, 8, 11, 12, 13] (v := undef) rfl (by kernel_rfl) (by kernel_rfl) (by kernel_rfl) (by kernel_rfl) (by kernel_rfl) (by kernel_rfl) (by rfl) (fun _ _ _ h => h) (Or.inr ⟨by rfl, rfl⟩) hS ?_
          (try simp only [List.setIfInBounds_toArray, List.set_cons_zero, List.set_cons_succ])
          refine wpAnyP_take 7 30 [7, 8, 11, 12, 13] (v := undef) rfl (by kernel_rfl) (by kernel_rfl) (by kernel_rfl) (by kernel_rfl) (by kernel_rfl) (by kernel_rfl) (by rfl) (fun _ _ _ h => h) (Or.inr ⟨by rfl, rfl⟩) hS ?_
          (try simp only [List.setIfInBounds_toArray, List.set_cons_zero, List.set_cons_succ])
          refine wpAnyP_take 8 31 [8, 11, 12, 13] (v := undef) rfl (by kernel_rfl) (by kernel_rfl) (by kernel_rfl) (by kernel_rfl) (by kernel_rfl) (by kernel_rfl) (by rfl) (fun _ _ _ h => h) (Or.inr ⟨by rfl, rfl⟩) hS ?_
          (try simp only [List.setIfInBounds_toArray, List.set_cons_zero, List.set_cons_succ])
          refine wpAnyP_take 9 32 [9, 10, 11, 12, 13] (v := undef) rfl (by kernel_rfl) (by kernel_rfl) (by kernel_rfl) (by kernel_rfl) (by kernel_rfl) (by kernel_rfl) (by rfl) (fun _ _ _ h => h) (Or.inr ⟨by rfl, rfl⟩) hS ?_
          (try simp only [List.setIfInBounds_toArray, List.set_cons_zero, List.set_cons_succ])
          refine wpAnyP_take 10 33 [10, 11, 12, 13] (v := undef) rfl (by kernel_rfl) (by kernel_rfl) (by kernel_rfl) (by kernel_rfl) (by kernel_rfl) (by kernel_rfl) (by rfl) (fun _ _ _ h => h) (Or.inr ⟨by rfl, rfl⟩) hS ?_
          (try simp only [List.setIfInBounds_toArray, List.set_cons_zero, List.set_cons_succ])
          refine wpAnyP_take 11 34 [11, 12, 13] (v := undef) rfl (by kernel_rfl) (by kernel_rfl) (by kernel_rfl) (by kernel_rfl) (by kernel_rfl) (by kernel_rfl) (by rfl) (fun _ _ _ h => h) (Or.inr ⟨by rfl, rfl⟩) hS ?_
          (try simp only [List.setIfInBounds_toArray, List.set_cons_zero, List.set_cons_succ])
          refine wpAnyP_take 12 35 [12, 13] (v := undef) rfl (by kernel_rfl) (by kernel_rfl) (by kernel_rfl) (by kernel_rfl) (by kernel_rfl) (by kernel_rfl) (by rfl) (fun _ _ _ h => h) (Or.inr ⟨by rfl, rfl⟩) hS ?_
          (try simp only [List.setIfInBounds_toArray, List.set_cons_zero, List.set_cons_succ])
          refine wpAnyP_one 13 rfl (by kernel_rfl) (fun K hK => ?_)
          go_simp
          refine hK.out _ _ (fun _ => hS) ?_
          clear hK K
          (try simp only [Act.put, List.setIfInBounds_toArray, List.set_cons_zero, List.set_cons_succ])
          refine wpAnyP_done (by kernel_rfl) ?_ _
          go_wp2_with fail
          go_roundg (K + 1 - (x + 1)).toNat
          case measure => omega
          case rel => exact ⟨x + 1, rfl, by omega, by omega, HX2, rfl, hS.2⟩
      · have hKT : K < T := by
          rcases (show K < T ∨ K = T by omega) with h | h
          · exact h
          · have h1 := HX.out h
            have h2 := HG.out.2.1
            have h3 := HG.out.2.2.1
            omega
        go_wp2_with fail
        go_roundg (T - (K + 1)).toNat
        case measure => omega
        case rel => exact ⟨K + 1, rfl, by omega, by omega, rfl, HS⟩
end Go.Proofs.Ytlchmaiflcnaoaa
