/- whole.Bezout: the walk where b is not nought. -/
import Derived.Test.YtkfjjljdhfjpbaaKBezA
namespace Go.Proofs.Ytkfjjljdhfjpbaa
open Go.RowKit

set_option maxRecDepth 100000 in
set_option maxHeartbeats 1600000 in
theorem bezout_pos (a b : Int) (w : World) (h : lookK 0 [a, b] = (0, 0)) (ha : 0 < a) (ha2 : a.natAbs ≤ 1000000000000000000) (hb0 : b ≠ 0) (hb2 : b.natAbs ≤ 1000000000000000000) :
    Calls Try.prog 45 #[.int .i64 a, .int .i64 b] w (RetBez w a b) := by
  have E := fun W => hide (extended_any a b W (by omega) (by omega))
  have L : ∀ (W : World) (g : Nat), g = W.heap.size → Hid (Calls Try.prog 54 #[.slice (some ⟨g, 0, none⟩) 2 2] (W.alloc (.cells #[.int .i64 a, .int .i64 b] 3)) (RetFault (W.alloc (.cells #[.int .i64 a, .int .i64 b] 3)) (lookK 0 [a, b]))) := fun W g hg => hg ▸ look_any _ 2 2 [a, b] _ rfl (by omega) (ints_new W [a, b] _)
  rw [h] at L
  have HE := hide h
  obtain ⟨G, hG⟩ : ∃ G, Int.gcd a b = G := ⟨_, rfl⟩
  go_enter Try.func45, Try.ntmps45
  go_wp2_with fail
  refine (L _ _ (by simp)).out.mono ?_
  rintro e w1 ⟨rfl, hb⟩
  simp only [fv]
  have F1 := (((FC.fresh w).below ((Below.refl _ _).alloc (Nat.le_refl _) (.cells #[.int .i64 a, .int .i64 b] 3))).below hb)
  have hlt := F1.lt
  have HB := hide (below_new (below_new2 hb))
  obtain ⟨d0, d1, f0, f1⟩ := F1.cells
  clear hb
  go_wp2_with fail
  refine (E _).out.mono ?_
  rintro e w2 ⟨u0, rfl, hd, hub, _, rfl⟩
  rw [hG] at hd ⊢
  obtain ⟨c1, c2, c3, c4, c5, c6, c7⟩ := Bz.core hG hb0 hd
  obtain ⟨M, hM⟩ : ∃ M, b.natAbs / G = M := ⟨_, rfl⟩
  rw [hM] at c2 c3 c4 c5 c6
  obtain ⟨u, hu⟩ : ∃ u : Nat, (u : Int) = u0 % (M : Int) := ⟨(u0 % (M : Int)).toNat, by omega⟩
  obtain ⟨A, hA⟩ : ∃ A : Nat, (A : Int) = a := ⟨a.toNat, by omega⟩
  rw [← hu] at c3 c5
  have hMle : M ≤ 1000000000000000000 := by have := Nat.div_le_self b.natAbs G; omega
  have C := fun W => hide (mod_any u0 (M : Int) W (by omega) (by have := Nat.div_le_self b.natAbs G; omega) (by omega) (by omega))
  rw [← hu] at C
  have M64 := fun W => hide (Try.bits_Mul64 u A (by omega) (by omega) W)
  have HBN : Hid (b.natAbs ≤ 1000000000000000000) := hb2
  obtain ⟨B, hB⟩ : ∃ B, b.natAbs = B := ⟨_, rfl⟩
  have hGM : B = G * M := by rw [← hB]; exact c6
  have K11 : Hid (G ≤ B) := by unfold Hid; rw [hGM]; exact Nat.le_mul_of_pos_right G c2
  have hMB : M ≤ B := by rw [hGM]; exact Nat.le_mul_of_pos_left M c1
  have K12 : Hid (u * A ≤ B * 1000000000000000000) := Nat.mul_le_mul (by omega) (by omega)
  have K13 : Hid (0 < B) := by unfold Hid; omega
  have K14 : Hid (G ≤ 1000000000000000000) := Nat.le_trans K11.out (by omega)
  have K15 : Hid (B ≤ 1000000000000000000) := by unfold Hid; omega
  clear hGM hMB
  have g1 : ((G : Int) == 0) = false := by simp; omega
  have b1 : (b == 0) = false := by simpa using hb0
  have e1 : IntKind.i64.wrap (-b) = -b := by rw [IntKind.wrap_i64]; omega
  have e2 : ((B : Int)) / (G : Int) = (M : Int) := by
    rw [← hM, hB]; rfl
  have e3 : max b (-b) = (B : Int) := by omega
  have e4 : max a (-a) = (A : Int) := by omega
  have e5 : IntKind.i64.wrap (-a) = -a := by rw [IntKind.wrap_i64]; omega
  have w1u := wrap_u64_nat u (by omega)
  have w1A := wrap_u64_nat A (by omega)
  have w1B := wrap_u64_nat B (by omega)
  have w1G := wrap_u64_nat G (by rw [hB] at c6; have := Nat.le_mul_of_pos_right G c2; omega)
  have dA : decide (0 < a) = true := by simpa using ha
  have K1 := hide c3
  have K2 : Hid (u < M) := by unfold Hid; omega
  have K3 : Hid (B = G * M) := by unfold Hid; rw [← hB]; exact c6
  have K4 := hide hB
  have K5 := hide hA
  have K6 := hide hG
  have K7 := hide c7
  have K8 := hide hb0
  have K9 : Hid (0 < G) := c1
  have K10 : Hid (A ≤ 1000000000000000000 ∧ B ≤ 1000000000000000000) := by unfold Hid; omega
  have g2 : ¬ G = 0 := by omega
  have e6 : wrap64 (M : Int) = M := by unfold wrap64; omega
  have HF := hide F1
  clear c1 c2 c3 c4 c5 c6 c7 hd hub hG hM hu hA hB hMle h hb0 hb2 ha2 E L F1
  go_wp2_with fail
  refine (C _).out.mono ?_
  rintro e w2 ⟨rfl, rfl⟩
  go_wp2_with fail
  refine (M64 _).out.mono ?_
  rintro e w2 ⟨rfl, rfl⟩
  have hGle := K11.out
  have hPB := K12.out
  have hB0 := K13.out
  have hGs := K14.out
  have hBs := K15.out
  by_cases hle : G ≤ u * A
  · obtain ⟨H, Lo, br, D, H', hH, hLo, hbr, hD, hN, hs, e8, hHB, hD2⟩ := Bz.packSub (u * A) G B hGs hle hPB hB0
    rw [hH, hLo]
    have S64 := fun W => sub64_run Lo G W
    rw [hbr, hD] at S64
    have e7 := wrap_u64_nat H' (Nat.lt_of_lt_of_le hHB (Nat.le_trans hBs (by decide)))
    rw [← hs] at e7
    rw [hs] at e7
    have D64 := fun W => hide (div64_any H' D B W hHB (Nat.lt_of_le_of_lt hBs (by decide)) hD2)
    rw [hN] at D64
    have hq := Bz.pos (A := a) (B := b) K5.out.symm K4.out K1.out hle
    obtain ⟨q, hq2⟩ : ∃ q, (u * A - G) / B = q := ⟨_, rfl⟩
    rw [hq2] at hq D64
    have KQ := hide hq
    have KL := hide hle
    clear hGle hPB hB0 hGs hBs hH hLo hbr hD hN hHB hD2 hq hq2 hle

    have hqs : q ≤ 1000000000000000000 := Bz.qle KQ.out K12.out K13.out
    have KQs := hide hqs
    have e9 : IntKind.i64.wrap (q : Int) = q := Bz.wq (Nat.le_succ_of_le hqs)
    have e10 : IntKind.i64.wrap (-(q : Int)) = -(q : Int) := Bz.wnq (Nat.le_succ_of_le hqs)
    clear hqs
    go_wp2_with fail
    refine (D64 _).out.mono ?_
    rintro e w2 ⟨rfl, nn, hnn⟩
    have hb2 : Below (w1.alloc (.cells #[.int .i64 0, .int .i64 0] 26)).heap.size (w1.alloc (.cells #[.int .i64 0, .int .i64 0] 26)) w2 := by rw [hnn]; exact below_drewN (Below.refl _ _) nn
    clear hnn d0 d1 f0 f1
    have F2 := (HF.out.below ((Below.refl _ _).alloc (Nat.le_refl _) (.cells #[.int .i64 0, .int .i64 0] 26))).below hb2
    obtain ⟨d0, d1, f0, f1⟩ := F2.cells
    obtain ⟨p0, p1⟩ := F2.put 0 0
    have HB2 := hide (below_fault (u := .int .i64 0) (v := .int .i64 0) (HB.out.trans ((below_new hb2).mono HB.out.size)) (Nat.le_refl w.heap.size))
    clear hb2 F2
    have KR0 := bezOk_pos K5.out K4.out K6.out K3.out K9.out K2.out K8.out K15.out KQ.out KL.out KQs.out
    by_cases hbs : b < 0
    · rw [if_pos hbs] at KR0
      have KR := hide KR0
      have dB : decide (b < 0) = true := by simpa using hbs
      clear hbs KR0
      go_wp2_with fail
      go_region
      go_wp2_with fail
      exact bodyPost_ret (v := .tuple #[.int .i64 G, .int .i64 u, .int .i64 (q : Int), fv (0, 0)]) (by simp [results, Try.results45, go_sem, fv, p0, p1]) rfl ⟨G, u, (q : Int), by rw [HE.out], fun _ => KR.out, fun h => by rw [HE.out] at h; simp at h, HB2.out.drew⟩
    · rw [if_neg hbs] at KR0
      have KR := hide KR0
      have dB : decide (b < 0) = false := by simpa using hbs
      clear hbs KR0
      go_wp2_with fail
      go_region
      go_wp2_with fail
      exact bodyPost_ret (v := .tuple #[.int .i64 G, .int .i64 u, .int .i64 (-(q : Int)), fv (0, 0)]) (by simp [results, Try.results45, go_sem, fv, p0, p1]) rfl ⟨G, u, (-(q : Int)), by rw [HE.out], fun _ => KR.out, fun h => by rw [HE.out] at h; simp at h, HB2.out.drew⟩
  · have hlt2 : u * A < G := Nat.lt_of_not_le hle
    obtain ⟨q1, q2, q3⟩ := Bz.packLess (u * A) G hGs hlt2
    obtain ⟨r1, r2, r3⟩ := bezOk_one K5.out K4.out K6.out K3.out K9.out K2.out K8.out ha hlt2 K1.out K7.out
    rw [q1, q2]
    have S64 := fun W => sub64_run (u * A) G W
    rw [q3] at S64
    have tq := Bz.one_div (b := b) (B := B) K4.out r2 K9.out
    obtain ⟨P, hP⟩ : ∃ P, u * A = P := ⟨_, rfl⟩
    rw [hP] at S64 ⊢
    clear hGle hPB hB0 hGs hBs hle hlt2 q1 q2 q3 r1 r2 hP
    obtain ⟨w2, hw2⟩ : ∃ w2, w1.alloc (.cells #[.int .i64 0, .int .i64 0] 26) = w2 := ⟨_, rfl⟩
    have F2 : FC w2 w.heap.size 0 0 := by rw [← hw2]; exact HF.out.below ((Below.refl _ _).alloc (Nat.le_refl _) _)
    have HB3 : Below w.heap.size w w2 := by rw [← hw2]; exact HB.out.alloc HB.out.size _
    rw [hw2]
    clear hw2 d0 d1 f0 f1
    obtain ⟨d0, d1, f0, f1⟩ := F2.cells
    obtain ⟨p0, p1⟩ := F2.put 0 0
    have HB2 := hide (below_fault (u := .int .i64 0) (v := .int .i64 0) HB3 (Nat.le_refl w.heap.size))
    clear HB3 F2
    have b3 : ¬ b = 0 := K8.out
    have v1 : IntKind.i64.wrap (-1) = -1 := by decide
    have v2 : IntKind.i64.wrap 1 = 1 := by decide
    by_cases hbs : b < 0
    · rw [if_pos hbs] at r3 tq
      have KR := hide r3
      have dB : decide (b < 0) = true := by simpa using hbs
      clear hbs r3
      go_wp2_with fail
      go_region
      go_wp2_with fail
      exact bodyPost_ret (v := .tuple #[.int .i64 G, .int .i64 u, .int .i64 (-1), fv (0, 0)]) (by simp [results, Try.results45, go_sem, fv, p0, p1]) rfl ⟨G, u, (-1), by rw [HE.out], fun _ => KR.out, fun h => by rw [HE.out] at h; simp at h, HB2.out.drew⟩
    · rw [if_neg hbs] at r3 tq
      have KR := hide r3
      have dB : decide (b < 0) = false := by simpa using hbs
      clear hbs r3
      go_wp2_with fail
      go_region
      go_wp2_with fail
      exact bodyPost_ret (v := .tuple #[.int .i64 G, .int .i64 u, .int .i64 1, fv (0, 0)]) (by simp [results, Try.results45, go_sem, fv, p0, p1]) rfl ⟨G, u, 1, by rw [HE.out], fun _ => KR.out, fun h => by rw [HE.out] at h; simp at h, HB2.out.drew⟩
end Go.Proofs.Ytkfjjljdhfjpbaa
