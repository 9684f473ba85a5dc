/- The walk of quad.Genus at a good form (printed by gen_genk.py). -/
import Derived.Test.YtkfjjljdhfjpbaaKGenL
namespace Go.Proofs.Ytkfjjljdhfjpbaa
open Go.RowKit
open GN

set_option maxRecDepth 100000 in
set_option maxHeartbeats 3200000 in
theorem Genus_main (a b c : Int) (d : Nat) (w : World) (h : formF a b c = (0, 0)) (ha : a.natAbs ≤ 1000000000) (hb : b.natAbs ≤ 1000000000) (hc : c.natAbs ≤ 1000000000) (ha1 : 1 ≤ a) (hc1 : 1 ≤ c) (hD : b * b - 4 * a * c = -(d : Int)) (hd : 2 < d) (hd2 : d ≤ 2000) :
    Calls Try.prog 4 #[.agg #[.int .i64 a, .int .i64 b, .int .i64 c]] w fun e w' => ∃ v, e = .returned (.tuple #[v, fv (0, 0)]) ∧ NRow w' w.heap.size v (gset d a b c) ∧ Below w.heap.size w w' := by
  have CK := fun W => hide (check_any a b c W)
  unfold RetFault at CK
  rw [h] at CK
  simp only [fv] at CK
  obtain ⟨t, ht⟩ : ∃ t : Int, 0 = t := ⟨_, rfl⟩
  have t1 : (t != 0) = false := by rw [← ht]; rfl
  have t2 : (t == 0) = true := by rw [← ht]; rfl
  simp only [ht] at CK
  clear ht
  have CD := fun W => hide (disc_any a b c W ha hb hc)
  rw [hD] at CD
  have CR := fun W => hide (reduce_big a b c W ha1 (by omega) hc1 (by omega) (by omega))
  have nn : IntKind.i64.wrap (-(-(d : Int))) = (d : Int) := by rw [IntKind.wrap_i64]; omega
  have nn2 : IntKind.i64.wrap (d : Int) = (d : Int) := by rw [IntKind.wrap_i64]; omega
  have g1 : decide ((2000 : Int) < (d : Int)) = false := by rw [decide_eq_false_iff_not]; omega
  have g2 : decide (2000 < d) = false := by rw [decide_eq_false_iff_not]; omega
  have HDD := hide (And.intro hd (And.intro hd2 hD))
  have hmm := @run_makeMap Try.prog
  have H1 := hide (GS.start w a b c)
  obtain ⟨W1, hW1⟩ : ∃ ZZ, ((w.alloc (.cells #[.int .i64 a, .int .i64 b, .int .i64 c] 23)).alloc (.cells #[.int .i64 0, .int .i64 0] 26)) = ZZ := ⟨_, rfl⟩
  rw [hW1] at H1
  obtain ⟨a0, a1, a2⟩ : W1.cell? ⟨w.heap.size, 0, none⟩ = some (.int .i64 a) ∧ W1.cell? ⟨w.heap.size, 1, none⟩ = some (.int .i64 b) ∧ W1.cell? ⟨w.heap.size, 2, none⟩ = some (.int .i64 c) := ⟨H1.out.f.cell rfl, H1.out.f.cell rfl, H1.out.f.cell rfl⟩
  clear h ha hb hc hD hd hd2 ha1 hc1
  go_enter Try.func4, Try.ntmps4
  go_upto_region 1 with (fail)
  (try rw [hW1])
  clear hW1
  go_wp2_with fail
  refine (CK _).out.mono ?_
  rintro e w2 ⟨rfl, hb⟩
  have H2 := hide ((H1.out.below hb).below ((Below.refl _ _).alloc (Nat.le_refl _) (.cells #[.int .i64 t, .int .i64 t] 26)))
  have HF := hide (FC.made w2 t t)
  obtain ⟨g, hg⟩ : ∃ ZZ, w2.heap.size = ZZ := ⟨_, rfl⟩
  obtain ⟨W3, hW3⟩ : ∃ ZZ, w2.alloc (.cells #[.int .i64 t, .int .i64 t] 26) = ZZ := ⟨_, rfl⟩
  rw [hW3] at H2 HF
  rw [hg] at HF
  clear hb H1 a0 a1 a2 CK
  go_upto_region 2 with (fail)
  (try rw [hW3])
  (try rw [hg])
  clear hW3 hg
  have f0 := HF.out.cells.1
  obtain ⟨a0, a1, a2⟩ : W3.cell? ⟨w.heap.size, 0, none⟩ = some (.int .i64 a) ∧ W3.cell? ⟨w.heap.size, 1, none⟩ = some (.int .i64 b) ∧ W3.cell? ⟨w.heap.size, 2, none⟩ = some (.int .i64 c) := ⟨H2.out.f.cell rfl, H2.out.f.cell rfl, H2.out.f.cell rfl⟩
  go_wp2_with fail
  refine (CD _).out.mono ?_
  rintro e w4 ⟨rfl, hb⟩
  have H3 := hide (H2.out.below hb)
  clear hb H2 HF f0 a0 a1 a2 CD
  obtain ⟨a0, a1, a2⟩ : w4.cell? ⟨w.heap.size, 0, none⟩ = some (.int .i64 a) ∧ w4.cell? ⟨w.heap.size, 1, none⟩ = some (.int .i64 b) ∧ w4.cell? ⟨w.heap.size, 2, none⟩ = some (.int .i64 c) := ⟨H3.out.f.cell rfl, H3.out.f.cell rfl, H3.out.f.cell rfl⟩
  go_wp2_with fail
  refine (CR _).out.mono ?_
  rintro e w5 ⟨A, B, C, p, q, r, s, rfl, hbig, hlo, hhi, hac, hb⟩
  have H4 := hide (H3.out.below hb)
  have HBG := hide (And.intro hbig (And.intro hlo (And.intro hhi hac)))
  clear hb H3 CR a0 a1 a2 hbig hlo hhi hac nn nn2 g1 g2
  obtain ⟨a0, a1, a2⟩ : w5.cell? ⟨w.heap.size, 0, none⟩ = some (.int .i64 a) ∧ w5.cell? ⟨w.heap.size, 1, none⟩ = some (.int .i64 b) ∧ w5.cell? ⟨w.heap.size, 2, none⟩ = some (.int .i64 c) := ⟨H4.out.f.cell rfl, H4.out.f.cell rfl, H4.out.f.cell rfl⟩
  have f0 := H4.out.f.frozen 0
  have f1 := H4.out.f.frozen 1
  have f2 := H4.out.f.frozen 2
  have H5 := hide (H4.out.put A B C)
  obtain ⟨W6, hW6⟩ : ∃ ZZ, (((w5.setCell ⟨w.heap.size, 0, none⟩ (.int .i64 A)).setCell ⟨w.heap.size, 1, none⟩ (.int .i64 B)).setCell ⟨w.heap.size, 2, none⟩ (.int .i64 C)) = ZZ := ⟨_, rfl⟩
  rw [hW6] at H5
  have HW6 := hide hW6
  clear hW6 H4
  go_upto_region 8 with (fail)
  rw [HW6.out]
  clear a0 a1 a2 f0 f1 f2 HW6
  have HBD : Hid ((1 ≤ A ∧ A ≤ 26) ∧ (-26 ≤ B ∧ B ≤ 26) ∧ (1 ≤ C ∧ C ≤ 700) ∧ B * B - 4 * A * C = -(d : Int)) := hide (by
    obtain ⟨hr, h1, h2, h3⟩ := HBG.out
    obtain ⟨_, hd2, hD⟩ := HDD.out
    have e := hr.d
    rw [hD] at e
    have ha1 := hr.a1
    have hac : A ≤ C := by omega
    have e1 : B * B ≤ A * A := by
      rcases Int.le_total 0 B with k | k
      · exact Int.mul_le_mul h2 h2 k (by omega)
      · have := Int.mul_le_mul (a := -B) (b := -B) (c := A) (d := A) (by omega) (by omega) (by omega) (by omega)
        rwa [Int.neg_mul_neg] at this
    have e2 : A * A ≤ A * C := Int.mul_le_mul_of_nonneg_left hac (by omega)
    have e3 : 4 * (A * C) = B * B + d := by rw [← Int.mul_assoc]; omega
    have hA : A ≤ 26 := Int.not_lt.1 fun hlt => by
      have := Int.mul_le_mul (a := 27) (b := 27) (c := A) (d := A) (by omega) (by omega) (by omega) (by omega)
      omega
    have e4 : A * A ≤ 26 * 26 := Int.mul_le_mul hA hA (by omega) (by omega)
    have e5 : 1 * C ≤ A * C := Int.mul_le_mul_of_nonneg_right ha1 (by omega)
    exact ⟨⟨ha1, hA⟩, ⟨by omega, by omega⟩, ⟨by omega, by omega⟩, e⟩)
  have HM := hide (InM.made W6 d)
  have HG := hide (H5.out.below ((Below.refl _ _).alloc (Nat.le_refl _) (.map #[] 0)))
  have HLT : Hid (w.heap.size + 1 < W6.heap.size) := hide H5.out.r.lt
  obtain ⟨m, hm⟩ : ∃ ZZ, W6.heap.size = ZZ := ⟨_, rfl⟩
  obtain ⟨W7, hW7⟩ : ∃ ZZ, W6.alloc (.map #[] 0) = ZZ := ⟨_, rfl⟩
  rw [hW7, hm] at HM
  rw [hW7] at HG
  rw [hm] at HLT
  rw [← gB_start d A B C] at HM
  clear H5
  go_upto_region 9 with (fail)
  (try rw [hW7])
  (try rw [hm])
  clear hW7 hm hmm
  go_wp2_with fail
  go_loopw [30] (fun xv wr => ∃ x : Nat, xv = .int .i64 x ∧ x ≤ d ∧ Hid (GS w wr A B C) ∧ Hid (InM wr m (x * d) d (gB d A B C x 0))) (fun xv _ => d - (intOf xv).toNat)
  case atStart => exact ⟨0, rfl, by omega, HG, by rw [Nat.zero_mul]; exact HM⟩
  case round =>
    clear HM HG
    obtain ⟨x, rfl, hx, HG, HM⟩ := hrel
    by_cases hxd : x < d
    · have HXD := hide hxd
      have q1 : decide ((x : Int) < (d : Int)) = true := by rw [decide_eq_true_eq]; omega
      have q2 : decide (x < d) = true := by rw [decide_eq_true_eq]; omega
      clear hxd hx
      go_wp2_with fail
      clear q1 q2
      go_loopw [34] (fun yv wz => ∃ y : Nat, yv = .int .i64 y ∧ y ≤ d ∧ Hid (GS w wz A B C) ∧ Hid (InM wz m (x * d + y) d (gB d A B C x y))) (fun yv _ => d - (intOf yv).toNat)
      case atStart => exact ⟨0, rfl, by omega, HG, HM⟩
      case round =>
        clear HG HM
        obtain ⟨y, rfl, hy, HG, HM⟩ := hrel
        by_cases hyd : y < d
        · have HYD := hide hyd
          have q1 : decide ((y : Int) < (d : Int)) = true := by rw [decide_eq_true_eq]; omega
          have q2 : decide (y < d) = true := by rw [decide_eq_true_eq]; omega
          obtain ⟨⟨hA1, hA2⟩, ⟨hB1, hB2⟩, ⟨hC1, hC2⟩, hDD⟩ := HBD.out
          obtain ⟨_, hd2, _⟩ := HDD.out
          have hx' := HXD.out
          have mx := nn_mul (x := (x : Int)) (y := (x : Int)) (p := 2000) (q := 2000) (by omega) (by omega) (by omega) (by omega)
          have mxy := nn_mul (x := (x : Int)) (y := (y : Int)) (p := 2000) (q := 2000) (by omega) (by omega) (by omega) (by omega)
          have myy := nn_mul (x := (y : Int)) (y := (y : Int)) (p := 2000) (q := 2000) (by omega) (by omega) (by omega) (by omega)
          have m1 := nn_mul (x := A) (y := (x : Int)) (p := 26) (q := 2000) (by omega) (by omega) (by omega) (by omega)
          have m2 := nn_mul (x := A * x) (y := (x : Int)) (p := 26 * 2000) (q := 2000) (by omega) (by omega) (by omega) (by omega)
          have m5 := nn_mul (x := C) (y := (y : Int)) (p := 700) (q := 2000) (by omega) (by omega) (by omega) (by omega)
          have m6 := nn_mul (x := C * y) (y := (y : Int)) (p := 700 * 2000) (q := 2000) (by omega) (by omega) (by omega) (by omega)
          have m3 : -(26 * 2000) ≤ B * x ∧ B * x ≤ 26 * 2000 := by
            have k1 := nn_mul (x := B + 26) (y := (x : Int)) (p := 52) (q := 2000) (by omega) (by omega) (by omega) (by omega)
            have k2 : (B + 26) * (x : Int) = B * x + 26 * x := Int.add_mul ..
            have k3 := nn_mul (x := 26 - B) (y := (x : Int)) (p := 52) (q := 2000) (by omega) (by omega) (by omega) (by omega)
            have k4 : (26 - B) * (x : Int) = 26 * x - B * x := Int.sub_mul ..
            omega
          have m4 : -(26 * 2000 * 2000) ≤ B * x * y ∧ B * x * y ≤ 26 * 2000 * 2000 := by
            have k1 := nn_mul (x := B * x + 26 * 2000) (y := (y : Int)) (p := 2 * 26 * 2000) (q := 2000) (by omega) (by omega) (by omega) (by omega)
            have k2 : (B * x + 26 * 2000) * (y : Int) = B * x * y + 26 * 2000 * y := Int.add_mul ..
            have k3 := nn_mul (x := 26 * 2000 - B * x) (y := (y : Int)) (p := 2 * 26 * 2000) (q := 2000) (by omega) (by omega) (by omega) (by omega)
            have k4 : (26 * 2000 - B * x) * (y : Int) = 26 * 2000 * y - B * x * y := Int.sub_mul ..
            omega
          have w1 : IntKind.i64.wrap (A * x) = A * x := by rw [IntKind.wrap_i64]; omega
          have w2 : IntKind.i64.wrap (A * x * x) = A * x * x := by rw [IntKind.wrap_i64]; omega
          have w3 : IntKind.i64.wrap (B * x) = B * x := by rw [IntKind.wrap_i64]; omega
          have w4 : IntKind.i64.wrap (B * x * y) = B * x * y := by rw [IntKind.wrap_i64]; omega
          have w5 : IntKind.i64.wrap (A * x * x + B * x * y) = A * x * x + B * x * y := by rw [IntKind.wrap_i64]; omega
          have w6 : IntKind.i64.wrap (C * y) = C * y := by rw [IntKind.wrap_i64]; omega
          have w7' : IntKind.i64.wrap (C * y * y) = C * y * y := by rw [IntKind.wrap_i64]; omega
          have w8 : IntKind.i64.wrap (A * x * x + B * x * y + C * y * y) = A * x * x + B * x * y + C * y * y := by rw [IntKind.wrap_i64]; omega
          have hpos : 0 ≤ A * x * x + B * x * y + C * y * y := by
            have h1 : 4 * A * (A * x * x + B * x * y + C * y * y) = (2 * A * x + B * y) * (2 * A * x + B * y) + d * (y * y) := by
              have : (d : Int) = 4 * A * C - B * B := by omega
              rw [this]; grind
            have h2 := sq_nn (2 * A * x + B * y)
            have h3 : 0 ≤ (d : Int) * (y * y) := Int.mul_nonneg (by omega) myy.1
            refine Int.not_lt.1 fun hlt => ?_
            have := Int.mul_lt_mul_of_pos_left hlt (show 0 < 4 * A by omega)
            omega
          have z0 := Int.emod_nonneg (A * x * x + B * x * y + C * y * y) (show (d : Int) ≠ 0 by omega)
          have z1 := Int.emod_lt_of_pos (A * x * x + B * x * y + C * y * y) (show (0 : Int) < d by omega)
          obtain ⟨i, hi⟩ : ∃ i : Nat, (A * x * x + B * x * y + C * y * y) % (d : Int) = (i : Int) := ⟨_, (Int.toNat_of_nonneg z0).symm⟩
          have hr : (A * x * x + B * x * y + C * y * y).tmod (d : Int) = (i : Int) := by rw [Int.tmod_eq_emod_of_nonneg hpos, hi]
          have HIV : Hid (val A B C (x : Int) (y : Int) % (d : Int) = (i : Int)) := hide hi
          have hid : i < d := by omega
          have hnm : x * d + y < maxLen := by
            have : x * d ≤ 2000 * 2000 := Nat.mul_le_mul (by omega) hd2
            simp only [maxLen]; omega
          obtain ⟨Wn, hupd, HM2, hgr⟩ := HM.out.upd hnm hid hd2
          have HM3 := hide HM2
          have HG3 := hide (HG.out.grown hgr HLT.out)
          have hd0 : (d : Int) ≠ 0 := by omega
          obtain ⟨a0, a1, a2⟩ : wr.cell? ⟨w.heap.size, 0, none⟩ = some (.int .i64 A) ∧ wr.cell? ⟨w.heap.size, 1, none⟩ = some (.int .i64 B) ∧ wr.cell? ⟨w.heap.size, 2, none⟩ = some (.int .i64 C) := ⟨HG.out.f.cell rfl, HG.out.f.cell rfl, HG.out.f.cell rfl⟩
          clear mx mxy myy m1 m2 m3 m4 m5 m6 hpos z0 z1 hi hA1 hA2 hB1 hB2 hC1 hC2 hDD hd2 hx' hid hnm HM2 hgr hyd hy HG HM
          have jb : y ≤ 5000 := by have := HYD.out; have := HDD.out; omega
          go_wp2_with fail
          clear a0 a1 a2 w1 w2 w3 w4 w5 w6 w7' w8 hr hupd q1 q2
          have HM4 : Hid (InM Wn m (x * d + (y + 1)) d (gB d A B C x (y + 1))) := hide (by have h := HM3.out; rwa [gB_next d A B C x y i HIV.out, Nat.add_assoc] at h)
          go_roundw
          case rel => exact ⟨y + 1, by go_num, by have := HYD.out; omega, HG3, HM4⟩
          case measure => have := HYD.out; simp [intOf]; omega
        · have hye : y = d := by omega
          have q1 : decide ((y : Int) < (d : Int)) = false := by rw [decide_eq_false_iff_not]; omega
          have q2 : decide (y < d) = false := by rw [decide_eq_false_iff_not]; omega
          have HM4 : Hid (InM wr m ((x + 1) * d) d (gB d A B C (x + 1) 0)) := hide (by have h := HM.out; rwa [hye, gB_row, show x * d + d = (x + 1) * d by rw [Nat.add_mul, Nat.one_mul]] at h)
          have xb : x ≤ 5000 := by have := HXD.out; have := HDD.out; omega
          clear hye hyd hy HM
          go_wp2_with fail
          go_roundw
          case rel => exact ⟨x + 1, by go_num, by have := HXD.out; omega, HG, HM4⟩
          case measure => have := HXD.out; simp [intOf]; omega
    · have hxe : x = d := by omega
      have q1 : decide ((x : Int) < (d : Int)) = false := by rw [decide_eq_false_iff_not]; omega
      have q2 : decide (x < d) = false := by rw [decide_eq_false_iff_not]; omega
      have HM4 : Hid (InM wr m (d * d) d (gB d A B C d 0)) := hide (by have h := HM.out; rwa [hxe] at h)
      clear hxe hxd hx HM
      obtain ⟨Dm, hown, hism, hkeys⟩ := HM4.out
      have HISM := hide hism
      have HKEYS := hide hkeys
      clear hism hkeys HM4
      go_upto_region 19 with (fail)
      go_wp2_with (first | (at_range; refine wpList_range_own _ rfl _ 46 rfl 3 4 ikey Try.underlying46 _ m (d * d) Dm rfl hown ?_; intro w0 hrg0 hg0 hs0) | fail)
      go_frame
      have CDV := hide (fun (i : Nat) (hi : i < d) W => divisor_below (i : Int) (d : Int) W (by omega) (by have := HDD.out; omega) (by omega) (by have := HDD.out; omega))
      have CMD := hide (fun (i : Nat) (hi : i < d) W => mod_any (i : Int) (d : Int) W (by omega) (by have := HDD.out; omega) (by omega) (by have := HDD.out; omega))
      obtain ⟨i0, hi, hz0, hz1, hz2⟩ := info_partsG iinfoG
      have HO := hide (And.intro hi (And.intro hz0 (And.intro hz1 hz2)))
      clear hi hz0 hz1 hz2
      have HGT := hide (show gset d A B C = gset d a b c from gset_turn (by have := HDD.out.1; omega) ⟨HBG.out.1.det, by have h := HBG.out.1.va; unfold fval at h; exact h, HBG.out.1.vb, by have h := HBG.out.1.vc; unfold fval at h; exact h⟩)
      have HL0 : Hid (GL wr w0 m wr.heap.size (d * d) d A B C Dm (Maps.has Dm) (Maps.size Dm) (.slice none 0 0) []) := hide (GL.start HKEYS.out hrg0 ((Below.refl _ _).grown hg0 (Nat.le_refl _) (by simp)) hown.lt)
      obtain ⟨r0, hr0⟩ : ∃ ZZ, wr.heap.size = ZZ := ⟨_, rfl⟩
      have HR0 := hide hr0
      rw [hr0] at HL0
      (try rw [hr0])
      clear hr0 hrg0 hg0 hs0 hown HISM HBG HBD q1 q2
      go_loopw [9] (fun ov wz => ∃ (left : Lit → Bool) (cnt : Nat) (L : List Nat), Hid (GL wr wz m r0 (d * d) d A B C Dm left cnt ov L)) (fun _ wz => wz.rangeLeft m r0)
      case atStart => exact ⟨_, _, [], HL0⟩
      case round =>
        clear HL0
        obtain ⟨left, cnt, L, HL⟩ := hrel
        have hrg := HL.out.rg
        go_wp2_with (first | (at_next; refine wpList_next_ranges _ rfl _ rfl 3 ikey _ (Value.int .i64) Value.bool (fun _ _ h => pint_inv h) (fun _ _ h => pbool_inv h) m r0 (d * d) Dm left cnt rfl hrg (fun _ hl0 => ?_) (fun X bv kl y w1 cnt1 hx hlx _ _ hrg1 hlt hg1 hs1 hen => ?_)) | fail)
        · have HP : Hid (L.Perm (gset d A B C)) := hide (HL.out.perm (by have := HDD.out.1; omega) hl0)
          have HN := hide HL.out.row
          have HGZ : Hid (GS w wr A B C) := hide (by
            have k := HL.out.b
            exact HG.out.below (by rw [HR0.out]; exact k))
          have HLR : Hid (w.heap.size + 2 ≤ r0 + 1 ∧ r0 + 1 ≤ wr.heap.size) := hide ⟨by have := HLT.out; have := HL.out.lt; omega, HL.out.rg.lt⟩
          have HLN : Hid (L.length ≤ 10000) := hide (by have := HL.out.len; have := HDD.out; omega)
          clear hrg hl0 HL
          refine (sort_nrow _ (r0 + 1) _ L _ HLR.out.2 HLN.out HN.out HP.out (gset_sorted d A B C)).mono ?_
          rintro e w8 ⟨rfl, hn8, hb8⟩
          have HN8 := hide hn8
          have HLM : Hid ((gset d A B C).length ≤ 10000) := hide (by rw [← HP.out.length_eq]; exact HLN.out)
          have HGY := hide ((HGZ.out.cut hb8 HLR.out.1 HLR.out.2))
          have HS8 := hide (Nat.le_trans HLR.out.2 hb8.size)
          clear hn8 hb8 HP HN HGZ HLN
          go_wp2_with fail
          refine (compact_nrow _ (r0 + 1) _ _ HS8.out HLM.out HN8.out (gset_sorted d A B C)).mono ?_
          rintro e w9 ⟨rfl, hn9, hb9⟩
          have HN9 := hide hn9
          have HX := hide (HGY.out.cut hb9 HLR.out.1 HS8.out)
          clear hn9 hb9 HN8 HGY
          obtain ⟨s0, s1, y0, y1⟩ := HX.out.r.cells
          have HB := hide (below_fault (u := .int .i64 0) (v := .int .i64 0) HX.out.b (show w.heap.size ≤ w.heap.size + 1 by omega))
          obtain ⟨p0, p1⟩ := HX.out.r.put 0 0
          have HNE : Hid (NRow ((w9.setCell ⟨w.heap.size + 1, 0, none⟩ (.int .i64 0)).setCell ⟨w.heap.size + 1, 1, none⟩ (.int .i64 0)) w.heap.size u9 (gset d a b c)) := hide (by
            rw [← HGT.out]
            exact (HN9.out.cell (by have := HLR.out.1; omega) _ _).cell (by have := HLR.out.1; omega) _ _ |>.low (by have := HLR.out.1; omega))
          go_wp2_with fail
          exact bodyPost_ret (v := .tuple #[u9, fv (0, 0)]) (by simp [results, Try.results4, go_sem, fv, p0, p1]) rfl ⟨u9, rfl, HNE.out, HB.out⟩
        · obtain ⟨k, rfl, hkd, hkh, rfl⟩ := HL.out.key HKEYS.out hx hlx
          have HH := hide (And.intro hkd (And.intro hkh hlx))
          have hb1 := HL.out.b.grown hg1 (Nat.le_of_lt HL.out.rg.lt) (row := some r0) (fun k hk => by injection hk with hk; omega)
          have HB1 := hide hb1
          have HLX := hide hlx
          have HRG1 := hide hrg1
          have HROW : Hid (NRow w1 (r0 + 1) u9 L) := hide (HL.out.row.kept hg1 (Nat.lt_succ_self _))
          clear hx hlx hkh hb1 hrg1 hg1 hs1 hen
          by_cases hgk : Nat.gcd k d = 1
          · have CD1 := CDV.out k hkd w1
            rw [show Int.gcd (k : Int) (d : Int) = Nat.gcd k d from rfl, hgk] at CD1
            refine CD1.mono ?_
            rintro e w2 ⟨rfl, hb2⟩
            have CM1 := fun W => hide (CMD.out k hkd W)
            have hkm : (k : Int) % (d : Int) = (k : Int) := Int.emod_eq_of_lt (by omega) (by omega)
            rw [hkm] at CM1
            have HRG2 := hide (HRG1.out.kept (grown_of_below none hb2) (by simp) (by simp))
            have HROW2 := hide (HROW.out.below hb2)
            have HB2 := hide (HB1.out.trans (hb2.mono (by have := HRG1.out.lt; omega)))
            clear hb2 HRG1 HROW HB1 hkm hkd CD1
            go_wp2_with fail
            refine (CM1 _).out.mono ?_
            rintro e w7 ⟨rfl, rfl⟩
            have HRX := hide (HROW2.out.below ((Below.refl _ _).alloc (Nat.le_refl _) (.cells #[.int .i64 (k : Nat)] 3)))
            have HB7 := hide (HB2.out.alloc (Nat.le_of_lt HRG2.out.lt) (.cells #[.int .i64 (k : Nat)] 3))
            have HRG7 := hide (HRG2.out.alloc (.cells #[.int .i64 (k : Nat)] 3))
            have HLN : Hid (L.length ≤ 2000) := hide (by have := HL.out.len; have := HDD.out; omega)
            clear CM1
            go_wp2_with (at_builtin; refine wpList_append_own _ rfl _ _ 24 rfl (r0 + 1) 3 i0 (.int .i64 0) 1 8 Try.underlying24 HO.out.1 HO.out.2.1 HO.out.2.2.1 HO.out.2.2.2 rfl (by decide) u9 _ _ rfl HRX.out ⟨w2.heap.size, 0, none⟩ 1 1 [.int .i64 (k : Nat)] rfl rfl (one_newG w2 _ _) ?c2 ?c3 ?c4 ?c5 ?_)
            case c2 => intro u hu; simp at hu; subst hu; rfl
            case c3 => have := HLN.out; simp only [maxLen]; omega
            case c4 => have := HLN.out; omega
            case c5 => have := HRG7.out.lt; simp at this ⊢; omega
            intro v' w8 hown hg _
            have HR8 : Hid (NRow w8 (r0 + 1) v' (L ++ [k])) := hide (by
              unfold NRow
              rw [List.map_append, List.length_append]
              exact hown)
            have HB8 := hide (HB7.out.grown hg (Nat.le_of_lt HRG7.out.lt) (fun j hj => Nat.le_of_succ_le (HRX.out.base j hj)))
            have HRG8 := hide (HRG7.out.kept hg (fun e => by have := HRX.out.base m e.symm; have := HL.out.lt; omega) (fun e => by have := HRX.out.base r0 e.symm; omega))
            have HNEW := hide (HL.out.take hgk HH.out.1 HH.out.2.1 HLX.out HRG8.out HB8.out HR8.out)
            clear hown hg HR8 HB8 HRX HB7 HRG7
            go_wp2_with fail
            go_roundw
            case rel => exact ⟨_, _, _, HNEW⟩
            case measure => rw [HRG8.out.left_eq, HL.out.rg.left_eq]; exact hlt
          · have CD1 := CDV.out k hkd w1
            rw [show Int.gcd (k : Int) (d : Int) = Nat.gcd k d from rfl] at CD1
            refine CD1.mono ?_
            rintro e w2 ⟨rfl, hb2⟩
            have HRG2 := hide (HRG1.out.kept (grown_of_below none hb2) (by simp) (by simp))
            have HROW2 := hide (HROW.out.below hb2)
            have HB2 := hide (HB1.out.trans (hb2.mono (by have := HRG1.out.lt; omega)))
            have HNEW := hide (HL.out.skip hgk HRG2.out HB2.out HROW2.out)
            have g1 : (((Nat.gcd k d : Nat) : Int) == 1) = false := by simp; omega
            obtain ⟨G, hG⟩ : ∃ z : Int, ((Nat.gcd k d : Nat) : Int) = z := ⟨_, rfl⟩
            rw [hG] at g1
            rw [hG]
            clear hb2 HRG1 HROW HB1 hkd hgk CD1 hG
            go_wp2_with fail
            go_roundw
            case rel => exact ⟨_, _, _, HNEW⟩
            case measure => rw [HRG2.out.left_eq, HL.out.rg.left_eq]; exact hlt
end Go.Proofs.Ytkfjjljdhfjpbaa
