/- The walk of the law PadicHensel. -/
import Derived.Test.YticgnjapgbjfiaaDoorPadF
import Derived.Test.YticgnjapgbjfiaaDoorPadH
import Derived.Test.YticgnjapgbjfiaaDoorPadG
import Derived.Test.YticgnjapgbjfiaaDoorPadB
import Derived.Test.YticgnjapgbjfiaaDoorSlices
import Derived.Deep.DeepCutAuto
namespace Go.Proofs.YticgnjapgbjfiaaDoor
open Go.RowKit

theorem Ints.far {w : World} {B : Nat} {A : Option Addr} {l : List Int} (h : Ints w B A l) {p : Addr} (hp : B ≤ p.block) (v : Value) : Ints (w.setCell p v) B A l :=
  ⟨fun j x hx => by
    obtain ⟨ad, e, hb, hc⟩ := h.cell j x hx
    refine ⟨ad, e, hb, ?_⟩
    rw [show (w.setCell p v).cell? (ad.add j) = w.cell? (ad.add j) from by
      unfold World.cell?
      rw [Below.heap_setCell _ _ _ _ (by rw [add_block]; omega)]]
    exact hc⟩
theorem FC.far {w : World} {g : Nat} {a b : Int} (h : FC w g a b) {p : Addr} (hp : g ≠ p.block) (v : Value) : FC (w.setCell p v) g a b := (Below.heap_setCell _ _ _ _ hp).trans h

/-- the blocks of the law's frame -/
structure HnSt (w W : World) (n1 n2 : Nat) (u v : Int × Int) (A A1 : Option Addr) (l : List Int) : Prop where
  f : FC W n1 u.1 u.2
  w_ : FC W n2 v.1 v.2
  o_ : Ints W n1 A1 l
  l_ : Ints W w.heap.size A l
  n12 : n1 < n2
  lo : w.heap.size ≤ n1
  b : Below w.heap.size w W
theorem HnSt.below {w W W' : World} {n1 n2 : Nat} {u v : Int × Int} {A A1 : Option Addr} {l : List Int} (h : HnSt w W n1 n2 u v A A1 l) (k : Below W.heap.size W W') : HnSt w W' n1 n2 u v A A1 l :=
  ⟨h.f.below k, h.w_.below k, h.o_.below k (Nat.le_of_lt h.f.lt), h.l_.below k h.b.size, h.n12, h.lo, h.b.trans (k.mono h.b.size)⟩
theorem HnSt.setw {w W : World} {n1 n2 : Nat} {u v : Int × Int} {A A1 : Option Addr} {l : List Int} (h : HnSt w W n1 n2 u v A A1 l) (x y : Int) :
    HnSt w ((W.setCell ⟨n2, 0, none⟩ (.int .i64 x)).setCell ⟨n2, 1, none⟩ (.int .i64 y)) n1 n2 u (x, y) A A1 l := by
  have a1 := h.n12
  have a2 := h.lo
  exact ⟨(h.f.far (p := ⟨n2, 0, none⟩) (by show n1 ≠ n2; omega) _).far (p := ⟨n2, 1, none⟩) (by show n1 ≠ n2; omega) _, (h.w_.set0 x).set1 y, (h.o_.far (p := ⟨n2, 0, none⟩) (by show n1 ≤ n2; omega) _).far (p := ⟨n2, 1, none⟩) (by show n1 ≤ n2; omega) _, (h.l_.far (p := ⟨n2, 0, none⟩) (by show w.heap.size ≤ n2; omega) _).far (p := ⟨n2, 1, none⟩) (by show w.heap.size ≤ n2; omega) _, a1, a2, below_fault h.b (by omega)⟩

set_option maxRecDepth 100000 in
set_option maxHeartbeats 12800000 in
theorem hensel_law (p k : Int) (A : Option Addr) (n c : Nat) (l : List Int) (x : Int) (w : World) (hT : TabW w) (h1 : Ints w w.heap.size A l ∧ l.length = n ∧ n * 8 ≤ 140737488351232 ∧ (A = none → n = 0 ∧ c = 0)) (hp0 : -9223372036854775808 ≤ p) (hx0 : -9223372036854775808 ≤ x) (hx1 : x ≤ 9223372036854775807) :
    Calls Tryd.prog 3 #[.int .i64 p, .int .i64 k, .slice A n c, .int .i64 x] w fun e w' => e = .returned (.bool true) ∧ Below w.heap.size w w' := by
  have H1 := hide h1
  have HT := hide hT
  have CB := fun W (hW : TabW W) => hide (padicBegun_any W hW)
  have CF := fun c i W => hide (refF_any c i W)
  have CP := fun W => hide (padicFault_any p k W hp0)
  have HXB := hide (And.intro hx0 hx1)
  clear h1 hT hp0 hx0 hx1
  go_enter Tryd.func3, Tryd.ntmps3
  go_wp2_with (at_builtin; refine wpList_copy_ints rfl _ _ rfl rfl w.heap.size A n c l rfl H1.out.2.1 H1.out.1 H1.out.2.2.2 (by have := H1.out.2.2.1; omega) ?_)
  intro A1 c1 w1 hI hb
  have B1 := hide hb
  have I1 := hide hI
  have CL := hide (lift_any A1 n c1 p k l x w1 (HT.out.below B1.out) H1.out.2.1 (by have := H1.out.2.2.1; omega) I1.out)
  clear hI hb
  go_wp2_with fail
  refine CL.out.mono ?_
  rintro e w2 ⟨y, rfl, hy1, hy2, hb⟩
  have HY := hide (And.intro hy1 hy2)
  have B2 := hide (B1.out.trans (hb.mono B1.out.size))
  have I2 := hide ((I1.out.below hb (Nat.le_refl _)).more hb.size)
  clear hy1 hy2 hb CL I1
  obtain ⟨⟨u1, u2⟩, hu⟩ : ∃ d, lifF p k l x = d := ⟨_, rfl⟩
  rw [hu] at HY ⊢
  simp only [fv]
  have HU := hide hu
  have F1 := hide (FC.made w2 u1 u2)
  have B3 := hide (B2.out.alloc B2.out.size (.cells #[.int .i64 u1, .int .i64 u2] 24))
  have I3 := hide (I2.out.below ((Below.refl _ _).alloc (Nat.le_refl _) (.cells #[.int .i64 u1, .int .i64 u2] 24)) (Nat.le_refl _))
  clear hu
  go_wp2_with fail
  refine (CP _).out.mono ?_
  rintro e w3 ⟨rfl, hb⟩
  have F2 := hide (F1.out.below hb)
  have B4 := hide (B3.out.trans (hb.mono B3.out.size))
  have I4 := hide (I3.out.below hb (by simp))
  have hl23 : w2.heap.size < w3.heap.size := F2.out.lt
  clear hb F1 I3 I2 B3 CP
  obtain ⟨M, hM⟩ : ∃ M, (if (padF p k).1 = 0 then p ^ k.toNat else 0) = M := ⟨_, rfl⟩
  rw [hM]
  obtain ⟨⟨v1, v2⟩, hv⟩ : ∃ d, padF p k = d := ⟨_, rfl⟩
  rw [hv]
  simp only [fv]
  have HV := hide hv
  have HM := hide hM
  have HS0 : Hid (HnSt w (w3.alloc (.cells #[.int .i64 v1, .int .i64 v2] 24)) w2.heap.size w3.heap.size (u1, u2) (v1, v2) A A1 l) := by
    have K2 : Below w3.heap.size w3 (w3.alloc (.cells #[.int .i64 v1, .int .i64 v2] 24)) := (Below.refl _ _).alloc (Nat.le_refl _) _
    exact ⟨F2.out.below K2, FC.made w3 v1 v2, I4.out.below K2 (by omega), (H1.out.1.below B4.out (Nat.le_refl _)).below K2 B4.out.size, hl23, B2.out.size, B4.out.trans (K2.mono B4.out.size)⟩
  clear hv hM F2 B4 I4
  obtain ⟨x0, x1, x2, x3⟩ := HS0.out.w_.cells
  go_upto_region 4 with (fail)
  clear x0 x1 x2 x3
  obtain ⟨W0, hW0⟩ : ∃ W, w3.alloc (.cells #[.int .i64 v1, .int .i64 v2] 24) = W := ⟨_, rfl⟩
  rw [hW0] at HS0 ⊢
  clear hW0
  by_cases ha : v1 = 0
  · as_aux_lemma =>
      subst ha
      have hok := padF_ok (p := p) (k := k) (by rw [HV.out])
      obtain rfl : v2 = 0 := by have := HV.out.symm.trans hok.1; exact (Prod.mk.inj this).2
      have hz : (padF p k).1 = 0 := by rw [HV.out]
      have HPP := hide hok
      have CQ := fun W (hI : Ints W W.heap.size A l) => hide (polyFault_ref A n c l W H1.out.2.1 (by have := H1.out.2.2.1; omega) hI)
      have HMM : Hid (p ^ k.toNat = M) := by have := HM.out; rwa [if_pos hz] at this
      obtain ⟨⟨i2, j2⟩, hq⟩ : ∃ F, polF l = F := ⟨_, rfl⟩
      unfold RetFault at CQ
      rw [hq] at CQ
      simp only [fv] at CQ
      have HQ := hide hq
      have HZ := hide hz
      clear hok hz hq
      obtain ⟨x0, x1, x2, x3⟩ := HS0.out.w_.cells
      go_wp2_with fail
      refine (CQ _ (HS0.out.l_.more HS0.out.b.size)).out.mono ?_
      rintro e wa1 ⟨rfl, hb⟩
      have HS1 := hide (HS0.out.below hb)
      clear hb HS0
      by_cases hb : i2 = 0
      · as_aux_lemma =>
          subst hb
          have hfit := polF_fits (l := l) (by rw [HQ.out])
          obtain rfl : j2 = 0 := by have := HQ.out.symm.trans hfit.1; exact (Prod.mk.inj this).2
          have hall : l.all okB = true := by
            cases hb : l.all okB with
            | true => rfl
            | false => have := polF_bad (l := l) (by omega) hb; rw [HQ.out] at this; simp at this
          have HFit : Hid (∀ c ∈ l, c.natAbs ≤ 1000000000000000000) := fun c hc => by
            have := ok_bounds (List.all_eq_true.1 hall c hc)
            omega
          have HN13 : Hid (n ≤ 13) := by have := hfit.2.1; rw [H1.out.2.1] at this; exact this
          have HL3 := hide (lif3 (x := x) HZ.out (by rw [HQ.out]))
          clear hfit hall
          clear x0 x1 x2 x3
          obtain ⟨x0, x1, x2, x3⟩ := HS1.out.w_.cells
          obtain ⟨p0, p1⟩ := HS1.out.w_.put 0 0
          have HS2 := hide (HS1.out.setw 0 0)
          go_upto_region 6 with (fail)
          clear HS1 x0 x1 x2 x3 p0 p1
          obtain ⟨W2, hW2⟩ : ∃ W, (wa1.setCell ⟨w3.heap.size, 0, none⟩ (.int .i64 0)).setCell ⟨w3.heap.size, 1, none⟩ (.int .i64 0) = W := ⟨_, rfl⟩
          rw [hW2] at HS2 ⊢
          clear hW2
          obtain ⟨x0, x1, x2, x3⟩ := HS2.out.w_.cells
          by_cases hx : x < 0 ∨ p ≤ x
          · as_aux_lemma =>
              obtain ⟨rfl, rfl⟩ : u1 = 3 ∧ u2 = 3 := by have := HU.out.symm.trans (HL3.out.trans (if_pos hx)); exact Prod.mk.inj this
              obtain rfl := HY.out.2 (by simp)
              have hh : decide (x < 0) = true ∨ (decide (x < 0) = false ∧ decide (p ≤ x) = true) := by simp only [decide_eq_true_eq, decide_eq_false_iff_not]; omega
              clear hx HU HY HL3 HM HMM HPP
              rcases hh with q1 | ⟨q1, q2⟩
              · skip
                go_wp2_with fail
                refine (CF 3 3 _).out.mono ?_
                rintro e wa3 ⟨rfl, hb⟩
                have HS3 := hide (HS2.out.below hb)
                clear hb HS2
                clear x0 x1 x2 x3
                obtain ⟨x0, x1, x2, x3⟩ := HS3.out.w_.cells
                obtain ⟨p0, p1⟩ := HS3.out.w_.put 3 3
                have HS4 := hide (HS3.out.setw 3 3)
                go_upto_region 8 with (fail)
                clear HS3 x0 x1 x2 x3 p0 p1
                obtain ⟨W4, hW4⟩ : ∃ W, (wa3.setCell ⟨w3.heap.size, 0, none⟩ (.int .i64 3)).setCell ⟨w3.heap.size, 1, none⟩ (.int .i64 3) = W := ⟨_, rfl⟩
                rw [hW4] at HS4 ⊢
                clear hW4
                obtain ⟨x0, x1, x2, x3⟩ := HS4.out.w_.cells
                obtain ⟨a0, a1, a2, a3⟩ := HS4.out.f.cells
                go_wp2_with fail
                refine (CB _ (HT.out.below HS4.out.b)).out.mono ?_
                rintro e wa5 ⟨rfl, hb⟩
                have HS5 := hide (HS4.out.below hb)
                clear hb HS4
                clear a0 a1 a2 a3 x0 x1 x2 x3
                obtain ⟨a0, a1, a2, a3⟩ := HS5.out.f.cells
                obtain ⟨x0, x1, x2, x3⟩ := HS5.out.w_.cells
                have CI := hide (ints_same A1 A n c1 c l wa5 H1.out.2.1 (by have := H1.out.2.2.1; omega) (HS5.out.o_.more (Nat.le_of_lt HS5.out.f.lt)) (HS5.out.l_.more HS5.out.b.size))
                go_wp2_with fail
                refine CI.out.mono ?_
                rintro e wa6 ⟨rfl, kk, rfl⟩
                have HS6 := hide (HS5.out.below (below_drewN (Below.refl _ _) kk))
                clear HS5 a0 a1 a2 a3 x0 x1 x2 x3
                obtain ⟨x0, x1, x2, x3⟩ := HS6.out.w_.cells
                go_wp2_with fail
                go_ret
                exact ⟨rfl, HS6.out.b⟩
              · skip
                go_wp2_with fail
                refine (CF 3 3 _).out.mono ?_
                rintro e wa3 ⟨rfl, hb⟩
                have HS3 := hide (HS2.out.below hb)
                clear hb HS2
                clear x0 x1 x2 x3
                obtain ⟨x0, x1, x2, x3⟩ := HS3.out.w_.cells
                obtain ⟨p0, p1⟩ := HS3.out.w_.put 3 3
                have HS4 := hide (HS3.out.setw 3 3)
                go_upto_region 8 with (fail)
                clear HS3 x0 x1 x2 x3 p0 p1
                obtain ⟨W4, hW4⟩ : ∃ W, (wa3.setCell ⟨w3.heap.size, 0, none⟩ (.int .i64 3)).setCell ⟨w3.heap.size, 1, none⟩ (.int .i64 3) = W := ⟨_, rfl⟩
                rw [hW4] at HS4 ⊢
                clear hW4
                obtain ⟨x0, x1, x2, x3⟩ := HS4.out.w_.cells
                obtain ⟨a0, a1, a2, a3⟩ := HS4.out.f.cells
                go_wp2_with fail
                refine (CB _ (HT.out.below HS4.out.b)).out.mono ?_
                rintro e wa5 ⟨rfl, hb⟩
                have HS5 := hide (HS4.out.below hb)
                clear hb HS4
                clear a0 a1 a2 a3 x0 x1 x2 x3
                obtain ⟨a0, a1, a2, a3⟩ := HS5.out.f.cells
                obtain ⟨x0, x1, x2, x3⟩ := HS5.out.w_.cells
                have CI := hide (ints_same A1 A n c1 c l wa5 H1.out.2.1 (by have := H1.out.2.2.1; omega) (HS5.out.o_.more (Nat.le_of_lt HS5.out.f.lt)) (HS5.out.l_.more HS5.out.b.size))
                go_wp2_with fail
                refine CI.out.mono ?_
                rintro e wa6 ⟨rfl, kk, rfl⟩
                have HS6 := hide (HS5.out.below (below_drewN (Below.refl _ _) kk))
                clear HS5 a0 a1 a2 a3 x0 x1 x2 x3
                obtain ⟨x0, x1, x2, x3⟩ := HS6.out.w_.cells
                go_wp2_with fail
                go_ret
                exact ⟨rfl, HS6.out.b⟩
          · as_aux_lemma =>
              have hx2 : 0 ≤ x ∧ x < p := by omega
              have HL4 := hide (HL3.out.trans (if_neg hx))
              have q1 : decide (x < 0) = false := by rw [decide_eq_false_iff_not]; omega
              have q2 : decide (p ≤ x) = false := by rw [decide_eq_false_iff_not]; omega
              have hpb : 2 ≤ p ∧ p ≤ 1000000 := ⟨HPP.out.2.1, HPP.out.2.2.1⟩
              have HPB := hide hpb
              have HX2 := hide hx2
              have CA := fun W (hI : Ints W W.heap.size A l) => hide (at_ref A n c l x p W H1.out.2.1 HN13.out hI HFit.out (by omega) (by omega) (by omega))
              have CS := fun W (hI : Ints W W.heap.size A l) => hide (slopeAt_ref A n c l x p W H1.out.2.1 HN13.out hI HFit.out (by omega) (by omega) (by omega))
              obtain ⟨Z, hZ⟩ : ∃ Z, pv l x % p = Z := ⟨_, rfl⟩
              obtain ⟨D, hD⟩ : ∃ D, dv l x % p = D := ⟨_, rfl⟩
              rw [hZ, hD] at HL4
              rw [hZ] at CA
              rw [hD] at CS
              clear hx hx2 hpb hZ hD
              go_wp2_with fail
              refine (CA _ (HS2.out.l_.more HS2.out.b.size)).out.mono ?_
              rintro e wa3 ⟨rfl, hb⟩
              have HS3 := hide (HS2.out.below hb)
              clear hb HS2
              clear x0 x1 x2 x3
              obtain ⟨x0, x1, x2, x3⟩ := HS3.out.w_.cells
              by_cases hz : Z = 0
              · as_aux_lemma =>
                  subst hz
                  have HL5 := hide (HL4.out.trans (if_neg (by simp)))
                  clear HL4 CA
                  go_wp2_with fail
                  refine (CS _ (HS3.out.l_.more HS3.out.b.size)).out.mono ?_
                  rintro e wa4 ⟨rfl, hb⟩
                  have HS4 := hide (HS3.out.below hb)
                  clear hb HS3
                  clear x0 x1 x2 x3
                  obtain ⟨x0, x1, x2, x3⟩ := HS4.out.w_.cells
                  by_cases hd : D = 0
                  · as_aux_lemma =>
                      subst hd
                      obtain ⟨rfl, rfl⟩ : u1 = 6 ∧ u2 = 3 := by have := HU.out.symm.trans (HL5.out.trans (if_pos rfl)); exact Prod.mk.inj this
                      obtain rfl := HY.out.2 (by simp)
                      clear HU HY HL5 HM HMM HPP CS
                      go_wp2_with fail
                      refine (CF 6 3 _).out.mono ?_
                      rintro e wa5 ⟨rfl, hb⟩
                      have HS5 := hide (HS4.out.below hb)
                      clear hb HS4
                      clear x0 x1 x2 x3
                      obtain ⟨x0, x1, x2, x3⟩ := HS5.out.w_.cells
                      obtain ⟨p0, p1⟩ := HS5.out.w_.put 6 3
                      have HS6 := hide (HS5.out.setw 6 3)
                      go_upto_region 12 with (fail)
                      clear HS5 x0 x1 x2 x3 p0 p1
                      obtain ⟨W6, hW6⟩ : ∃ W, (wa5.setCell ⟨w3.heap.size, 0, none⟩ (.int .i64 6)).setCell ⟨w3.heap.size, 1, none⟩ (.int .i64 3) = W := ⟨_, rfl⟩
                      rw [hW6] at HS6 ⊢
                      clear hW6
                      obtain ⟨x0, x1, x2, x3⟩ := HS6.out.w_.cells
                      obtain ⟨a0, a1, a2, a3⟩ := HS6.out.f.cells
                      go_wp2_with fail
                      refine (CB _ (HT.out.below HS6.out.b)).out.mono ?_
                      rintro e wa7 ⟨rfl, hb⟩
                      have HS7 := hide (HS6.out.below hb)
                      clear hb HS6
                      clear a0 a1 a2 a3 x0 x1 x2 x3
                      obtain ⟨a0, a1, a2, a3⟩ := HS7.out.f.cells
                      obtain ⟨x0, x1, x2, x3⟩ := HS7.out.w_.cells
                      have CI := hide (ints_same A1 A n c1 c l wa7 H1.out.2.1 (by have := H1.out.2.2.1; omega) (HS7.out.o_.more (Nat.le_of_lt HS7.out.f.lt)) (HS7.out.l_.more HS7.out.b.size))
                      go_wp2_with fail
                      refine CI.out.mono ?_
                      rintro e wa8 ⟨rfl, kk, rfl⟩
                      have HS8 := hide (HS7.out.below (below_drewN (Below.refl _ _) kk))
                      clear HS7 a0 a1 a2 a3 x0 x1 x2 x3
                      obtain ⟨x0, x1, x2, x3⟩ := HS8.out.w_.cells
                      go_wp2_with fail
                      go_ret
                      exact ⟨rfl, HS8.out.b⟩
                  · as_aux_lemma =>
                      have q3 : (D == 0) = false := by simpa using hd
                      obtain ⟨rfl, rfl⟩ : u1 = 0 ∧ u2 = 0 := by have := HU.out.symm.trans (HL5.out.trans (if_neg hd)); exact Prod.mk.inj this
                      have hy := HY.out.1 rfl
                      obtain ⟨y0, y1, y2, y3⟩ := hy
                      rw [HMM.out] at y1 y3
                      have HYB : Hid (0 ≤ y ∧ y < M ∧ 0 < M ∧ M ≤ 1000000000000000000 ∧ y.tmod p = x ∧ pv l y % M = 0) := ⟨y0, y1, by omega, by have := HPP.out.2.2.2.2.2.2; rw [HMM.out] at this; exact this, by rw [Int.tmod_eq_emod_of_nonneg y0]; exact y2, Int.emod_eq_zero_of_dvd y3⟩
                      clear hd HL5 y0 y1 y2 y3 HU HM CS
                      obtain ⟨a0, a1, a2, a3⟩ := HS4.out.f.cells
                      go_wp2_with fail
                      refine (CB _ (HT.out.below HS4.out.b)).out.mono ?_
                      rintro e wa5 ⟨rfl, hb⟩
                      have HS5 := hide (HS4.out.below hb)
                      clear hb HS4
                      clear a0 a1 a2 a3 x0 x1 x2 x3
                      obtain ⟨a0, a1, a2, a3⟩ := HS5.out.f.cells
                      obtain ⟨x0, x1, x2, x3⟩ := HS5.out.w_.cells
                      have CI := hide (ints_same A1 A n c1 c l wa5 H1.out.2.1 (by have := H1.out.2.2.1; omega) (HS5.out.o_.more (Nat.le_of_lt HS5.out.f.lt)) (HS5.out.l_.more HS5.out.b.size))
                      go_wp2_with fail
                      refine CI.out.mono ?_
                      rintro e wa6 ⟨rfl, kk, rfl⟩
                      have HS6 := hide (HS5.out.below (below_drewN (Below.refl _ _) kk))
                      clear HS5 a0 a1 a2 a3 x0 x1 x2 x3
                      obtain ⟨x0, x1, x2, x3⟩ := HS6.out.w_.cells
                      have CA2 := hide (at_ref A n c l y M _ H1.out.2.1 HN13.out (HS6.out.l_.more HS6.out.b.size) HFit.out (by have := HYB.out; omega) HYB.out.2.2.1 HYB.out.2.2.2.1)
                      rw [HYB.out.2.2.2.2.2] at CA2
                      have ee := HYB.out.2.2.2.2.1
                      have q5 : decide (y < M) = true := by have := HYB.out; rw [decide_eq_true_eq]; omega
                      have q6 : decide (0 ≤ y) = true := by have := HYB.out; rw [decide_eq_true_eq]; omega
                      have hP0 : ¬ p = 0 := by have := HPP.out; omega
                      go_wp2_with fail
                      refine CA2.out.mono ?_
                      rintro e wa7 ⟨rfl, hb⟩
                      have HS7 := hide (HS6.out.below hb)
                      clear hb
                      go_wp2_with fail
                      go_ret
                      exact ⟨rfl, HS7.out.b⟩
              · as_aux_lemma =>
                  have q3 : (Z != 0) = true := by simpa using hz
                  obtain ⟨rfl, rfl⟩ : u1 = 10 ∧ u2 = 3 := by have := HU.out.symm.trans (HL4.out.trans (if_pos hz)); exact Prod.mk.inj this
                  obtain rfl := HY.out.2 (by simp)
                  clear hz HU HY HL4 HM HMM HPP CS CA
                  go_wp2_with fail
                  refine (CF 10 3 _).out.mono ?_
                  rintro e wa4 ⟨rfl, hb⟩
                  have HS4 := hide (HS3.out.below hb)
                  clear hb HS3
                  clear x0 x1 x2 x3
                  obtain ⟨x0, x1, x2, x3⟩ := HS4.out.w_.cells
                  obtain ⟨p0, p1⟩ := HS4.out.w_.put 10 3
                  have HS5 := hide (HS4.out.setw 10 3)
                  go_upto_region 10 with (fail)
                  clear HS4 x0 x1 x2 x3 p0 p1
                  obtain ⟨W5, hW5⟩ : ∃ W, (wa4.setCell ⟨w3.heap.size, 0, none⟩ (.int .i64 10)).setCell ⟨w3.heap.size, 1, none⟩ (.int .i64 3) = W := ⟨_, rfl⟩
                  rw [hW5] at HS5 ⊢
                  clear hW5
                  obtain ⟨x0, x1, x2, x3⟩ := HS5.out.w_.cells
                  obtain ⟨a0, a1, a2, a3⟩ := HS5.out.f.cells
                  go_wp2_with fail
                  refine (CB _ (HT.out.below HS5.out.b)).out.mono ?_
                  rintro e wa6 ⟨rfl, hb⟩
                  have HS6 := hide (HS5.out.below hb)
                  clear hb HS5
                  clear a0 a1 a2 a3 x0 x1 x2 x3
                  obtain ⟨a0, a1, a2, a3⟩ := HS6.out.f.cells
                  obtain ⟨x0, x1, x2, x3⟩ := HS6.out.w_.cells
                  have CI := hide (ints_same A1 A n c1 c l wa6 H1.out.2.1 (by have := H1.out.2.2.1; omega) (HS6.out.o_.more (Nat.le_of_lt HS6.out.f.lt)) (HS6.out.l_.more HS6.out.b.size))
                  go_wp2_with fail
                  refine CI.out.mono ?_
                  rintro e wa7 ⟨rfl, kk, rfl⟩
                  have HS7 := hide (HS6.out.below (below_drewN (Below.refl _ _) kk))
                  clear HS6 a0 a1 a2 a3 x0 x1 x2 x3
                  obtain ⟨x0, x1, x2, x3⟩ := HS7.out.w_.cells
                  go_wp2_with fail
                  go_ret
                  exact ⟨rfl, HS7.out.b⟩
      · as_aux_lemma =>
          obtain ⟨rfl, rfl⟩ : u1 = i2 ∧ u2 = j2 := by have := HU.out.symm.trans ((lif2 HZ.out (by rw [HQ.out]; exact hb)).trans HQ.out); exact Prod.mk.inj this
          obtain rfl := HY.out.2 hb
          have q1 : (u1 == 0) = false := by simpa using hb
          have q2 : (u1 != 0) = true := by simpa using hb
          clear hb HU HY HM HMM HPP HQ
          clear x0 x1 x2 x3
          obtain ⟨x0, x1, x2, x3⟩ := HS1.out.w_.cells
          obtain ⟨p0, p1⟩ := HS1.out.w_.put u1 u2
          have HS2 := hide (HS1.out.setw u1 u2)
          go_upto_region 6 with (fail)
          clear HS1 x0 x1 x2 x3 p0 p1
          obtain ⟨W2, hW2⟩ : ∃ W, (wa1.setCell ⟨w3.heap.size, 0, none⟩ (.int .i64 u1)).setCell ⟨w3.heap.size, 1, none⟩ (.int .i64 u2) = W := ⟨_, rfl⟩
          rw [hW2] at HS2 ⊢
          clear hW2
          obtain ⟨x0, x1, x2, x3⟩ := HS2.out.w_.cells
          obtain ⟨a0, a1, a2, a3⟩ := HS2.out.f.cells
          go_wp2_with fail
          refine (CB _ (HT.out.below HS2.out.b)).out.mono ?_
          rintro e wa3 ⟨rfl, hb⟩
          have HS3 := hide (HS2.out.below hb)
          clear hb HS2
          clear a0 a1 a2 a3 x0 x1 x2 x3
          obtain ⟨a0, a1, a2, a3⟩ := HS3.out.f.cells
          obtain ⟨x0, x1, x2, x3⟩ := HS3.out.w_.cells
          have CI := hide (ints_same A1 A n c1 c l wa3 H1.out.2.1 (by have := H1.out.2.2.1; omega) (HS3.out.o_.more (Nat.le_of_lt HS3.out.f.lt)) (HS3.out.l_.more HS3.out.b.size))
          go_wp2_with fail
          refine CI.out.mono ?_
          rintro e wa4 ⟨rfl, kk, rfl⟩
          have HS4 := hide (HS3.out.below (below_drewN (Below.refl _ _) kk))
          clear HS3 a0 a1 a2 a3 x0 x1 x2 x3
          obtain ⟨x0, x1, x2, x3⟩ := HS4.out.w_.cells
          go_wp2_with fail
          go_ret
          exact ⟨rfl, HS4.out.b⟩
  · as_aux_lemma =>
      obtain ⟨rfl, rfl⟩ : u1 = v1 ∧ u2 = v2 := by
        have := HU.out.symm.trans ((lif1 (by rw [HV.out]; exact ha)).trans HV.out)
        exact Prod.mk.inj this
      obtain rfl := HY.out.2 ha
      have q1 : (u1 == 0) = false := by simpa using ha
      have q2 : (u1 != 0) = true := by simpa using ha
      clear ha HU HV HY HM
      obtain ⟨x0, x1, x2, x3⟩ := HS0.out.w_.cells
      obtain ⟨a0, a1, a2, a3⟩ := HS0.out.f.cells
      go_wp2_with fail
      refine (CB _ (HT.out.below HS0.out.b)).out.mono ?_
      rintro e wa1 ⟨rfl, hb⟩
      have HS1 := hide (HS0.out.below hb)
      clear hb HS0
      clear a0 a1 a2 a3 x0 x1 x2 x3
      obtain ⟨a0, a1, a2, a3⟩ := HS1.out.f.cells
      obtain ⟨x0, x1, x2, x3⟩ := HS1.out.w_.cells
      have CI := hide (ints_same A1 A n c1 c l wa1 H1.out.2.1 (by have := H1.out.2.2.1; omega) (HS1.out.o_.more (Nat.le_of_lt HS1.out.f.lt)) (HS1.out.l_.more HS1.out.b.size))
      go_wp2_with fail
      refine CI.out.mono ?_
      rintro e wa2 ⟨rfl, kk, rfl⟩
      have HS2 := hide (HS1.out.below (below_drewN (Below.refl _ _) kk))
      clear HS1 a0 a1 a2 a3 x0 x1 x2 x3
      obtain ⟨x0, x1, x2, x3⟩ := HS2.out.w_.cells
      go_wp2_with fail
      go_ret
      exact ⟨rfl, HS2.out.b⟩

theorem wf_low {n : Int} (h : (Lit.int .i64 n).wf = true) : -9223372036854775808 ≤ n := by
  have h1 : IntKind.i64.min = -9223372036854775808 := rfl
  have h2 : IntKind.i64.max = 9223372036854775807 := rfl
  simp only [Lit.wf, Bool.and_eq_true, decide_eq_true_eq] at h
  omega
theorem wf_high {n : Int} (h : (Lit.int .i64 n).wf = true) : n ≤ 9223372036854775807 := by
  have h1 : IntKind.i64.min = -9223372036854775808 := rfl
  have h2 : IntKind.i64.max = 9223372036854775807 := rfl
  simp only [Lit.wf, Bool.and_eq_true, decide_eq_true_eq] at h
  omega
theorem hensel_any (p k : Int) (A : Option Addr) (n c : Nat) (z : List Int) (x : Int) (w : World) (hT : TabW w) (w0 : (Lit.int .i64 p).wf = true) (_ : (Lit.int .i64 k).wf = true) (w2 : IsRow .i64 w A n c z) (w3 : (Lit.int .i64 x).wf = true) :
    Calls Tryd.prog 3 #[.int .i64 p, .int .i64 k, .slice A n c, .int .i64 x] w fun e w' => e = .returned (.bool true) ∧ Below w.heap.size w w' := by
  have a := w2.ints
  exact hensel_law p k A n c _ x w hT ⟨a.1, a.2.1, a.2.2.1, a.2.2.2.1⟩ (wf_low w0) (wf_low w3) (wf_high w3)
end Go.Proofs.YticgnjapgbjfiaaDoor
