/- The walk of padic.Lift. -/
import Derived.Test.YticgnjapgbjfiaaDoorPadD
import Derived.Test.YticgnjapgbjfiaaDoorPadC
import Derived.Test.YticgnjapgbjfiaaDoorWholeC
namespace Go.Proofs.YticgnjapgbjfiaaDoor
open Go.RowKit

/-- Lift's word -/
noncomputable def lifF (p k : Int) (l : List Int) (x : Int) : Int × Int := if (padF p k).1 ≠ 0 then padF p k else if (polF l).1 ≠ 0 then polF l else if x < 0 ∨ p ≤ x then (3, 3) else if pv l x % p ≠ 0 then (10, 3) else if dv l x % p = 0 then (6, 3) else (0, 0)
def LiftOk (p k : Int) (l : List Int) (x y : Int) : Prop := 0 ≤ y ∧ y < p ^ k.toNat ∧ y % p = x ∧ p ^ k.toNat ∣ pv l y
theorem lif1 {p k : Int} {l : List Int} {x : Int} (h : (padF p k).1 ≠ 0) : lifF p k l x = padF p k := by unfold lifF; rw [if_pos h]
theorem lif2 {p k : Int} {l : List Int} {x : Int} (h : (padF p k).1 = 0) (h2 : (polF l).1 ≠ 0) : lifF p k l x = polF l := by unfold lifF; rw [if_neg (by simp [h]), if_pos h2]
theorem lif3 {p k : Int} {l : List Int} {x : Int} (h : (padF p k).1 = 0) (h2 : (polF l).1 = 0) : lifF p k l x = if x < 0 ∨ p ≤ x then (3, 3) else if pv l x % p ≠ 0 then (10, 3) else if dv l x % p = 0 then (6, 3) else (0, 0) := by unfold lifF; rw [if_neg (by simp [h]), if_neg (by simp [h2])]
theorem polF_fits {l : List Int} (h : (polF l).1 = 0) : polF l = (0, 0) ∧ l.length ≤ 13 ∧ fits l := by
  unfold polF at h ⊢
  split at h
  · simp at h
  · rename_i h1
    split at h
    · rename_i h2
      rw [if_neg h1, if_pos h2]
      refine ⟨rfl, by omega, fun c hc => ?_⟩
      have := ok_bounds (List.all_eq_true.1 h2 c hc)
      omega
    · simp at h
theorem ints_at {w W : World} {A : Option Addr} {l : List Int} (h : Ints w w.heap.size A l) (k : Below w.heap.size w W) : Ints W W.heap.size A l := (h.below k (Nat.le_refl _)).more k.size
theorem inv_unit {a m : Int} (ha0 : 0 ≤ a) (ha1 : a < m) (h1 : 1 ≤ m) (h2 : m ≤ 1000000000000000000) (hg : Int.gcd a m = 1) : invF a m = (0, 0) := by
  unfold invF
  have e : lookK 0 [a, m] = (0, 0) := by
    rw [lookK, if_pos (show okB a = true by unfold okB; simp; omega), lookK, if_pos (show okB m = true by unfold okB; simp; omega), lookK]
  rw [e, if_neg (by decide), if_neg (by omega), if_neg (by omega)]
theorem slope_at {l : List Int} {x m : Int} : pv (derM l m) x % m = dv l x % m := by
  have := emod_of_dvd_sub (pv_mod m x (derF 1 (l.drop 1)))
  rw [dv_tail] at this
  exact this
/-- a round of Lift -/
theorem lift_round {P K e : Nat} {l : List Int} {x x0 M : Int} (hM : (P : Int) ^ K = M) (he : 1 ≤ e) (heK : e ≤ K) (hd : (P : Int) ^ e ∣ pv l x) (hx : (P : Int) ∣ x - x0) {i : Int} (hi : M ∣ dv l x % M * i - 1) :
    (P : Int) ∣ (x - pv l x % M * i % M) % M - x0 ∧ ((P : Int) ^ (2 * e) ∣ pv l ((x - pv l x % M * i % M) % M) ∨ M ∣ pv l ((x - pv l x % M * i % M) % M)) := by
  obtain ⟨x', hx'⟩ : ∃ x', (x - pv l x % M * i % M) % M = x' := ⟨_, rfl⟩
  have h1 : M ∣ x' - (x - pv l x * i) := by
    have a1 := Int.mul_ediv_add_emod (x - pv l x % M * i % M) M
    have a2 := Int.mul_ediv_add_emod (pv l x % M * i) M
    have a3 := Int.mul_ediv_add_emod (pv l x) M
    rw [hx'] at a1
    refine ⟨pv l x % M * i / M + pv l x / M * i - (x - pv l x % M * i % M) / M, ?_⟩
    grind
  have h2 : M ∣ dv l x * i - 1 := by
    obtain ⟨t, ht⟩ := hi
    have a3 := Int.mul_ediv_add_emod (dv l x) M
    refine ⟨t + dv l x / M * i, ?_⟩
    grind
  have hqm : (P : Int) ^ e ∣ M := by
    rw [← hM]; exact ⟨(P : Int) ^ (K - e), by rw [← Int.pow_add]; congr 1; omega⟩
  have hPe : (P : Int) ∣ (P : Int) ^ e := ⟨(P : Int) ^ (e - 1), by rw [← Int.pow_succ' ]; congr 1; omega⟩
  rw [hx']
  by_cases h3 : 2 * e ≤ K
  · have h4 := newton hd hqm h2 h1 (r := (P : Int) ^ (2 * e)) ⟨1, by rw [← Int.pow_add]; simp; congr 1; omega⟩ (by rw [← hM]; exact ⟨(P : Int) ^ (K - 2 * e), by rw [← Int.pow_add]; congr 1; omega⟩)
    refine ⟨?_, .inl h4.1⟩
    have h5 := Int.dvd_trans hPe h4.2
    have := Int.dvd_add h5 hx
    rwa [show x' - x + (x - x0) = x' - x0 from by omega] at this
  · have h4 := newton hd hqm h2 h1 (r := M) (by rw [← hM]; exact ⟨(P : Int) ^ (2 * e - K), by rw [← Int.pow_add, ← Int.pow_add]; congr 1; omega⟩) ⟨1, by omega⟩
    refine ⟨?_, .inr h4.1⟩
    have h5 := Int.dvd_trans hPe h4.2
    have := Int.dvd_add h5 hx
    rwa [show x' - x + (x - x0) = x' - x0 from by omega] at this

theorem q_step {M q : Int} (hq1 : 1 ≤ q) (hq2 : q ≤ M) : 1 ≤ min (M / q) q * q ∧ min (M / q) q * q ≤ M := by
  have h1 : 1 ≤ M / q := by rw [Int.le_ediv_iff_mul_le (by omega)]; omega
  have h2 : M / q * q ≤ M := Int.ediv_mul_le _ (by omega)
  have h3 : min (M / q) q * q ≤ M / q * q := Int.mul_le_mul_of_nonneg_right (by omega) (by omega)
  have h4 : 1 * q ≤ min (M / q) q * q := Int.mul_le_mul_of_nonneg_right (by omega) (by omega)
  omega

set_option maxRecDepth 100000 in
set_option maxHeartbeats 12800000 in
theorem lift_any (A : Option Addr) (n c : Nat) (p k : Int) (l : List Int) (x : Int) (w : World) (hT : TabW w) (hl : l.length = n) (hn : n ≤ 140737488351232) (hI : Ints w w.heap.size A l) :
    Calls Tryd.prog 11 #[.int .i64 p, .int .i64 k, .slice A n c, .int .i64 x] w (RetNF w (lifF p k l x) (LiftOk p k l x)) := by
  have CL := fun W (hW : TabW W) => hide (plook_any p k W hW)
  unfold RetLook at CL
  have HT := hide (hT.alloc (.cells #[.int .i64 0, .int .i64 0] 24))
  have HI := hide hI
  have HL := hide hl
  have HN := hide hn
  clear hT hI hl hn
  by_cases hc : (padF p k).1 = 0
  · obtain ⟨hz, hp1, hp2, hpr, hk1, hk2, hm⟩ := padF_ok hc
    rw [if_pos hc, hz] at CL
    simp only [fv] at CL
    obtain ⟨P, rfl⟩ : ∃ P : Nat, p = P := ⟨p.toNat, by omega⟩
    obtain ⟨K, rfl⟩ : ∃ K : Nat, k = K := ⟨k.toNat, by omega⟩
    have HPK : Hid (((K : Int)).toNat = K) := rfl
    have HPR : Hid (Pr P) := hpr
    have hm0 : 0 < (P : Int) ^ K := Int.pow_pos (by omega)
    have hPM : (P : Int) ≤ (P : Int) ^ K := by
      have := pow_le_next hp1 (show 1 ≤ K by omega)
      rwa [Int.pow_succ, Int.pow_zero, Int.one_mul] at this
    rw [show ((K : Int)).toNat = K from rfl] at CL hm
    obtain ⟨M, hM⟩ : ∃ M, (P : Int) ^ K = M := ⟨_, rfl⟩
    rw [hM] at CL hm hm0 hPM
    have HM := hide hM
    have HC := hide hc
    have hK1 : 1 ≤ K := by omega
    clear hz hpr hM hc hk1
    go_enter Tryd.func11, Tryd.ntmps11
    go_wp2_with fail
    refine (CL _ HT.out).out.mono ?_
    rintro e w1 ⟨rfl, hb⟩
    have F0 := hide (((FC.fresh w).below hb).below (bel_fz w1))
    have HB := hide ((below_new hb).trans ((bel_fz w1).mono (below_new hb).size))
    clear hb CL
    go_wp2_with fail
    refine (poly_any A n c l _ HL.out HN.out (ints_at HI.out HB.out)).mono ?_
    rintro e w2 ⟨rfl, hb⟩
    have HB2 := hide (HB.out.trans (hb.mono HB.out.size))
    have F2 := hide (F0.out.below hb)
    clear hb
    by_cases hc2 : (polF l).1 = 0
    · obtain ⟨hz2, hn13, hfit⟩ := polF_fits hc2
      have HE := hide (lif3 (x := x) HC.out hc2)
      rw [hz2]
      simp only [fv]
      have HFI := hide hfit
      have hn1 : n ≤ 13 := by rw [← HL.out]; exact hn13
      have F3 := hide (F2.out.below (bel_fz w2))
      have HB3 := hide (HB2.out.trans ((bel_fz w2).mono HB2.out.size))
      have hlt := F2.out.lt
      clear hc2 hz2 hn13 hfit
      by_cases hx : x < 0 ∨ (P : Int) ≤ x
      · have HF : Hid (lifF (P : Int) (K : Int) l x = (3, 3)) := by unfold Hid; rw [HE.out, if_pos hx]
        have hh : decide (x < 0) = true ∨ (decide (x < 0) = false ∧ decide ((P : Int) ≤ x) = true) := by
          simp only [decide_eq_true_eq, decide_eq_false_iff_not]; omega
        clear hx
        rcases hh with h | ⟨h, h2⟩
        all_goals
          have C := fun W => hide (pfault_any 3 3 W)
          go_wp2_with fail
          refine (C _).out.mono ?_
          rintro e wf ⟨rfl, hb⟩
          have F1 := F3.out.below hb
          obtain ⟨d0, d1, f0, f1⟩ := F1.cells
          obtain ⟨p0, p1⟩ := F1.put 3 3
          have HBf := hide (below_fault (u := .int .i64 3) (v := .int .i64 3) (HB3.out.trans (hb.mono HB3.out.size)) (Nat.le_refl w.heap.size))
          clear hb F1
          go_wp2_with fail
          exact bodyPost_ret (v := .tuple #[.int .i64 0, fv (3, 3)]) (by simp [results, Tryd.results11, go_sem, fv, p0, p1]) rfl ⟨0, by rw [HF.out], fun h => by rw [HF.out] at h; simp at h, fun _ => rfl, HBf.out⟩
      · have q1 : decide (x < 0) = false := by rw [decide_eq_false_iff_not]; omega
        have q2 : decide ((P : Int) ≤ x) = false := by rw [decide_eq_false_iff_not]; omega
        have HE1 : Hid (lifF (P : Int) (K : Int) l x = if pv l x % (P : Int) ≠ 0 then (10, 3) else if dv l x % (P : Int) = 0 then (6, 3) else (0, 0)) := by unfold Hid; rw [HE.out, if_neg hx]
        have hx0 : 0 ≤ x := by omega
        have hxP : x < (P : Int) := by omega
        clear hx HE
        go_wp2_with fail
        refine (value_any A n c l x P _ HL.out (by omega) (ints_at HI.out HB3.out) HFI.out (by omega) (by omega) (by omega) (by omega)).mono ?_
        rintro e w3 ⟨rfl, k3, rfl⟩
        have HB4 := hide (below_drewN HB3.out k3)
        have F4 := hide (F3.out.below (below_drewN (Below.refl _ _) k3))
        obtain ⟨V0, hV0⟩ : ∃ V0, pv l x % (P : Int) = V0 := ⟨_, rfl⟩
        rw [hV0] at HE1 ⊢
        have HV0 := hide hV0
        clear hV0
        by_cases hv : V0 = 0
        · subst hv
          have HE2 : Hid (lifF (P : Int) (K : Int) l x = if dv l x % (P : Int) = 0 then (6, 3) else (0, 0)) := by unfold Hid; rw [HE1.out, if_neg (by simp)]
          clear HE1
          go_wp2_with fail
          refine (derive_any A n c l P _ HL.out (by omega) (ints_at HI.out HB4.out) HFI.out (by omega) (by omega)).mono ?_
          rintro e w4 ⟨A1, c1, rfl, hi1, hb⟩
          have HB5 := hide (HB4.out.trans (hb.mono HB4.out.size))
          have F5 := hide (F4.out.below hb)
          have HI1 := hide hi1
          clear hb hi1
          have hlen := derM_len l (P : Int)
          rw [HL.out] at hlen
          obtain ⟨n1, hn1'⟩ : ∃ n1, (derM l (P : Int)).length = n1 := ⟨_, rfl⟩
          rw [hn1'] at hlen ⊢
          have HN1 := hide hn1'
          have hn1b : n1 ≤ 1000000 := by omega
          clear hlen hn1'
          go_wp2_with fail
          refine (value_any A1 n1 c1 (derM l P) x P _ HN1.out hn1b HI1.out (derM_fits (by omega) (by omega)) (by omega) (by omega) (by omega) (by omega)).mono ?_
          rintro e w5 ⟨rfl, k5, rfl⟩
          have HB6 := hide (below_drewN HB5.out k5)
          have F6 := hide (F5.out.below (below_drewN (Below.refl _ _) k5))
          rw [slope_at]
          obtain ⟨S0, hS0⟩ : ∃ S0, dv l x % (P : Int) = S0 := ⟨_, rfl⟩
          rw [hS0] at HE2 ⊢
          have HS0 := hide hS0
          clear hS0 HI1
          by_cases hs : S0 = 0
          · subst hs
            have HF : Hid (lifF (P : Int) (K : Int) l x = (6, 3)) := by unfold Hid; rw [HE2.out, if_pos rfl]
            have C := fun W => hide (pfault_any 6 3 W)
            go_wp2_with fail
            refine (C _).out.mono ?_
            rintro e wf ⟨rfl, hb⟩
            have F1 := F6.out.below hb
            obtain ⟨d0, d1, f0, f1⟩ := F1.cells
            obtain ⟨p0, p1⟩ := F1.put 6 3
            have HBf := hide (below_fault (u := .int .i64 6) (v := .int .i64 3) (HB6.out.trans (hb.mono HB6.out.size)) (Nat.le_refl w.heap.size))
            clear hb F1
            go_wp2_with fail
            exact bodyPost_ret (v := .tuple #[.int .i64 0, fv (6, 3)]) (by simp [results, Tryd.results11, go_sem, fv, p0, p1]) rfl ⟨0, by rw [HF.out], fun h => by rw [HF.out] at h; simp at h, fun _ => rfl, HBf.out⟩
          · have HF : Hid (lifF (P : Int) (K : Int) l x = (0, 0)) := by unfold Hid; rw [HE2.out, if_neg hs]
            have q5 : (S0 == 0) = false := by simpa using hs
            have HS := hide hs
            clear HE2 hs
            go_wp2_with fail
            refine (derive_any A n c l M _ HL.out (by omega) (ints_at HI.out HB6.out) HFI.out hm0 (by omega)).mono ?_
            rintro e w6 ⟨A2, c2, rfl, hi2, hb⟩
            have HB7 := hide (HB6.out.trans (hb.mono HB6.out.size))
            have F7 := hide (F6.out.below hb)
            have HI2 := hide hi2
            clear hb hi2 q1 q2 q5
            obtain ⟨n2, hn2⟩ : ∃ n2, (derM l M).length = n2 := ⟨_, rfl⟩
            have hn2b : n2 ≤ 1000000 := by have := derM_len l M; rw [HL.out] at this; omega
            rw [hn2]
            have HN2 := hide hn2
            clear hn2
            have HX0 : Hid ((P : Int) ∣ x - x) := by unfold Hid; rw [Int.sub_self]; exact Int.dvd_zero _
            have HD0 : Hid ((P : Int) ^ 1 ∣ pv l x) := by
              unfold Hid
              rw [Int.pow_succ, Int.pow_zero, Int.one_mul]
              exact Int.dvd_of_emod_eq_zero HV0.out
            have HXX : Hid (0 ≤ x ∧ x < (P : Int)) := ⟨hx0, hxP⟩
            have hP1 : 1 ≤ (P : Int) := by omega
            obtain ⟨x0, hxx⟩ : ∃ x0, x0 = x := ⟨_, rfl⟩
            rw [← hxx] at HX0 HF HS0 HXX
            have HXE := hide hxx
            have HX1 : Hid ((P : Int) ∣ x - x0) := by unfold Hid; rw [hxx, Int.sub_self]; exact Int.dvd_zero _
            have hxM : x < M := by omega
            have HB7a := HB7
            clear hxx HX0 hxP hp1 hp2
            go_wp2_with fail
            go_loopg [3, 14, 15, 16] (K - 1) (fun N v q _ _ wr => ∃ (e : Nat) (X Q : Int), N = K - e ∧ v = .int .i64 X ∧ q = .int .i64 Q ∧ 1 ≤ e ∧ e ≤ K ∧ 0 ≤ X ∧ X < M ∧ 1 ≤ Q ∧ Q ≤ M ∧ Hid ((P : Int) ^ e ∣ pv l X) ∧ Hid ((P : Int) ∣ X - x0) ∧ Hid (Below w.heap.size w wr) ∧ Hid (FC wr w.heap.size 0 0) ∧ Hid (Ints wr wr.heap.size A2 (derM l M)))
            case atStart => exact ⟨1, x, P, rfl, rfl, rfl, by omega, by omega, hx0, hxM, hP1, hPM, HD0, HX1, HB7, F7, HI2⟩
            case round =>
              clear HX1 HD0 HI2 F7 HB7a HB7 hx0 hxM
              obtain ⟨e, X, Q, rfl, rfl, rfl, he1, he2, hX0, hX1, hQ1, hQ2, HD, HX, HBr, Fr, HIr⟩ := hrel
              go_wp2_with fail
              refine (value_any A2 n2 c2 (derM l M) X M _ HN2.out hn2b HIr.out (derM_fits hm0 (by omega)) hm0 (by omega) (by omega) (by omega)).mono ?_
              rintro e1 w7 ⟨rfl, k7, rfl⟩
              rw [slope_at]
              have HB8 := hide (below_drewN HBr.out k7)
              have F8 := hide (Fr.out.below (below_drewN (Below.refl _ _) k7))
              have HI8 := hide (ints_at HIr.out (below_drewN (Below.refl _ _) k7))
              have hg : Int.gcd (dv l X % M) M = 1 := by
                rw [emod_gcd, ← HM.out]
                refine HPR.out.unit (fun hd => ?_) K
                have h1 := dv_congr HX.out l
                have h2 := Int.dvd_sub hd h1
                rw [show dv l X - (dv l X - dv l x0) = dv l x0 from by omega] at h2
                exact HS.out (by rw [← HS0.out]; exact Int.emod_eq_zero_of_dvd h2)
              have y0 := Int.emod_nonneg (dv l X) (b := M) (by omega)
              have y1 := Int.emod_lt_of_pos (dv l X) hm0
              have hinv := inv_unit y0 y1 (by omega) hm hg
              have HR := hide (fun i hi => lift_round (x := X) (x0 := x0) (i := i) HM.out he1 he2 HD.out HX.out hi)
              obtain ⟨Y, hY⟩ : ∃ Y, dv l X % M = Y := ⟨_, rfl⟩
              rw [hY] at hinv HR y0 y1 ⊢
              have CI := fun W => hide (inverse_any Y M W)
              rw [hinv] at CI
              unfold RetNF at CI
              clear hinv hg hY HIr Fr HBr
              go_wp2_with fail
              refine (CI _).out.mono ?_
              rintro e1 w8 ⟨i, rfl, hi, _, hb⟩
              obtain ⟨hi0, hi1, hi2⟩ := hi (by simp)
              simp only [fv]
              have HRR := hide (HR.out i hi2)
              have HB9 := hide (HB8.out.trans (hb.mono HB8.out.size))
              have F9 := hide (F8.out.below hb)
              have HI9 := hide (ints_at HI8.out hb)
              clear hb hi hi2 HR
              have HB10 := hide (HB9.out.trans ((bel_fz w8).mono HB9.out.size))
              have F10 := hide (F9.out.below (bel_fz w8))
              have HI10 := hide (ints_at HI9.out (bel_fz w8))
              have hlt9 := F9.out.lt
              clear HB9 F9 HI9 HB8 F8 HI8
              go_wp2_with fail
              refine (value_any A n c l X M _ HL.out (by omega) (ints_at HI.out HB10.out) HFI.out hm0 (by omega) (by omega) (by omega)).mono ?_
              rintro e1 w9 ⟨rfl, k9, rfl⟩
              have HB11 := hide (below_drewN HB10.out k9)
              have F11 := hide (F10.out.below (below_drewN (Below.refl _ _) k9))
              have HI11 := hide (ints_at HI10.out (below_drewN (Below.refl _ _) k9))
              have v0 := Int.emod_nonneg (pv l X) (b := M) (by omega)
              have v1 := Int.emod_lt_of_pos (pv l X) hm0
              obtain ⟨V, hV⟩ : ∃ V, pv l X % M = V := ⟨_, rfl⟩
              rw [hV] at v0 v1 HRR ⊢
              have CT := fun W => hide (times_any V i M W hm0 (by omega) (by omega) (by omega) (by omega) (by omega))
              have t0 := Int.emod_nonneg (V * i) (b := M) (by omega)
              have t1 := Int.emod_lt_of_pos (V * i) hm0
              obtain ⟨T, hT'⟩ : ∃ T, V * i % M = T := ⟨_, rfl⟩
              rw [hT'] at CT t0 t1 HRR
              have CM := fun W => hide (mod_any (X - T) M W hm0 (by omega) (by omega) (by omega))
              have u0 := Int.emod_nonneg (X - T) (b := M) (by omega)
              have u1 := Int.emod_lt_of_pos (X - T) hm0
              obtain ⟨U, hU⟩ : ∃ U, (X - T) % M = U := ⟨_, rfl⟩
              rw [hU] at CM u0 u1 HRR
              clear hV hT' hU HB10 F10 HI10
              go_wp2_with fail
              refine (CT _).out.mono ?_
              rintro e1 w10 ⟨rfl, k10, rfl⟩
              go_wp2_with fail
              refine (CM _).out.mono ?_
              rintro e1 w11 ⟨rfl, rfl⟩
              have hb12 := below_drewN HB11.out k10
              have f12 := F11.out.below (below_drewN (Below.refl _ _) k10)
              have i12 := ints_at HI11.out (below_drewN (Below.refl _ _) k10)
              rw [World.drewN_drewN] at hb12 f12 i12
              have HB12 := hide hb12
              have F12 := hide f12
              have HI12 := hide i12
              clear hb12 f12 i12
              clear HB11 F11 HI11 t0 t1 v0 v1 y0 y1
              go_wp2_with fail
              refine (value_any A n c l U M _ HL.out (by omega) (ints_at HI.out HB12.out) HFI.out hm0 (by omega) (by omega) (by omega)).mono ?_
              rintro e1 w12 ⟨rfl, k12, rfl⟩
              have hb12 := below_drewN HB12.out k12
              have f12 := F12.out.below (below_drewN (Below.refl _ _) k12)
              have i12 := ints_at HI12.out (below_drewN (Below.refl _ _) k12)
              rw [World.drewN_drewN] at hb12 f12 i12
              have HB13 := hide hb12
              have F13 := hide f12
              have HI13 := hide i12
              clear hb12 f12 i12
              clear HB12 F12 HI12
              obtain ⟨Z, hZ⟩ : ∃ Z, pv l U % M = Z := ⟨_, rfl⟩
              rw [hZ]
              have HZ := hide hZ
              clear hZ
              by_cases hz : Z = 0
              · subst hz
                have HOK : Hid (LiftOk (P : Int) (K : Int) l x0 U) := by
                  refine ⟨u0, by rw [HPK.out, HM.out]; exact u1, ?_, by rw [HPK.out, HM.out]; exact Int.dvd_of_emod_eq_zero HZ.out⟩
                  rw [emod_of_dvd_sub HRR.out.1]
                  exact Int.emod_eq_of_lt HXX.out.1 HXX.out.2
                obtain ⟨d0, d1, f0, f1⟩ := F13.out.cells
                obtain ⟨p0, p1⟩ := F13.out.put 0 0
                have HBf := hide (below_fault (u := .int .i64 0) (v := .int .i64 0) HB13.out (Nat.le_refl w.heap.size))
                go_wp2_with fail
                exact bodyPost_ret (v := .tuple #[.int .i64 U, fv (0, 0)]) (by simp [results, Tryd.results11, go_sem, fv, p0, p1]) rfl ⟨U, by rw [← HXE.out, HF.out], fun _ => by rw [← HXE.out]; exact HOK.out, fun h => by rw [← HXE.out, HF.out] at h; simp at h, HBf.out⟩
              · have q6 : (Z == 0) = false := by simpa using hz
                have HNEW : Hid ((P : Int) ^ (2 * e) ∣ pv l U ∧ 2 * e < K) := by
                  have hno : ¬ M ∣ pv l U := fun h => hz (by rw [← HZ.out]; exact Int.emod_eq_zero_of_dvd h)
                  rcases HRR.out.2 with h | h
                  · refine ⟨h, ?_⟩
                    rcases Nat.lt_or_ge (2 * e) K with h5 | h5
                    · exact h5
                    · refine (hno (Int.dvd_trans ?_ h)).elim
                      rw [← HM.out]
                      exact ⟨(P : Int) ^ (2 * e - K), by rw [← Int.pow_add]; congr 1; omega⟩
                  · exact (hno h).elim
                obtain ⟨r1, r2⟩ := q_step hQ1 hQ2
                have e4 : M.tdiv Q = M / Q := Int.tdiv_eq_ediv_of_nonneg (by omega)
                have g0 : 0 ≤ M / Q := Int.ediv_nonneg (by omega) (by omega)
                have g1 : M / Q ≤ M := Int.ediv_le_self _ (by omega)
                have hQ0 : ¬ Q = 0 := by omega
                obtain ⟨G, hG⟩ : ∃ G, M / Q = G := ⟨_, rfl⟩
                rw [hG] at r1 r2 e4 g0 g1
                clear hG hz
                have hne := HNEW.out.2
                go_wp2_with fail
                go_roundg (K - 2 * e)
                case measure => omega
                case rel => exact ⟨2 * e, U, min G Q * Q, rfl, rfl, rfl, by omega, by omega, u0, u1, r1, r2, HNEW.out.1, HRR.out.1, HB13, F13, HI13⟩
        · have HF : Hid (lifF (P : Int) (K : Int) l x = (10, 3)) := by unfold Hid; rw [HE1.out, if_pos hv]
          have q5 : (V0 != 0) = true := by simpa using hv
          clear hv
          have C := fun W => hide (pfault_any 10 3 W)
          go_wp2_with fail
          refine (C _).out.mono ?_
          rintro e wf ⟨rfl, hb⟩
          have F1 := F4.out.below hb
          obtain ⟨d0, d1, f0, f1⟩ := F1.cells
          obtain ⟨p0, p1⟩ := F1.put 10 3
          have HBf := hide (below_fault (u := .int .i64 10) (v := .int .i64 3) (HB4.out.trans (hb.mono HB4.out.size)) (Nat.le_refl w.heap.size))
          clear hb F1
          go_wp2_with fail
          exact bodyPost_ret (v := .tuple #[.int .i64 0, fv (10, 3)]) (by simp [results, Tryd.results11, go_sem, fv, p0, p1]) rfl ⟨0, by rw [HF.out], fun h => by rw [HF.out] at h; simp at h, fun _ => rfl, HBf.out⟩
    · have HE := hide (lif2 (x := x) HC.out hc2)
      have HX := hide hc2
      obtain ⟨⟨u, v⟩, hF⟩ : ∃ F, polF l = F := ⟨_, rfl⟩
      rw [hF] at HE HX ⊢
      have qx : (u != 0) = true := by have := HX.out; simpa using this
      simp only [fv]
      have F3 := F2.out.below (bel_cells w2 (.cells #[.int .i64 u, .int .i64 v] 24))
      have HB3 := hide (HB2.out.trans ((bel_cells w2 (.cells #[.int .i64 u, .int .i64 v] 24)).mono HB2.out.size))
      obtain ⟨d0, d1, f0, f1⟩ := F3.cells
      have HFF := hide F3
      clear hF hc2 F3
      go_wp2_with fail
      go_region
      obtain ⟨p0, p1⟩ := HFF.out.put u v
      have HBf := hide (below_drewN (below_fault (u := .int .i64 u) (v := .int .i64 v) HB3.out (Nat.le_refl w.heap.size)) 1)
      go_wp2_with fail
      exact bodyPost_ret (v := .tuple #[.int .i64 0, fv (u, v)]) (by simp [results, Tryd.results11, go_sem, fv, p0, p1]) rfl ⟨0, by rw [HE.out], fun h => by rw [HE.out] at h; exact absurd h HX.out, fun _ => rfl, HBf.out⟩
  · have HE := hide (lif1 (l := l) (x := x) hc)
    have HC := hide hc
    obtain ⟨⟨u, v⟩, hF⟩ : ∃ F, padF p k = F := ⟨_, rfl⟩
    rw [hF] at CL HE HC
    rw [if_neg (by rw [hF] at hc; exact hc)] at CL
    have qx : (u != 0) = true := by have := HC.out; simpa using this
    simp only [fv] at CL
    clear hF hc
    go_enter Tryd.func11, Tryd.ntmps11
    go_wp2_with fail
    refine (CL _ HT.out).out.mono ?_
    rintro e w1 ⟨rfl, hb⟩
    have F1 := (((FC.fresh w).below hb).below (bel_cells w1 (.cells #[.int .i64 u, .int .i64 v] 24)))
    have HB := hide ((below_new hb).trans ((bel_cells w1 (.cells #[.int .i64 u, .int .i64 v] 24)).mono (below_new hb).size))
    obtain ⟨d0, d1, f0, f1⟩ := F1.cells
    have HF := hide F1
    clear hb F1
    go_wp2_with fail
    go_region
    obtain ⟨p0, p1⟩ := HF.out.put u v
    have HB2 := hide (below_drewN (below_fault (u := .int .i64 u) (v := .int .i64 v) HB.out (Nat.le_refl w.heap.size)) 1)
    go_wp2_with fail
    exact bodyPost_ret (v := .tuple #[.int .i64 0, fv (u, v)]) (by simp [results, Tryd.results11, go_sem, fv, p0, p1]) rfl ⟨0, by rw [HE.out], fun h => by rw [HE.out] at h; exact absurd h HC.out, fun _ => rfl, HB2.out⟩
end Go.Proofs.YticgnjapgbjfiaaDoor
