/- The walk of padic.Digits. -/
import Derived.Test.YticgnjapgbjfiaaDoorPadE
namespace Go.Proofs.YticgnjapgbjfiaaDoor
open Go.RowKit

/-- Digits' word -/
noncomputable def digF (p k a b : Int) : Int × Int := if (padF p k).1 ≠ 0 then padF p k else if okB a = false then (3, 2) else if okB b = false then (3, 3) else if b % p = 0 then (4, 3) else (0, 0)
theorem dig1 {p k a b : Int} (h : (padF p k).1 ≠ 0) : digF p k a b = padF p k := by unfold digF; rw [if_pos h]
theorem dig2 {p k a b : Int} (h : (padF p k).1 = 0) : digF p k a b = if okB a = false then (3, 2) else if okB b = false then (3, 3) else if b % p = 0 then (4, 3) else (0, 0) := by unfold digF; rw [if_neg (by simp [h])]
/-- what Digits hands back -/
def DigOk (p k a b X : Int) : Prop := 0 ≤ X ∧ X < p ^ k.toNat ∧ b * X % p ^ k.toNat = a % p ^ k.toNat
def RetDig (w : World) (p k a b : Int) : Ending → World → Prop := fun e w' => ∃ v : Value, e = .returned (.tuple #[v, fv (digF p k a b)]) ∧ ((digF p k a b).1 ≠ 0 → v = .slice none 0 0) ∧ ((digF p k a b).1 = 0 → ∃ (X : Int) (A : Option Addr) (c : Nat), v = .slice A k.toNat c ∧ DigOk p k a b X ∧ Ints w' w'.heap.size A (digs p X k.toNat)) ∧ Below w.heap.size w w'

theorem Ints.put {w : World} {B : Nat} {A : Option Addr} {l : List Int} (h : Ints w B A l) {p : Addr} (hp : ∀ ad, A = some ad → ad.block ≠ p.block) (v : Value) : Ints (w.setCell p v) B A l :=
  ⟨fun j x hx => by
    obtain ⟨ad, e, hb, hc⟩ := h.cell j x hx
    refine ⟨ad, e, hb, ?_⟩
    have hne : (ad.add j).block ≠ p.block := by rw [add_block]; exact hp ad e
    rw [show (w.setCell p v).cell? (ad.add j) = w.cell? (ad.add j) from by
      unfold World.cell?
      rw [Below.heap_setCell _ _ _ _ hne]]
    exact hc⟩
theorem own_put {w : World} {base n : Nat} {v : Value} {xs : List Value} (h : w.ownsRow base 3 1 v n xs) {q : Addr} (hq : q.block < base) (u : Value) : (w.setCell q u).ownsRow base 3 1 v n xs := by
  obtain ⟨h1, h2⟩ := h
  refine ⟨h1, ?_⟩
  rcases h2 with h2 | ⟨g, cap, cur, hv, hg, hh, r⟩
  · exact .inl h2
  · exact .inr ⟨g, cap, cur, hv, hg, by rw [Below.heap_setCell _ _ _ _ (by omega)]; exact hh, r⟩
theorem FC.grown {w w' : World} {g : Nat} {a b : Int} {row : Option Nat} (h : FC w g a b) (hg : w.grownBy w' row) (hne : some g ≠ row) : FC w' g a b := (hg.block g h.lt hne).trans h
theorem own_ne {w : World} {base n g : Nat} {v : Value} {xs : List Value} (h : w.ownsRow base 3 1 v n xs) (hg : g < base) : some g ≠ v.ownBlock := fun e => by have := (h.lt g e.symm).1; omega
theorem dig_mul {a b i m : Int} (hi : m ∣ b % m * i - 1) : b * (a * i % m) % m = a % m := by
  obtain ⟨t, ht⟩ := hi
  have h1 := Int.mul_ediv_add_emod b m
  have h2 := Int.mul_ediv_add_emod (a * i) m
  refine emod_of_dvd_sub ⟨a * (t + b / m * i) - b * (a * i / m), ?_⟩
  grind

set_option maxRecDepth 100000 in
set_option maxHeartbeats 12800000 in
theorem digits_any (p k a b : Int) (w : World) (hT : TabW w) (ha0 : -9223372036854775808 ≤ a) (ha1 : a ≤ 9223372036854775807) (hb0 : -9223372036854775808 ≤ b) (hb1 : b ≤ 9223372036854775807) :
    Calls Tryd.prog 19 #[.int .i64 p, .int .i64 k, .int .i64 a, .int .i64 b] w (RetDig w p k a b) := by
  have CL := fun W (hW : TabW W) => hide (plook_any p k W hW)
  unfold RetLook at CL
  have HT := hide (hT.alloc (.cells #[.int .i64 0, .int .i64 0] 24))
  clear hT
  by_cases hc : (padF p k).1 = 0
  · obtain ⟨hz, hp1, hp2, hpr, hk1, hk2, hm⟩ := padF_ok hc
    rw [if_pos hc, hz] at CL
    simp only [fv] at CL
    obtain ⟨P, rfl⟩ : ∃ P : Nat, p = P := ⟨p.toNat, by omega⟩
    obtain ⟨K, rfl⟩ : ∃ K : Nat, k = K := ⟨k.toNat, by omega⟩
    have HPK : Hid (((K : Int)).toNat = K) := rfl
    have HPR : Hid (Pr P) := hpr
    have hm0 : 0 < (P : Int) ^ K := Int.pow_pos (by omega)
    rw [show ((K : Int)).toNat = K from rfl] at CL hm
    obtain ⟨M, hM⟩ : ∃ M, (P : Int) ^ K = M := ⟨_, rfl⟩
    rw [hM] at CL hm hm0
    have HM := hide hM
    have HE := hide (dig2 (a := a) (b := b) hc)
    have CA := fun W => hide (ok_any a W)
    have CB := fun W => hide (ok_any b W)
    obtain ⟨i0, hi, hz0, hz1, hz2⟩ := info_parts iinfo
    have HO := hide (And.intro hi (And.intro hz0 (And.intro hz1 hz2)))
    clear hz hpr hM hc hk1 hi hz0 hz1 hz2
    go_enter Tryd.func19, Tryd.ntmps19
    go_wp2_with fail
    refine (CL _ HT.out).out.mono ?_
    rintro e w1 ⟨rfl, hb⟩
    have F0 := hide (((FC.fresh w).below hb).below (bel_fz w1))
    have HB := hide ((below_new hb).trans ((bel_fz w1).mono (below_new hb).size))
    have hlt0 := ((FC.fresh w).below hb).lt
    clear hb CL
    have F1 := hide (F0.out.below (bel_cells (w1.alloc (.cells #[.int .i64 0, .int .i64 0] 24)) (.cells #[.int .i64 a, .int .i64 b] 3)))
    have HB1 := hide (HB.out.alloc HB.out.size (.cells #[.int .i64 a, .int .i64 b] 3))
    cases hoa : okB a
    · rw [hoa] at CA
      have HF : Hid (digF (P : Int) (K : Int) a b = (3, 2)) := by unfold Hid; rw [HE.out, if_pos hoa]
      have C := fun W => hide (pfault_any 3 2 W)
      clear hoa
      go_wp2_with fail
      refine wp_loop_rounds 3 ?_
      rw [rounds_succ]
      go_wp2_with fail
      refine (CA _).out.mono ?_
      rintro e w2 ⟨rfl, rfl⟩
      go_wp2_with fail
      refine (C _).out.mono ?_
      rintro e wf ⟨rfl, hb⟩
      have F2 := F1.out.below hb
      obtain ⟨d0, d1, f0, f1⟩ := F2.cells
      obtain ⟨p0, p1⟩ := F2.put 3 2
      have HBf := hide (below_fault (u := .int .i64 3) (v := .int .i64 2) (HB1.out.trans (hb.mono HB1.out.size)) (Nat.le_refl w.heap.size))
      clear hb F2
      go_wp2_with fail
      exact bodyPost_ret (v := .tuple #[.slice none 0 0, fv (3, 2)]) (by simp [results, Tryd.results19, go_sem, fv, p0, p1]) rfl ⟨_, by rw [HF.out], fun _ => rfl, fun h => by rw [HF.out] at h; simp at h, HBf.out⟩
    · rw [hoa] at CA
      cases hob : okB b
      · rw [hob] at CB
        have HF : Hid (digF (P : Int) (K : Int) a b = (3, 3)) := by unfold Hid; rw [HE.out, if_neg (by rw [hoa]; simp), if_pos hob]
        have C := fun W => hide (pfault_any 3 3 W)
        clear hoa hob
        go_wp2_with fail
        refine wp_loop_rounds 3 ?_
        rw [rounds_succ]
        go_wp2_with fail
        refine (CA _).out.mono ?_
        rintro e w2 ⟨rfl, rfl⟩
        go_wp2_with fail
        rw [rounds_succ]
        go_wp2_with fail
        refine (CB _).out.mono ?_
        rintro e w2 ⟨rfl, rfl⟩
        go_wp2_with fail
        refine (C _).out.mono ?_
        rintro e wf ⟨rfl, hb⟩
        have F2 := F1.out.below hb
        obtain ⟨d0, d1, f0, f1⟩ := F2.cells
        obtain ⟨p0, p1⟩ := F2.put 3 3
        have HBf := hide (below_fault (u := .int .i64 3) (v := .int .i64 3) (HB1.out.trans (hb.mono HB1.out.size)) (Nat.le_refl w.heap.size))
        clear hb F2
        go_wp2_with fail
        exact bodyPost_ret (v := .tuple #[.slice none 0 0, fv (3, 3)]) (by simp [results, Tryd.results19, go_sem, fv, p0, p1]) rfl ⟨_, by rw [HF.out], fun _ => rfl, fun h => by rw [HF.out] at h; simp at h, HBf.out⟩
      · rw [hob] at CB
        have HE1 : Hid (digF (P : Int) (K : Int) a b = if b % (P : Int) = 0 then (4, 3) else (0, 0)) := by unfold Hid; rw [HE.out, if_neg (by rw [hoa]; simp), if_neg (by rw [hob]; simp)]
        have hbb := ok_bounds hob
        have haa := ok_bounds hoa
        clear hoa hob HE
        obtain ⟨T, hTT⟩ : ∃ T, b.tmod (P : Int) = T := ⟨_, rfl⟩
        have HTZ : Hid (T = 0 ↔ b % (P : Int) = 0) := by
          unfold Hid
          rw [← hTT]
          exact ⟨fun h => Int.emod_eq_zero_of_dvd (Int.dvd_of_tmod_eq_zero h), fun h => Int.tmod_eq_zero_of_dvd (Int.dvd_of_emod_eq_zero h)⟩
        have hP0 : ¬ (P : Int) = 0 := by omega
        go_wp2_with fail
        refine wp_loop_rounds 3 ?_
        rw [rounds_succ]
        go_wp2_with fail
        refine (CA _).out.mono ?_
        rintro e w2 ⟨rfl, rfl⟩
        go_wp2_with fail
        rw [rounds_succ]
        go_wp2_with fail
        refine (CB _).out.mono ?_
        rintro e w2 ⟨rfl, rfl⟩
        go_wp2_with fail
        rw [rounds_succ]
        by_cases hT0 : T = 0
        · have HF : Hid (digF (P : Int) (K : Int) a b = (4, 3)) := by unfold Hid; rw [HE1.out, if_pos (HTZ.out.1 hT0)]
          have C := fun W => hide (pfault_any 4 3 W)
          rw [hT0] at hTT
          clear hT0
          go_wp2_with fail
          refine (C _).out.mono ?_
          rintro e wf ⟨rfl, hb⟩
          have F2 := F1.out.below hb
          obtain ⟨d0, d1, f0, f1⟩ := F2.cells
          obtain ⟨p0, p1⟩ := F2.put 4 3
          have HBf := hide (below_fault (u := .int .i64 4) (v := .int .i64 3) (HB1.out.trans (hb.mono HB1.out.size)) (Nat.le_refl w.heap.size))
          clear hb F2
          go_wp2_with fail
          exact bodyPost_ret (v := .tuple #[.slice none 0 0, fv (4, 3)]) (by simp [results, Tryd.results19, go_sem, fv, p0, p1]) rfl ⟨_, by rw [HF.out], fun _ => rfl, fun h => by rw [HF.out] at h; simp at h, HBf.out⟩
        · have HF : Hid (digF (P : Int) (K : Int) a b = (0, 0)) := by unfold Hid; rw [HE1.out, if_neg (fun h => hT0 (HTZ.out.2 h))]
          have qT : (T == 0) = false := by simpa using hT0
          have hg : Int.gcd (b % M) M = 1 := by
            rw [emod_gcd, ← HM.out]
            exact HPR.out.unit (fun hd => hT0 (HTZ.out.2 (Int.emod_eq_zero_of_dvd hd))) K
          have CM := fun W => hide (mod_any b M W hm0 (by omega) (by omega) (by omega))
          have y0 := Int.emod_nonneg b (b := M) (by omega)
          have y1 := Int.emod_lt_of_pos b hm0
          have hinv := inv_unit y0 y1 (by omega) hm hg
          have HDM := hide (fun i hi => dig_mul (a := a) (b := b) (i := i) (m := M) hi)
          obtain ⟨Y, hY⟩ : ∃ Y, b % M = Y := ⟨_, rfl⟩
          rw [hY] at hinv CM HDM
          have CI := fun W => hide (inverse_any Y M W)
          rw [hinv] at CI
          unfold RetNF at CI
          clear hinv hg hY hT0 y0 y1
          go_wp2_with fail
          refine (CM _).out.mono ?_
          rintro e w2 ⟨rfl, rfl⟩
          go_wp2_with fail
          refine (CI _).out.mono ?_
          rintro e w2 ⟨i, rfl, hi, _, hb⟩
          obtain ⟨hi0, hi1, hi2⟩ := hi (by simp)
          simp only [fv]
          have HDD := hide (HDM.out i hi2)
          have HB2 := hide (HB1.out.trans (hb.mono HB1.out.size))
          have F2 := hide (F1.out.below hb)
          clear hb hi hi2
          have HB3 := hide (HB2.out.trans ((bel_fz w2).mono HB2.out.size))
          have F3 := hide (F2.out.below (bel_fz w2))
          have hlt2 := F2.out.lt
          have CT := fun W => hide (times_any a i M W hm0 (by omega) (by omega) (by omega) (by omega) (by omega))
          have t0 := Int.emod_nonneg (a * i) (b := M) (by omega)
          have t1 := Int.emod_lt_of_pos (a * i) hm0
          obtain ⟨X, hX⟩ : ∃ X, a * i % M = X := ⟨_, rfl⟩
          rw [hX] at CT t0 t1 HDD
          have HOK : Hid (DigOk (P : Int) (K : Int) a b X) := ⟨t0, by rw [HPK.out, HM.out]; exact t1, by rw [HPK.out, HM.out]; exact HDD.out⟩
          clear hX HB2 F2
          go_wp2_with fail
          refine (CT _).out.mono ?_
          rintro e w3 ⟨rfl, k3, rfl⟩
          have HB4 := hide (below_drewN HB3.out k3)
          have F4 := hide (F3.out.below (below_drewN (Below.refl _ _) k3))
          go_wp2_with fail
          clear qT hTT CA CB CM CI CT hlt0 hlt2
          have F4b := F4
          have HB4b := HB4
          go_loopw [16, 17, 62] (fun x v i wr => ∃ (j : Nat) (Z : Int), i = .int .i64 j ∧ j ≤ K ∧ x = .int .i64 Z ∧ 0 ≤ Z ∧ Z ≤ 1000000000000000000 ∧ Hid (Z = X / (P : Int) ^ j) ∧ Hid (wr.ownsRow (w.heap.size + 1) 3 1 v j ((digs (P : Int) X j).map (Value.int .i64))) ∧ Hid (FC wr w.heap.size 0 0) ∧ Hid (Below w.heap.size w wr)) (fun _ _ i _ => K - (intOf i).toNat)
          case atStart => exact ⟨0, X, rfl, by omega, rfl, t0, by omega, by unfold Hid; rw [Int.pow_zero, Int.ediv_one], ⟨rfl, .inl ⟨rfl, rfl⟩⟩, F4, HB4⟩
          case round =>
            clear F4 HB4 F4b HB4b F3 HB3 F1 HB1
            obtain ⟨j, Z, rfl, hj, rfl, hZ0, hZ1, HZ, HR, Fr, HBr⟩ := hrel
            by_cases hjK : j < K
            · have d0 := Int.emod_nonneg Z (b := (P : Int)) (by omega)
              have d1 := Int.emod_lt_of_pos Z (show 0 < (P : Int) by omega)
              have g0 : 0 ≤ Z / (P : Int) := Int.ediv_nonneg (by omega) (by omega)
              have g1 : Z / (P : Int) ≤ Z := Int.ediv_le_self _ (by omega)
              have HZ2 : Hid (Z / (P : Int) = X / (P : Int) ^ (j + 1)) := by unfold Hid; rw [HZ.out]; exact div_div_pow _ _ _ (by omega)
              have HDG : Hid (digs (P : Int) X (j + 1) = digs (P : Int) X j ++ [Z % (P : Int)]) := by unfold Hid; rw [digs, HZ.out]
              have e1 : Z.tmod (P : Int) = Z % (P : Int) := Int.tmod_eq_emod_of_nonneg hZ0
              have e2 : Z.tdiv (P : Int) = Z / (P : Int) := Int.tdiv_eq_ediv_of_nonneg hZ0
              obtain ⟨Y, hY⟩ : ∃ Y, Z % (P : Int) = Y := ⟨_, rfl⟩
              obtain ⟨G, hG⟩ : ∃ G, Z / (P : Int) = G := ⟨_, rfl⟩
              rw [hY] at d0 d1 HDG e1
              rw [hG] at g0 g1 HZ2 e2
              have hPP : ¬ (P : Int) = 0 := by omega
              have HB3 := hide (HBr.out.alloc HBr.out.size (.cells #[.int .i64 Y] 3))
              have HR3 := hide (own_below HR.out ((Below.refl _ _).alloc (Nat.le_refl _) (.cells #[.int .i64 Y] 3)))
              have F3 := hide (Fr.out.below (bel_cells wr (.cells #[.int .i64 Y] 3)))
              have hltr := Fr.out.lt
              go_wp2_with (at_builtin; refine wpList_append_own _ rfl _ _ 22 rfl (w.heap.size + 1) 3 i0 (.int .i64 0) 1 8 Tryd.underlying22 HO.out.1 HO.out.2.1 HO.out.2.2.1 HO.out.2.2.2 rfl (by decide) u17 _ _ rfl HR3.out ⟨wr.heap.size, 0, none⟩ 1 1 [.int .i64 Y] rfl rfl (one_new wr _ _) ?c2 ?c3 ?c4 ?c5 ?_)
              case c2 => intro u hu; simp at hu; subst hu; rfl
              case c3 => simp only [maxLen]; omega
              case c4 => omega
              case c5 => simp; omega
              intro v' w5 hown hg _
              have HR4 : Hid (w5.ownsRow (w.heap.size + 1) 3 1 v' (j + 1) ((digs (P : Int) X (j + 1)).map (Value.int .i64))) := by
                unfold Hid
                rw [HDG.out, List.map_append]
                exact hown
              have HB5 : Hid (Below w.heap.size w w5) := HB3.out.grown hg HB3.out.size (fun k hk => by have := own_base HR3.out k hk; omega)
              have F5 : Hid (FC w5 w.heap.size 0 0) := F3.out.grown hg (own_ne HR3.out (by omega))
              clear hown hg hY hG
              go_wp2_with fail
              exact ⟨⟨j + 1, G, by simp, by omega, rfl, g0, by omega, HZ2, HR4, F5, HB5⟩, by simp [intOf]; omega⟩
            · obtain rfl : j = K := by omega
              obtain ⟨d0, d1, f0, f1⟩ := Fr.out.cells
              obtain ⟨p0, p1⟩ := Fr.out.put 0 0
              have HBf := hide (below_fault (u := .int .i64 0) (v := .int .i64 0) HBr.out (Nat.le_refl w.heap.size))
              have HRf := own_put (own_put HR.out (q := ⟨w.heap.size, 0, none⟩) (Nat.lt_succ_self _) (.int .i64 0)) (q := ⟨w.heap.size, 1, none⟩) (Nat.lt_succ_self _) (.int .i64 0)
              obtain ⟨A2, c2, rfl, hi2⟩ := Ints.of_own HRf (digs_len _ _ _)
              have HI2 := hide hi2
              clear hi2 HRf
              go_wp2_with fail
              exact bodyPost_ret (v := .tuple #[.slice A2 j c2, fv (0, 0)]) (by simp [results, Tryd.results19, go_sem, fv, p0, p1]) rfl ⟨_, by rw [HF.out], fun h => by rw [HF.out] at h; simp at h, fun _ => ⟨X, A2, c2, by rw [HPK.out], HOK.out, by rw [HPK.out]; exact HI2.out⟩, HBf.out⟩
  · have HE := hide (dig1 (a := a) (b := b) hc)
    have HC := hide hc
    obtain ⟨⟨u, v⟩, hF⟩ : ∃ F, padF p k = F := ⟨_, rfl⟩
    rw [hF] at CL HE HC
    rw [if_neg (by rw [hF] at hc; exact hc)] at CL
    have qx : (u != 0) = true := by have := HC.out; simpa using this
    simp only [fv] at CL
    clear hF hc
    go_enter Tryd.func19, Tryd.ntmps19
    go_wp2_with fail
    refine (CL _ HT.out).out.mono ?_
    rintro e w1 ⟨rfl, hb⟩
    have F1 := (((FC.fresh w).below hb).below (bel_cells w1 (.cells #[.int .i64 u, .int .i64 v] 24)))
    have HB := hide ((below_new hb).trans ((bel_cells w1 (.cells #[.int .i64 u, .int .i64 v] 24)).mono (below_new hb).size))
    obtain ⟨d0, d1, f0, f1⟩ := F1.cells
    have HF := hide F1
    clear hb F1
    go_wp2_with fail
    go_region
    obtain ⟨p0, p1⟩ := HF.out.put u v
    have HB2 := hide (below_drewN (below_fault (u := .int .i64 u) (v := .int .i64 v) HB.out (Nat.le_refl w.heap.size)) 1)
    go_wp2_with fail
    exact bodyPost_ret (v := .tuple #[.slice none 0 0, fv (u, v)]) (by simp [results, Tryd.results19, go_sem, fv, p0, p1]) rfl ⟨_, by rw [HE.out], fun _ => rfl, fun h => by rw [HE.out] at h; exact absurd h HC.out, HB2.out⟩
end Go.Proofs.YticgnjapgbjfiaaDoor
