/- The walk of equation.Coins at 1 to 20 numbers. -/
import Derived.Test.YtlchmaiflcnaoaaKCoinW
import Derived.Deep.DeepCutAuto
namespace Go.Proofs.Ytlchmaiflcnaoaa
open Go.RowKit

theorem has_max : ∀ (l : List Nat), l ≠ [] → ∃ m ∈ l, ∀ x ∈ l, x ≤ m
  | [], h => absurd rfl h
  | [x], _ => ⟨x, by simp, by simp⟩
  | x :: y :: r, _ => by
    obtain ⟨m, h1, h2⟩ := has_max (y :: r) (by simp)
    by_cases hx : x ≤ m
    · refine ⟨m, List.mem_cons_of_mem _ h1, fun z hz => ?_⟩
      rcases List.mem_cons.1 hz with rfl | hz
      · exact hx
      · exact h2 z hz
    · refine ⟨x, List.mem_cons_self .., fun z hz => ?_⟩
      rcases List.mem_cons.1 hz with rfl | hz
      · exact Nat.le_refl _
      · have := h2 z hz; omega
theorem DInv.cle {l : List Nat} {m hi : Nat} {L : List Int} {D : List Bool} {c : Nat} (h : DInv l m hi L D c) : c ≤ m := by
  have := count_le_len D
  rw [h.cnt, h.lenD] at this; exact this
theorem KSt.neg {L : List Int} {D : List Bool} {i : Nat} {kv : Int} (h : KSt L D i kv) (hk : kv < 0) : kv = -1 ∧ ∀ j, j < i → gb D j = false → gi L j < 0 := by
  rcases h with h | ⟨j, _, e, _⟩
  · exact h
  · omega
theorem KSt.nat {L : List Int} {D : List Bool} {i : Nat} {kv : Int} (h : KSt L D i kv) (hk : ¬ kv < 0) : ∃ j : Nat, kv = j ∧ j < i := by
  rcases h with ⟨e, _⟩ | ⟨j, h1, e, _⟩
  · omega
  · exact ⟨j, e, h1⟩

set_option maxRecDepth 100000 in
set_option maxHeartbeats 1600000 in
theorem coins_main (A : Option Addr) (n c : Nat) (l : List Int) (w : World) (hl : l.length = n) (hn1 : 1 ≤ n) (hn2 : n ≤ 20) (hA : Ints w w.heap.size A l) :
    Calls Try.prog 58 #[.slice A n c] w (RetCoins w l) := by
  have CF := fun k W => hide (efault_any 3 k W)
  have CN := fun W => hide (efault_any 5 0 W)
  have HL := hide hl
  have HA := hide hA
  have HNB : Hid (¬ (l.length < 1 ∨ 20 < l.length)) := hide (by omega)
  clear hl hA
  go_enter Try.func58, Try.ntmps58
  go_wp2_with fail
  have F0 := hide (FC.fresh w)
  have B0 := hide (bel_e w (.cells #[.int .i64 0, .int .i64 0] 26))
  obtain ⟨wa, hwa⟩ : ∃ W, w.alloc (.cells #[.int .i64 0, .int .i64 0] 26) = W := ⟨_, rfl⟩
  rw [hwa] at F0 B0 ⊢
  clear hwa
  go_loopw [3, 5, 31] (fun zv gv iv wr => ∃ k j : Nat, k ≤ n ∧ zv = .int .i64 0 ∧ iv = .int .i64 k ∧ gv = .int .i64 (gAll (l.take k) : Nat) ∧ gAll (l.take k) ≤ 1000 ∧ wr = wa.drewN j ∧ Hid (∀ j y, j < k → l[j]? = some y → 1 ≤ y ∧ y ≤ 1000)) (fun _ _ iv _ => n - (intOf iv).toNat)
  case atStart => exact ⟨0, 0, by omega, rfl, rfl, rfl, by rw [List.take_zero]; decide, rfl, fun j y h => by omega⟩
  case round =>
    obtain ⟨k, j, hk, rfl, rfl, rfl, hg, rfl, HG⟩ := hrel
    by_cases hkn : k < n
    · obtain ⟨ad, x, rfl, hx, hab, hac⟩ := HA.out.at_ (k := k) (by rw [HL.out]; exact hkn)
      have cx := (B0.out.cell (p := ad.add k) (by rw [add_block]; exact hab)).trans hac
      have HX := hide hx
      clear hac hx
      by_cases h1 : x < 1
      · as_aux_lemma =>
        have HK : Hid (CoinOk l 0 0 (3, (k : Int))) := hide (bad_case HNB.out HG.out HX.out (by omega) rfl)
        clear CN HG HX HA
        go_wp2_with fail
        refine (CF _ _).out.mono ?_
        rintro e w1 ⟨rfl, hb⟩
        have F1 := (F0.out.below (below_drewN (Below.refl _ _) j)).below hb
        have HB := hide ((below_drewN B0.out j).trans (hb.mono (below_drewN B0.out j).size))
        obtain ⟨d0, d1, f0, f1⟩ := F1.cells
        obtain ⟨p0, p1⟩ := F1.put 3 k
        have B6 := hide (below_fault (u := .int .i64 3) (v := .int .i64 k) HB.out (Nat.le_refl w.heap.size))
        clear hb F1
        go_wp2_with fail
        exact bodyPost_ret (v := .tuple #[.int .i64 0, .int .i64 0, fv (3, (k : Int))]) (by simp [results, Try.results58, go_sem, fv, p0, p1]) rfl ⟨0, 0, (3, (k : Int)), rfl, HK.out, B6.out⟩
      · by_cases h2 : 1000 < x
        · as_aux_lemma =>
          have HK : Hid (CoinOk l 0 0 (3, (k : Int))) := hide (bad_case HNB.out HG.out HX.out (by omega) rfl)
          clear CN HG HX HA
          go_wp2_with fail
          refine (CF _ _).out.mono ?_
          rintro e w1 ⟨rfl, hb⟩
          have F1 := (F0.out.below (below_drewN (Below.refl _ _) j)).below hb
          have HB := hide ((below_drewN B0.out j).trans (hb.mono (below_drewN B0.out j).size))
          obtain ⟨d0, d1, f0, f1⟩ := F1.cells
          obtain ⟨p0, p1⟩ := F1.put 3 k
          have B6 := hide (below_fault (u := .int .i64 3) (v := .int .i64 k) HB.out (Nat.le_refl w.heap.size))
          clear hb F1
          go_wp2_with fail
          exact bodyPost_ret (v := .tuple #[.int .i64 0, .int .i64 0, fv (3, (k : Int))]) (by simp [results, Try.results58, go_sem, fv, p0, p1]) rfl ⟨0, 0, (3, (k : Int)), rfl, HK.out, B6.out⟩
        · as_aux_lemma =>
          have CD := fun W => hide (divisor_any ((gAll (l.take k) : Nat) : Int) x W (by omega) (by omega) (by omega) (by omega))
          have e : ((Int.gcd ((gAll (l.take k) : Nat) : Int) x : Nat) : Int) = ((gAll (l.take (k + 1)) : Nat) : Int) := by
            rw [gAll_snoc HX.out]; rfl
          rw [e] at CD
          have hg2 : gAll (l.take (k + 1)) ≤ 1000 := by
            rw [gAll_snoc HX.out]
            have := Nat.gcd_le_right (gAll (l.take k)) (n := x.natAbs) (by omega)
            omega
          have HG2 : Hid (∀ j y, j < k + 1 → l[j]? = some y → 1 ≤ y ∧ y ≤ 1000) := hide (fun j y hj hy => by
            rcases Nat.lt_succ_iff_lt_or_eq.1 hj with e | e
            · exact HG.out j y e hy
            · subst e
              have := HX.out
              rw [hy] at this
              injection this with this
              omega)
          clear e CF CN HG HX HA
          go_wp2_with fail
          refine (CD _).out.mono ?_
          rintro e w1 ⟨rfl, nd, rfl⟩
          clear CD
          go_wp2_with fail
          go_roundw
          case rel => exact ⟨k + 1, _, by omega, rfl, by go_num, rfl, hg2, rfl, HG2⟩
          case measure => simp [intOf]; omega
    · obtain rfl : k = n := by omega
      have hgood := good_all (l := l) (by rw [HL.out]; exact HG.out)
      have eG : l.take k = l := List.take_of_length_le (by rw [HL.out]; omega)
      rw [eG] at hg ⊢
      have HGD := hide hgood
      have F1 := hide (F0.out.below (below_drewN (Below.refl _ _) j))
      have B1 := hide (below_drewN B0.out j)
      obtain ⟨wb, hwb⟩ : ∃ W, wa.drewN j = W := ⟨_, rfl⟩
      rw [hwb] at F1 B1 ⊢
      clear hwb F0 B0 HG CF hgood eG
      by_cases hg1 : gAll l = 1
      · rw [hg1]
        have HG1 := hide hg1
        have CM := hide (min_any A k c l wb HL.out (by omega) (by omega) ((HA.out.below B1.out (Nat.le_refl _)).more B1.out.size))
        clear hg hg1 CN
        go_wp2_with fail
        refine CM.out.mono ?_
        rintro e w1 ⟨⟨m, rfl, hmin⟩, rfl⟩
        have hm1 := HGD.out m hmin.1
        obtain ⟨M, rfl⟩ : ∃ M : Nat, m = M := ⟨m.toNat, by omega⟩
        have hM1 : 1 ≤ M := by omega
        have hM2 : M ≤ 1000 := by omega
        have HMIN := hide hmin
        have hmk := run_make_row' (P := Try.prog) 53 3 (.int .i64 0) 8 Try.underlying53 iinfo rfl .i64 .i64 M (by omega) (by omega)
        obtain ⟨B, hBB⟩ : ∃ B, wb.heap.size = B := ⟨_, rfl⟩
        have R0 : Hid (JRow (wb.alloc (.cells (madeCells #[.int .i64 0] M) 3)) B M (fun _ => 0)) :=
          hide ⟨⟨_, hBB ▸ heap_alloc_new wb _, by simp [madeCells], fun i hi => by simp [madeCells, hi, Nat.mod_one]⟩⟩
        have F2 := hide (F1.out.below (bel_e wb (.cells (madeCells #[.int .i64 0] M) 3)))
        have B2 := hide (B1.out.alloc B1.out.size (.cells (madeCells #[.int .i64 0] M) 3))
        have hwB : w.heap.size < B := by rw [← hBB]; exact F1.out.lt
        clear hmin hm1 CM
        go_wp2_with fail
        obtain ⟨wc, hwc⟩ : ∃ W, wb.alloc (.cells (madeCells #[.int .i64 0] M) 3) = W := ⟨_, rfl⟩
        rw [hwc] at F2 B2 R0 ⊢
        (try rw [hBB])
        clear hwc hBB F1 B1 hmk
        go_loopg [57] M (fun J iv wr => ∃ i : Nat, J = M - i ∧ iv = .int .i64 i ∧ i ≤ M ∧ Hid (JRow wr B M (fun x => if x < i then -1 else 0)) ∧ Hid (FC wr w.heap.size 0 0) ∧ Hid (Below w.heap.size w wr))
        case atStart => exact ⟨0, by omega, rfl, by omega, R0.out.ext (fun i hi => by simp), F2, B2⟩
        case round =>
          clear R0 F2 B2
          obtain ⟨i, hJ, rfl, hi, HI, HF, HB⟩ := hrel
          by_cases hlt : i < M
          · as_aux_lemma =>
            obtain ⟨ci, fi⟩ := HI.out.cell hlt
            have HI2 : Hid (JRow (wr.setCell ⟨B, i, none⟩ (.int .i64 (-1))) B M (fun x => if x < i + 1 then -1 else 0)) := hide ((HI.out.set hlt (-1)).ext (fun x hx => by
              by_cases h1 : x = i
              · subst h1; simp
              · by_cases h2 : x < i
                · rw [if_neg h1, if_pos h2, if_pos (by omega)]
                · rw [if_neg h1, if_neg h2, if_neg (by omega)]))
            have HF2 : Hid (FC (wr.setCell ⟨B, i, none⟩ (.int .i64 (-1))) w.heap.size 0 0) := hide ((far_set wr _ (by omega)).trans HF.out)
            have HB2 := hide (HB.out.setCell (p := ⟨B, i, none⟩) (by show w.heap.size ≤ B; omega) (.int .i64 (-1)))
            clear HI HF HB
            go_wp2_with fail
            go_roundg (M - (i + 1))
            case measure => omega
            case rel => exact ⟨i + 1, rfl, by go_num, by omega, HI2, HF2, HB2⟩
          · obtain rfl : i = M := by omega
            obtain ⟨c0, f0⟩ := HI.out.cell (i := 0) (by omega)
            have HS : Hid (JRow (wr.setCell ⟨B, 0, none⟩ (.int .i64 0)) B i (gi ((List.replicate i (-1)).set 0 0))) := hide ((HI.out.set (i := 0) (by omega) 0).ext (fun x hx => by
              rw [gi_set (by simp; omega), gi_rep]
              by_cases h : x = 0
              · rw [if_pos h, if_pos h]
              · rw [if_neg h, if_neg h, if_pos hx]))
            have HF2 : Hid (FC (wr.setCell ⟨B, 0, none⟩ (.int .i64 0)) w.heap.size 0 0) := hide ((far_set wr _ (by omega)).trans HF.out)
            have HB2 := hide (HB.out.setCell (p := ⟨B, 0, none⟩) (by show w.heap.size ≤ B; omega) (.int .i64 0))
            have hmk := run_make_row' (P := Try.prog) 113 4 (.bool false) 1 Try.underlying113 binfo1 rfl .i64 .i64 i (by omega) (by omega)
            have hBl := HI.out.lt
            obtain ⟨wd, hwd⟩ : ∃ W, wr.setCell ⟨B, 0, none⟩ (.int .i64 0) = W := ⟨_, rfl⟩
            rw [hwd] at HS HF2 HB2
            have hBd : B < wd.heap.size := by rw [← hwd]; simpa using hBl
            clear HI HF HB
            go_upto_region 21 with (fail)
            (try rw [hwd])
            clear c0 f0 hwd hBl
            obtain ⟨G, hG⟩ : ∃ G, wd.heap.size = G := ⟨_, rfl⟩
            have S0 : Hid (CSt w (wd.alloc (.cells (madeCells #[.bool false] i) 4)) B G i ((List.replicate i (-1)).set 0 0) (List.replicate i false)) := by
              have bb := bel_e wd (.cells (madeCells #[.bool false] i) 4)
              refine hide ⟨HF2.out.below bb, HS.out.block (bb.block B hBd), ⟨⟨_, hG ▸ heap_alloc_new wd _, by simp [madeCells], fun j hj => ?_⟩⟩, HB2.out.alloc HB2.out.size _⟩
              rw [gb_rep]
              simp [madeCells, hj, Nat.mod_one]
            go_wp2_with fail
            obtain ⟨we, hwe⟩ : ∃ W, wd.alloc (.cells (madeCells #[.bool false] i) 4) = W := ⟨_, rfl⟩
            rw [hwe] at S0 ⊢
            (try rw [hG])
            have hBG : B < G := by omega
            clear hwe hG hmk HS HF2 HB2 hBd
            obtain ⟨ls, hls⟩ : ∃ ls : List Nat, ls = l.map Int.natAbs := ⟨_, rfl⟩
            have hlsl : l = ls.map (fun x => ((x : Nat) : Int)) := by rw [hls]; exact natl HGD.out
            have hlen : ls.length = k := by rw [hls, List.length_map]; exact HL.out
            have hlr : ∀ x ∈ ls, 1 ≤ x ∧ x ≤ 1000 := fun x hx => by
              have := HGD.out (x : Int) (by rw [hlsl]; exact List.mem_map.2 ⟨x, hx, rfl⟩)
              omega
            obtain ⟨tp, hhi1, hhi2⟩ := has_max ls (by intro e; rw [e] at hlen; simp at hlen; omega)
            have hhi := hlr tp hhi1
            have HT := hide hhi2
            have HLS := hide (And.intro hlsl (And.intro hlen (And.intro hlr (And.intro hhi1 hhi2))))
            have HGL : Hid (ls.foldl Nat.gcd 0 = 1) := by have := HG1.out; unfold gAll at this; rw [← hls] at this; exact this
            have HMI : Hid (i ∈ ls ∧ ∀ x ∈ ls, i ≤ x) := by
              obtain ⟨a1, a2⟩ := HMIN.out
              rw [hlsl] at a1 a2
              refine hide ⟨?_, fun x hx => ?_⟩
              · obtain ⟨x, hx, e⟩ := List.mem_map.1 a1
                have : x = i := by omega
                exact this ▸ hx
              · have := a2 (x : Int) (List.mem_map.2 ⟨x, hx, rfl⟩)
                omega
            have D0 : Hid (DInv ls i tp ((List.replicate i (-1)).set 0 0) (List.replicate i false) 0) := hide (DInv.start (by omega))
            clear hls hlsl hlen hlr hhi1 hhi2 HMIN HG1 HL HGD HNB
            go_loopg [12] (i + 1) (fun J kv wr => ∃ cc : Nat, ∃ L : List Int, ∃ D : List Bool, J = i + 1 - cc ∧ cc ≤ i ∧ Hid (DInv ls i tp L D cc) ∧ Hid (CSt w wr B G i L D))
            case atStart => exact ⟨0, _, _, by omega, by omega, D0, S0⟩
            case round =>
              clear D0 S0
              obtain ⟨cc, L, D, hJ, hcc, HD, HS⟩ := hrel
              obtain ⟨wo, rfl⟩ : ∃ W, W = wr := ⟨_, rfl⟩
              go_wp2_with fail
              go_loop [12, 70] (fun kv iv => ∃ j : Nat, ∃ kk : Int, j ≤ i ∧ iv = .int .i64 j ∧ kv = .int .i64 kk ∧ Hid (KSt L D j kk)) (fun _ iv => i - (intOf iv).toNat)
              case atStart => exact ⟨0, -1, by omega, rfl, rfl, KSt.start L D⟩
              case round =>
                obtain ⟨j, kk, hj, rfl, rfl, HK⟩ := hrel
                by_cases hji : j < i
                · as_aux_lemma =>
                  obtain ⟨cl, _⟩ := HS.out.l.cell hji
                  obtain ⟨cd, _⟩ := HS.out.d.cell hji
                  obtain ⟨v, hv⟩ : ∃ v, gi L j = v := ⟨_, rfl⟩
                  rw [hv] at cl
                  have HV := hide hv
                  clear hv
                  cases hb : gb D j with
                  | true =>
                    have HK2 := hide (HK.out.skip (.inl hb))
                    rw [hb] at cd
                    clear hb
                    go_wp2_with fail
                    go_round
                    case rel => exact ⟨j + 1, kk, by omega, by go_num, rfl, HK2⟩
                    case measure => simp [intOf]; omega
                  | false =>
                    have HBB := hide hb
                    rw [hb] at cd
                    clear hb
                    by_cases hv0 : v < 0
                    · have HK2 := hide (HK.out.skip (.inr (by rw [HV.out]; exact hv0)))
                      go_wp2_with fail
                      go_round
                      case rel => exact ⟨j + 1, kk, by omega, by go_num, rfl, HK2⟩
                      case measure => simp [intOf]; omega
                    · by_cases hkk : kk < 0
                      · have HK2 := hide (HK.out.take HBB.out (by rw [HV.out]; omega) (.inl (HK.out.neg hkk).1))
                        go_wp2_with fail
                        go_round
                        case rel => exact ⟨j + 1, (j : Int), by omega, by go_num, rfl, HK2⟩
                        case measure => simp [intOf]; omega
                      · obtain ⟨j0, rfl, hj0⟩ := HK.out.nat hkk
                        obtain ⟨cl0, _⟩ := HS.out.l.cell (show j0 < i by omega)
                        obtain ⟨v0, hv0'⟩ : ∃ v, gi L j0 = v := ⟨_, rfl⟩
                        rw [hv0'] at cl0
                        have HV0 := hide hv0'
                        clear hv0'
                        by_cases hlt : v < v0
                        · have HK2 := hide (HK.out.take HBB.out (by rw [HV.out]; omega) (.inr (fun q e => by
                            obtain rfl : j0 = q := by omega
                            rw [HV.out, HV0.out]; exact hlt)))
                          go_wp2_with fail
                          go_round
                          case rel => exact ⟨j + 1, (j : Int), by omega, by go_num, rfl, HK2⟩
                          case measure => simp [intOf]; omega
                        · have HK2 := hide (HK.out.stay (by rw [HV.out, HV0.out]; omega))
                          go_wp2_with fail
                          go_round
                          case rel => exact ⟨j + 1, (j0 : Int), by omega, by go_num, rfl, HK2⟩
                          case measure => simp [intOf]; omega
                · obtain rfl : j = i := by omega
                  by_cases hkk : kk < 0
                  · have HF : Hid (Least ls j tp L) := hide (HD.out.final (by omega) HGL.out (HK.out.neg hkk).2)
                    have HCO : Hid (∀ a b, a = lastK j L j → b = manyK j L j → CoinOk l a b (0, 0)) := hide (fun a b ha hb => by
                      obtain ⟨a1, a2, a3, a4, a5⟩ := HLS.out
                      refine ⟨?_, fun h => absurd rfl h, fun _ => ⟨ls, j, tp, L, a1, a3, HF.out, HMI.out.1, HMI.out.2, a4, a5, ha, hb⟩⟩
                      unfold coinF
                      rw [if_neg (by rw [a1, List.length_map, a2]; omega), badK_all l 0 (fun x hx => by
                        rw [a1] at hx
                        obtain ⟨y, hy, rfl⟩ := List.mem_map.1 hx
                        have := a3 y hy
                        omega), if_neg (by simp), if_neg]
                      rw [Decidable.not_not, ← HGL.out]
                      unfold gAll
                      rw [a1, List.map_map]
                      congr 1
                      conv => rhs; rw [← List.map_id ls]
                      rfl)
                    clear HK HD HGL HMI HLS
                    go_wp2_with fail
                    go_loop [2, 3, 141] (fun av bv iv => ∃ q : Nat, q ≤ j ∧ iv = .int .i64 q ∧ av = .int .i64 (lastK j L q) ∧ bv = .int .i64 (manyK j L q)) (fun _ _ iv => j - (intOf iv).toNat)
                    case atStart => exact ⟨0, by omega, rfl, rfl, rfl⟩
                    case round =>
                      obtain ⟨q, hq, rfl, rfl, rfl⟩ := hrel
                      have hmh : j * tp ≤ 1000000 := Nat.mul_le_mul hM2 hhi.2
                      have b1 := lastK_bound HF.out q hq
                      have b2 := (lastK_is j L q).2.1
                      have b3 := manyK_bound HF.out (by omega) q hq
                      have b4 : q * (j * tp) ≤ 1000 * 1000000 := Nat.mul_le_mul (by omega) hmh
                      by_cases hqj : q < j
                      · as_aux_lemma =>
                        obtain ⟨cl, _⟩ := HS.out.l.cell hqj
                        obtain ⟨v, hv, _, hvr, hvb, _⟩ := HF.out.val q hqj
                        have hqv : q ≤ v := by have := Nat.mod_le v j; omega
                        have HLA : Hid (lastK j L (q + 1) = max (lastK j L q) ((v : Int) - j)) := hide (by rw [lastK, hv])
                        have HMA : Hid (manyK j L (q + 1) = manyK j L q + ((v : Int) - q) / j) := hide (by rw [manyK, hv])
                        rw [hv] at cl
                        obtain ⟨la, hla⟩ : ∃ la, lastK j L q = la := ⟨_, rfl⟩
                        obtain ⟨ma, hma⟩ : ∃ ma, manyK j L q = ma := ⟨_, rfl⟩
                        rw [hla] at b1 b2 HLA ⊢
                        rw [hma] at b3 HMA ⊢
                        obtain ⟨Q, hQ⟩ : ∃ Q : Nat, (v - q) / j = Q := ⟨_, rfl⟩
                        have hQ1 : ((v : Int) - (q : Int)) / (j : Int) = (Q : Int) := by
                          rw [show ((v : Int) - (q : Int)) = ((v - q : Nat) : Int) by omega, ← Int.natCast_ediv, hQ]
                        have hQ2 : ((v : Int) - (q : Int)).tdiv (j : Int) = (Q : Int) := by rw [Int.tdiv_eq_ediv_of_nonneg (by omega), hQ1]
                        have hQ3 : Q ≤ v := by rw [← hQ]; exact Nat.le_trans (Nat.div_le_self ..) (Nat.sub_le ..)
                        have hvm : v ≤ 1000000 := by omega
                        have W1 : IntKind.i64.wrap ((v : Int) - (j : Int)) = (v : Int) - j := by rw [IntKind.wrap_i64]; omega
                        have W2 : IntKind.i64.wrap ((v : Int) - (q : Int)) = (v : Int) - q := by rw [IntKind.wrap_i64]; omega
                        have W3 : IntKind.i64.wrap (ma + (Q : Int)) = ma + Q := by rw [IntKind.wrap_i64]; omega
                        rw [hQ1] at HMA
                        clear hla hma hv hvr hvb hQ b4 hmh HF HCO
                        go_wp2_with fail
                        go_round
                        case rel => exact ⟨q + 1, by omega, by go_num, by rw [HLA.out], by rw [HMA.out]⟩
                        case measure => simp [intOf]; omega
                      · as_aux_lemma =>
                        obtain rfl : q = j := by omega
                        obtain ⟨la, hla⟩ : ∃ la, lastK q L q = la := ⟨_, rfl⟩
                        obtain ⟨ma, hma⟩ : ∃ ma, manyK q L q = ma := ⟨_, rfl⟩
                        have HC := hide (HCO.out la ma hla.symm hma.symm)
                        rw [hla, hma]
                        have F2 := HS.out.f
                        obtain ⟨d0, d1, f0, f1⟩ := F2.cells
                        obtain ⟨p0, p1⟩ := F2.put 0 0
                        have B6 := hide (below_fault (u := .int .i64 0) (v := .int .i64 0) HS.out.b (Nat.le_refl w.heap.size))
                        clear b1 b2 b3 b4 hmh hla hma HCO HF F2
                        go_wp2_with fail
                        go_region
                        go_wp2_with fail
                        exact bodyPost_ret (v := .tuple #[.int .i64 la, .int .i64 ma, fv (0, 0)]) (by simp [results, Try.results58, go_sem, fv, p0, p1]) rfl ⟨la, ma, (0, 0), rfl, HC.out, B6.out.drew⟩
                  · obtain ⟨j0, rfl, hj0⟩ := HK.out.nat hkk
                    have HCA := hide (HK.out.cand HD.out.lenL)
                    obtain ⟨_, fd⟩ := HS.out.d.cell hj0
                    obtain ⟨cd, _⟩ := HS.out.d.cell hj0
                    have S1 := hide (HS.out.setD hwB hBG HD.out.lenD hj0 true)
                    have HC0 := hide (CInv.start HD.out HCA.out)
                    obtain ⟨a, ha⟩ : ∃ a : Nat, gi L j0 = a := ⟨(gi L j0).toNat, by have := HCA.out.pos; omega⟩
                    have hab : a ≤ 1000000 := by
                      have h1 := HD.out.bnd j0
                      have h2 : cc * tp ≤ 1000 * 1000 := Nat.mul_le_mul (by omega) (by omega)
                      omega
                    have HAA := hide ha
                    clear HK hkk ha
                    go_upto_region 31 with (fail)
                    obtain ⟨wp, hwp⟩ : ∃ W, wo.setCell ⟨G, j0, none⟩ (.bool true) = W := ⟨_, rfl⟩
                    rw [hwp] at S1
                    (try rw [hwp])
                    clear fd cd hwp
                    go_wp2_with fail
                    go_loopw [105] (fun jv ws => ∃ jj : Nat, ∃ L' : List Int, jj ≤ k ∧ jv = .int .i64 jj ∧ Hid (CInv ls j tp L D cc j0 jj L') ∧ Hid (CSt w ws B G j L' (D.set j0 true))) (fun jv _ => k - (intOf jv).toNat)
                    case atStart => exact ⟨0, L, by omega, rfl, HC0, S1⟩
                    case round =>
                      clear HC0 S1
                      obtain ⟨jj, L', hjj, rfl, HCI, HS2⟩ := hrel
                      obtain ⟨wi, rfl⟩ : ∃ W, W = wr := ⟨_, rfl⟩
                      by_cases hjk : jj < k
                      · as_aux_lemma =>
                        obtain ⟨ad, x, rfl, hx, hab2, hac⟩ := HA.out.at_ (k := jj) (by rw [HLS.out.1, List.length_map, HLS.out.2.1]; exact hjk)
                        rw [HLS.out.1, List.getElem?_map] at hx
                        obtain ⟨n0, hn0, rfl⟩ : ∃ y : Nat, ls[jj]? = some y ∧ x = (y : Int) := by
                          cases e : ls[jj]? with
                          | none => rw [e] at hx; cases hx
                          | some y => rw [e] at hx; injection hx with hx; exact ⟨y, rfl, hx.symm⟩
                        have hnr := HLS.out.2.2.1 n0 (List.mem_of_getElem? hn0)
                        have hnt : n0 ≤ tp := by
                          have := HT.out n0 (List.mem_of_getElem? hn0); exact this
                        have cx := (HS2.out.b.cell (p := ad.add jj) (by rw [add_block]; exact hab2)).trans hac
                        obtain ⟨ck, _⟩ := HS2.out.l.cell hj0
                        rw [HCI.out.same j0 (.inr rfl), HAA.out] at ck
                        obtain ⟨r0, hr0⟩ : ∃ r0, (a + n0) % j = r0 := ⟨_, rfl⟩
                        have hr0l : r0 < j := by rw [← hr0]; exact Nat.mod_lt _ (by omega)
                        obtain ⟨cr, fr⟩ := HS2.out.l.cell hr0l
                        obtain ⟨v, hv⟩ : ∃ v, gi L' r0 = v := ⟨_, rfl⟩
                        rw [hv] at cr
                        have hto : (gi L j0).toNat = a := by rw [HAA.out]; rfl
                        have HN0 := hide hn0
                        have HR0 : Hid (((gi L j0).toNat + n0) % j = r0) := hide (by rw [hto, hr0])
                        have HVV := hide hv
                        have hm1 : ((a : Int) + (n0 : Int)) % (j : Int) = (r0 : Int) := by rw [← hr0]; push_cast; rfl
                        clear hx hac hv hn0 hto hr0
                        by_cases hv0 : v < 0
                        · have HC2 := hide (CInv.step_set HD.out HCA.out HCI.out HN0.out (by omega) hnt (.inl (by rw [HR0.out, HVV.out]; exact hv0)))
                          rw [HR0.out, HAA.out] at HC2
                          have HS3 := hide (HS2.out.setL hwB hBG HCI.out.len hr0l ((a : Int) + n0))
                          go_wp2_with fail
                          go_roundw
                          case rel => exact ⟨jj + 1, _, by omega, by go_num, HC2, HS3⟩
                          case measure => simp [intOf]; omega
                        · by_cases hlt : (a : Int) + n0 < v
                          · have HC2 := hide (CInv.step_set HD.out HCA.out HCI.out HN0.out (by omega) hnt (.inr (by rw [HR0.out, HVV.out, HAA.out]; exact hlt)))
                            rw [HR0.out, HAA.out] at HC2
                            have HS3 := hide (HS2.out.setL hwB hBG HCI.out.len hr0l ((a : Int) + n0))
                            go_wp2_with fail
                            go_roundw
                            case rel => exact ⟨jj + 1, _, by omega, by go_num, HC2, HS3⟩
                            case measure => simp [intOf]; omega
                          · have HC2 := hide (CInv.step_keep HCI.out HN0.out (by rw [HR0.out, HVV.out]; omega) (by rw [HR0.out, HVV.out, HAA.out]; omega))
                            go_wp2_with fail
                            go_roundw
                            case rel => exact ⟨jj + 1, _, by omega, by go_num, HC2, HS2⟩
                            case measure => simp [intOf]; omega
                      · as_aux_lemma =>
                        obtain rfl : jj = k := by omega
                        have HCI2 := HCI.out
                        rw [← HLS.out.2.1] at HCI2
                        have HDN := hide (CInv.done HD.out HCA.out HCI2)
                        have hcl := HDN.out.cle
                        clear HCI2
                        go_wp2_with fail
                        go_roundg (j + 1 - (cc + 1))
                        case measure => omega
                        case rel => exact ⟨cc + 1, L', _, rfl, hcl, HDN, HS2⟩
      · as_aux_lemma =>
        have HK : Hid (CoinOk l 0 0 (5, 0)) := hide ⟨by unfold coinF; rw [if_neg HNB.out, badK_all l 0 HGD.out, if_neg (by simp), if_pos hg1], fun _ => ⟨rfl, rfl⟩, fun h => by simp at h⟩
        have q1 : (((gAll l : Nat) : Int) == 1) = false := by rw [beq_eq_false_iff_ne]; omega
        have q2 : decide (((gAll l : Nat) : Int) = 1) = false := by rw [decide_eq_false_iff_not]; omega
        have q3 : (((gAll l : Nat) : Int) != 1) = true := by rw [bne_iff_ne]; omega
        clear hg1
        go_wp2_with fail
        refine (CN _).out.mono ?_
        rintro e w1 ⟨rfl, hb⟩
        have F2 := F1.out.below hb
        have HB := hide (B1.out.trans (hb.mono B1.out.size))
        obtain ⟨d0, d1, f0, f1⟩ := F2.cells
        obtain ⟨p0, p1⟩ := F2.put 5 0
        have B6 := hide (below_fault (u := .int .i64 5) (v := .int .i64 0) HB.out (Nat.le_refl w.heap.size))
        clear hb F2
        go_wp2_with fail
        exact bodyPost_ret (v := .tuple #[.int .i64 0, .int .i64 0, fv (5, 0)]) (by simp [results, Try.results58, go_sem, fv, p0, p1]) rfl ⟨0, 0, (5, 0), rfl, HK.out, B6.out⟩
end Go.Proofs.Ytlchmaiflcnaoaa
