/- The walk of the answers' CertFault, at a tree that is not too deep. -/
import Derived.Test.YtlchmaiflcnaoaaDoorKCertE
import Derived.Test.YtlchmaiflcnaoaaDoorKRefC
namespace Go.Proofs.YtlchmaiflcnaoaaDoor
open Go.RowKit

/-- CertFault's frame -/
structure ESt (w W : World) : Prop where
  e : FC W (w.heap.size + 1) 0 0
  b : Below w.heap.size w W
theorem ESt.below {w W W' : World} (h : ESt w W) (k : Below W.heap.size W W') : ESt w W' := ⟨h.e.below k, h.b.trans (k.mono h.b.size)⟩
theorem ESt.start (w : World) (n r : Int) (s : Value) : ESt w ((w.alloc (.cells #[.int .i64 n, .int .i64 r, s] 24)).alloc (.cells #[.int .i64 0, .int .i64 0] 28)) := by
  refine ⟨?_, (bel_o w _).trans ((bel_o _ _).mono (by simp))⟩
  have := FC.made (w.alloc (.cells #[.int .i64 n, .int .i64 r, s] 24)) 0 0
  rwa [World.size_alloc] at this
theorem ESt.fin {w W : World} (h : ESt w W) (x y : Int) : FC ((W.setCell ⟨w.heap.size + 1, 0, none⟩ (.int .i64 x)).setCell ⟨w.heap.size + 1, 1, none⟩ (.int .i64 y)) (w.heap.size + 1) x y ∧ Below w.heap.size w ((W.setCell ⟨w.heap.size + 1, 0, none⟩ (.int .i64 x)).setCell ⟨w.heap.size + 1, 1, none⟩ (.int .i64 y)) :=
  ⟨(h.e.set0 x).set1 y, (h.b.setCell (p := ⟨w.heap.size + 1, 0, none⟩) (Nat.le_succ _) (.int .i64 x)).setCell (p := ⟨w.heap.size + 1, 1, none⟩) (Nat.le_succ _) (.int .i64 y)⟩

theorem scan_many {T : List Tree} {i : Nat} {x : Tree} (h : T[i]? = some x) (hi : 1000 ≤ i) : scanL (T.drop i) i = (2, 0) := by
  obtain ⟨hl, rfl⟩ := List.getElem?_eq_some_iff.1 h
  rw [List.drop_eq_getElem_cons hl, scanL, if_pos hi]
theorem scan_bad {T : List Tree} {i : Nat} {x : Tree} {c : Int} (h : T[i]? = some x) (hi : i < 1000) (hc : x.own = c) (h0 : c ≠ 0) : scanL (T.drop i) i = (c, (i : Int)) := by
  obtain ⟨hl, rfl⟩ := List.getElem?_eq_some_iff.1 h
  rw [List.drop_eq_getElem_cons hl, scanL, if_neg (by omega), if_pos (by rw [hc]; exact h0), hc]
theorem scan_go {T : List Tree} {i : Nat} {x : Tree} (h : T[i]? = some x) (hi : i < 1000) (hc : x.own = 0) : scanL (T.drop i) i = scanL (T.drop (i + 1)) (i + 1) := by
  obtain ⟨hl, rfl⟩ := List.getElem?_eq_some_iff.1 h
  rw [List.drop_eq_getElem_cons hl, scanL, if_neg (by omega), if_neg (by rw [hc]; simp)]
theorem scan_end {T : List Tree} {i : Nat} (h : i = T.length) : scanL (T.drop i) i = (0, 0) := by rw [h, List.drop_length, scanL]
theorem own_mid {x : Tree} {nn rr E : Nat} (hn : x.n = nn) (hr : x.r = rr) (hE : nn = E + 1) {ns : List Int} (hns : x.l.map Tree.n = ns) (h1 : 2 < nn) (h2 : nn ≤ 1000000000000000000) (h3 : 2 ≤ rr) (h4 : rr < nn) :
    (chkP E 1 ns = false → x.own = 6) ∧ (chkP E 1 ns = true → (decide (rr ^ E % nn = 1) && ns.all (pwB E nn rr)) = false → x.own = 10) ∧ (chkP E 1 ns = true → (decide (rr ^ E % nn = 1) && ns.all (pwB E nn rr)) = true → x.own = 0) := by
  have e : x.own = if chkP E 1 ns = false then 6 else if (decide (rr ^ E % nn = 1) && ns.all (pwB E nn rr)) = false then 10 else 0 := by
    unfold Tree.own
    rw [hn, hr, hns, nodeF_mid (by omega) (by omega) (by omega) (by omega), show ((nn : Int) - 1).toNat = E by omega]
    unfold powB
    rw [show (nn : Int).toNat - 1 = E by omega]
    rfl
  rw [e]
  refine ⟨fun h => if_pos h, fun h h' => ?_, fun h h' => ?_⟩
  · rw [if_neg (show ¬ chkP E 1 ns = false by rw [h]; simp), if_pos h']
  · rw [if_neg (show ¬ chkP E 1 ns = false by rw [h]; simp), if_neg (show ¬ (decide (rr ^ E % nn = 1) && ns.all (pwB E nn rr)) = false by rw [h']; simp)]
/-- the last part's number ahead of the k-th one -/
def lastP (ns : List Int) (k : Nat) : Int := if k = 0 then 1 else ns.getD (k - 1) 1
theorem lastP_succ {ns : List Int} {k : Nat} {q : Int} (h : ns[k]? = some q) : lastP ns (k + 1) = q := by
  unfold lastP
  rw [if_neg (by omega), Nat.add_sub_cancel, List.getD_eq_getElem?_getD, h]
  rfl

set_option maxRecDepth 100000 in
set_option maxHeartbeats 6400000 in
theorem certFault_any (W0 : World) (B : Nat) (t : Tree) (s : Value) (hs : CAt W0 B t s) (hd : deepT t 0 = false) (w : World) (hB : B ≤ w.heap.size) (hW : Below B W0 w) :
    Calls Tryd.prog 7 #[.agg #[.int .i64 t.n, .int .i64 t.r, s]] w (RetFault w (scanL (pre t) 0)) := by
  obtain ⟨A, n0, cap, rfl⟩ := hs.form
  have S0 := hide (ESt.start w t.n t.r (.slice A n0 cap))
  have CP := hide (fun W (h1 : w.heap.size ≤ W.heap.size) (h2 : Below w.heap.size w W) => certParts_any W0 B t _ hs hd W (Nat.le_trans hB h1) (hW.trans (h2.mono hB)))
  have HLB := hide (fun W (k : Below w.heap.size w W) => show Below B W0 W from hW.trans (k.mono hB))
  have CF := fun (c : Int) (i : Int) W => hide (refF_any c i W)
  obtain ⟨c0, c1, c2⟩ := (CB.made w t.n t.r (.slice A n0 cap)).cells
  obtain ⟨n, hn'⟩ : ∃ n, t.n = n := ⟨_, rfl⟩
  obtain ⟨r, hr'⟩ : ∃ r, t.r = r := ⟨_, rfl⟩
  rw [hn', hr'] at S0 CP c0 c1 c2
  rw [hn', hr']
  have C0 := hide (CP.out _ S0.out.b.size S0.out.b)
  clear hs hd hB hW hn' hr' c0 c1 c2 CP
  go_enter Tryd.func7, Tryd.ntmps7
  go_wp2_with fail
  refine C0.out.mono ?_
  rintro e w1 ⟨⟨v, L, rfl, hL, hLT, hLC⟩, hb⟩
  have S1 := hide (S0.out.below hb)
  obtain ⟨vA, vc, hv, hvm⟩ := hL.form
  subst hv
  have HSC : Hid (scanL (L.map Prod.fst) 0 = scanL (pre t) 0) := hide (by rw [hLT]; exact scan_take _ 0 1001 rfl (by decide))
  obtain ⟨T, hT⟩ : ∃ T, L.map Prod.fst = T := ⟨_, rfl⟩
  obtain ⟨N, hN⟩ : ∃ N, L.length = N := ⟨_, rfl⟩
  have HTN : Hid (T.length = N) := hide (by rw [← hT, List.length_map]; exact hN)
  have hN1 : N ≤ 1001 := by rw [← HTN.out, ← hT, hLT]; exact Nat.le_trans (List.length_take_le _ _) (Nat.le_refl _)
  have HLL := hide (fun W (k : Below w1.heap.size w1 W) (i : Nat) (p : Tree × Value) (hp : L[i]? = some p) => show ∃ g, vA = some ⟨g, 0, none⟩ ∧ W.cell? ⟨g, i * 3, none⟩ = some (.int .i64 p.1.n) ∧ W.cell? ⟨g, i * 3 + 1, none⟩ = some (.int .i64 p.1.r) ∧ W.cell? ⟨g, i * 3 + 2, none⟩ = some p.2 ∧ CAt W0 B p.1 p.2 ∧ T[i]? = some p.1 from by
    obtain ⟨g, c, e, _, hg, _, d0, d1, d2⟩ := hL.at_ hp
    injection e with e
    exact ⟨g, e, (k.cell (p := ⟨g, i * 3, none⟩) hg).trans d0, (k.cell (p := ⟨g, i * 3 + 1, none⟩) hg).trans d1, (k.cell (p := ⟨g, i * 3 + 2, none⟩) hg).trans d2, hLC p (List.mem_of_getElem? hp), by rw [← hT]; simp [hp]⟩)
  have HN := hide hN
  rw [hT] at HSC
  rw [hN]
  clear hL hLT hLC hb hvm hT hN S0 C0
  go_wp2_with fail
  go_loopw [4] (fun iv wr => ∃ i : Nat, iv = .int .i64 (i : Nat) ∧ i ≤ N ∧ Hid (scanL (T.drop i) i = scanL (pre t) 0) ∧ Hid (ESt w wr) ∧ Hid (Below w1.heap.size w1 wr)) (fun iv _ => N - (intOf iv).toNat)
  case atStart => exact ⟨0, rfl, by omega, hide (by rw [List.drop_zero]; exact HSC.out), S1, hide (Below.refl _ _)⟩
  case round =>
    clear S1
    obtain ⟨i, rfl, hi, HI, HS, HB⟩ := hrel
    obtain ⟨wo, rfl⟩ : ∃ Z : World, Z = wr := ⟨_, rfl⟩
    by_cases hin : i < N
    · as_aux_lemma =>
      obtain ⟨p, hp⟩ : ∃ p, L[i]? = some p := ⟨_, List.getElem?_eq_getElem (by rw [HN.out]; exact hin)⟩
      obtain ⟨g, rfl, d0, d1, d2, hpc, hTi⟩ := HLL.out wo HB.out i p hp
      obtain ⟨x, s'⟩ := p
      simp only at d0 d1 d2 hpc hTi
      obtain ⟨pA, pc, rfl, hxn, hxr, hxl, hcc⟩ := hpc.open_
      have HTI := hide hTi
      obtain ⟨N2, hN2⟩ : ∃ N2, x.l.length = N2 := ⟨_, rfl⟩
      rw [hN2] at d2 hxl
      have HX2 := hide hN2
      have HCC := hide (fun W (k : Below B W0 W) (j : Nat) (y : Tree) (hy : x.l[j]? = some y) => show ∃ a, pA = some a ∧ W.cell? (a.add (j * 3)) = some (.int .i64 y.n) ∧ i64ok y.n from by
        obtain ⟨a, s2, e, h0, h1, _, _, h4⟩ := hcc j y hy
        obtain ⟨_, _, _, h5, _⟩ := h4.open_
        exact ⟨a, e, (k.cell (by rw [add_block]; exact h0)).trans h1, h5⟩)
      obtain ⟨xn, hn⟩ : ∃ z, x.n = z := ⟨_, rfl⟩
      obtain ⟨xr, hr⟩ : ∃ z, x.r = z := ⟨_, rfl⟩
      have HXN := hide hn
      have HXR := hide hr
      rw [hn] at d0 hxn
      rw [hr] at d1 hxr
      unfold i64ok at hxn hxr
      have HXL : Hid (N2 ≤ 9223372036854775807) := hide (by have := hxl; unfold maxLen at this; omega)
      have b1 : (0 : Int) ≤ (i : Int) := by omega
      have b2 : (i : Int) < (N : Int) := by omega
      have hw2 := hide (show wrap64 ((i : Int) + 1) = (i : Int) + 1 by unfold wrap64; omega)
      have hbo := bel_o wo (.cells #[.int .i64 xn, .int .i64 xr, .slice pA N2 pc] 24)
      have S5 := hide (HS.out.below hbo)
      have B5 := hide (HB.out.trans (hbo.mono HB.out.size))
      have P5 := hide (CB.made wo xn xr (.slice pA N2 pc))
      clear hp hpc hTi hN2 hcc hn hr hxl hbo HS HB
      go_upto_region 6 with (fail)
      obtain ⟨W5, hW5⟩ : ∃ Z, wo.alloc (.cells #[.int .i64 xn, .int .i64 xr, .slice pA N2 pc] 24) = Z := ⟨_, rfl⟩
      rw [hW5] at S5 B5 P5
      (try rw [hW5])
      obtain ⟨g5, hg5⟩ : ∃ g, wo.heap.size = g := ⟨_, rfl⟩
      rw [hg5] at P5
      (try rw [hg5])
      clear hW5 hg5 d0 d1 d2 b1 b2
      obtain ⟨p0, p1, p2⟩ := P5.out.cells
      by_cases hi1 : i = 1000
      · as_aux_lemma =>
        subst hi1
        have HR : Hid (scanL (pre t) 0 = (2, 0)) := hide (by rw [← HI.out]; exact scan_many HTI.out (Nat.le_refl _))
        clear hi hin hxn hxr hN1
        go_wp2_with fail
        refine (CF 2 0 _).out.mono ?_
        rintro e w7 ⟨rfl, hb⟩
        have S7 := hide (S5.out.below hb)
        clear hb
        obtain ⟨e0, e1, e2, e3⟩ := S7.out.e.cells
        go_wp2_with fail
        obtain ⟨F1, F2⟩ := S7.out.fin 2 0
        obtain ⟨G0, G1, _, _⟩ := F1.cells
        exact bodyPost_ret (v := .agg #[.int .i64 2, .int .i64 0]) (by simp [results, Tryd.results7, go_sem, G0, G1]) rfl ⟨by rw [HR.out]; rfl, F2⟩
      have hi2 : i < 1000 := by omega
      have HI2 := hide hi2
      have HIN := hide (And.intro hin hN1)
      have q1 : decide ((i : Int) = 1000) = false := by rw [decide_eq_false_iff_not]; omega
      have q1' : ((i : Int) == 1000) = false := by simp; omega
      have HBAD := hide (fun (c : Int) (h : x.own = c) (h0 : c ≠ 0) => (HI.out.symm.trans (scan_bad HTI.out hi2 h h0)))
      have HGO := hide (fun (h : x.own = 0) => ((scan_go HTI.out hi2 h).symm.trans HI.out))
      clear hi1 hi2 hi hin hN1 HI HTI
      have hown : x.own = nodeF xn xr (x.l.map Tree.n) := by unfold Tree.own; rw [HXN.out, HXR.out]
      have HOWN := hide hown
      clear hown
      by_cases h1 : xn < 2
      · as_aux_lemma =>
        have HR : Hid (scanL (pre t) 0 = (3, (i : Int))) := hide (HBAD.out 3 (by rw [HOWN.out]; unfold nodeF; rw [if_pos (.inl h1)]) (by decide))
        have r1 : decide (xn < 2) = true := by rw [decide_eq_true_eq]; exact h1
        clear h1 hxn hxr
        go_wp2_with fail
        refine (CF 3 (i : Int) _).out.mono ?_
        rintro e w7 ⟨rfl, hb⟩
        have S7 := hide (S5.out.below hb)
        clear hb
        obtain ⟨e0, e1, e2, e3⟩ := S7.out.e.cells
        go_wp2_with fail
        obtain ⟨F1, F2⟩ := S7.out.fin 3 (i : Int)
        obtain ⟨G0, G1, _, _⟩ := F1.cells
        exact bodyPost_ret (v := .agg #[.int .i64 3, .int .i64 (i : Int)]) (by simp [results, Tryd.results7, go_sem, G0, G1]) rfl ⟨by rw [HR.out]; rfl, F2⟩
      have r1 : decide (xn < 2) = false := by rw [decide_eq_false_iff_not]; exact h1
      have CN := fun W => hide (number_any xn W)
      by_cases h2 : 1000000000000000000 < xn
      · as_aux_lemma =>
        have HR : Hid (scanL (pre t) 0 = (3, (i : Int))) := hide (HBAD.out 3 (by rw [HOWN.out]; unfold nodeF; rw [if_pos (.inr h2)]) (by decide))
        rw [show okB xn = false by unfold okB; simp; omega] at CN
        clear h1 h2 hxn hxr
        go_wp2_with fail
        refine (CN _).out.mono ?_
        rintro e w6 ⟨rfl, rfl⟩
        go_wp2_with fail
        refine (CF 3 (i : Int) _).out.mono ?_
        rintro e w7 ⟨rfl, hb⟩
        have S7 := hide (S5.out.below hb)
        clear hb
        obtain ⟨e0, e1, e2, e3⟩ := S7.out.e.cells
        go_wp2_with fail
        obtain ⟨F1, F2⟩ := S7.out.fin 3 (i : Int)
        obtain ⟨G0, G1, _, _⟩ := F1.cells
        exact bodyPost_ret (v := .agg #[.int .i64 3, .int .i64 (i : Int)]) (by simp [results, Tryd.results7, go_sem, G0, G1]) rfl ⟨by rw [HR.out]; rfl, F2⟩
      rw [show okB xn = true by unfold okB; simp; omega] at CN
      by_cases h3 : xn = 2
      · as_aux_lemma =>
        subst h3
        by_cases h4 : xr = 0
        · subst h4
          by_cases h5 : N2 = 0
          · subst h5
            have hnil : x.l = [] := List.length_eq_zero_iff.1 HX2.out
            have HNX : Hid (scanL (T.drop (i + 1)) (i + 1) = scanL (pre t) 0) := hide (HGO.out (by rw [HOWN.out, hnil]; rfl))
            clear hxn hxr h1 h2 hnil
            go_wp2_with fail
            refine (CN _).out.mono ?_
            rintro e w6 ⟨rfl, rfl⟩
            have w2 := hw2.out
            go_wp2_with fail
            (try simp only [w2])
            clear w2 hw2
            exact ⟨⟨i + 1, rfl, by have := HIN.out; omega, HNX, S5, B5⟩, by have := HIN.out; simp [intOf]; omega⟩
          · have HR : Hid (scanL (pre t) 0 = (6, (i : Int))) := hide (HBAD.out 6 (by rw [HOWN.out]; unfold nodeF; rw [if_neg (by omega), if_pos rfl, if_pos (.inr (by intro e; apply h5; rw [← HX2.out]; simpa using congrArg List.length e))]) (by decide))
            have r5 : ((N2 : Int) != 0) = true := by simp; omega
            clear hxn hxr h1 h2 h5
            go_wp2_with fail
            refine (CN _).out.mono ?_
            rintro e w6 ⟨rfl, rfl⟩
            go_wp2_with fail
            refine (CF 6 (i : Int) _).out.mono ?_
            rintro e w7 ⟨rfl, hb⟩
            have S7 := hide (S5.out.below hb)
            clear hb
            obtain ⟨e0, e1, e2, e3⟩ := S7.out.e.cells
            go_wp2_with fail
            obtain ⟨F1, F2⟩ := S7.out.fin 6 (i : Int)
            obtain ⟨G0, G1, _, _⟩ := F1.cells
            exact bodyPost_ret (v := .agg #[.int .i64 6, .int .i64 (i : Int)]) (by simp [results, Tryd.results7, go_sem, G0, G1]) rfl ⟨by rw [HR.out]; rfl, F2⟩
        · have HR : Hid (scanL (pre t) 0 = (6, (i : Int))) := hide (HBAD.out 6 (by rw [HOWN.out]; unfold nodeF; rw [if_neg (by omega), if_pos rfl, if_pos (.inl h4)]) (by decide))
          have r5 : (xr != 0) = true := by simpa using h4
          clear hxn hxr h1 h2 h4
          go_wp2_with fail
          refine (CN _).out.mono ?_
          rintro e w6 ⟨rfl, rfl⟩
          go_wp2_with fail
          refine (CF 6 (i : Int) _).out.mono ?_
          rintro e w7 ⟨rfl, hb⟩
          have S7 := hide (S5.out.below hb)
          clear hb
          obtain ⟨e0, e1, e2, e3⟩ := S7.out.e.cells
          go_wp2_with fail
          obtain ⟨F1, F2⟩ := S7.out.fin 6 (i : Int)
          obtain ⟨G0, G1, _, _⟩ := F1.cells
          exact bodyPost_ret (v := .agg #[.int .i64 6, .int .i64 (i : Int)]) (by simp [results, Tryd.results7, go_sem, G0, G1]) rfl ⟨by rw [HR.out]; rfl, F2⟩
      have r3 : decide (xn = 2) = false := by rw [decide_eq_false_iff_not]; exact h3
      have r3' : (xn == 2) = false := by simpa using h3
      by_cases h4 : xr < 2
      · as_aux_lemma =>
        have HR : Hid (scanL (pre t) 0 = (6, (i : Int))) := hide (HBAD.out 6 (by rw [HOWN.out]; unfold nodeF; rw [if_neg (by omega), if_neg h3, if_pos (.inl h4)]) (by decide))
        have r4 : decide (xr < 2) = true := by rw [decide_eq_true_eq]; exact h4
        clear hxn hxr h1 h2 h3 h4
        go_wp2_with fail
        refine (CN _).out.mono ?_
        rintro e w6 ⟨rfl, rfl⟩
        go_wp2_with fail
        refine (CF 6 (i : Int) _).out.mono ?_
        rintro e w7 ⟨rfl, hb⟩
        have S7 := hide (S5.out.below hb)
        clear hb
        obtain ⟨e0, e1, e2, e3⟩ := S7.out.e.cells
        go_wp2_with fail
        obtain ⟨F1, F2⟩ := S7.out.fin 6 (i : Int)
        obtain ⟨G0, G1, _, _⟩ := F1.cells
        exact bodyPost_ret (v := .agg #[.int .i64 6, .int .i64 (i : Int)]) (by simp [results, Tryd.results7, go_sem, G0, G1]) rfl ⟨by rw [HR.out]; rfl, F2⟩
      have r4 : decide (xr < 2) = false := by rw [decide_eq_false_iff_not]; exact h4
      by_cases h5 : xn ≤ xr
      · as_aux_lemma =>
        have HR : Hid (scanL (pre t) 0 = (6, (i : Int))) := hide (HBAD.out 6 (by rw [HOWN.out]; unfold nodeF; rw [if_neg (by omega), if_neg h3, if_pos (.inr h5)]) (by decide))
        have r5 : decide (xn ≤ xr) = true := by rw [decide_eq_true_eq]; exact h5
        clear hxn hxr h1 h2 h3 h4 h5
        go_wp2_with fail
        refine (CN _).out.mono ?_
        rintro e w6 ⟨rfl, rfl⟩
        go_wp2_with fail
        refine (CF 6 (i : Int) _).out.mono ?_
        rintro e w7 ⟨rfl, hb⟩
        have S7 := hide (S5.out.below hb)
        clear hb
        obtain ⟨e0, e1, e2, e3⟩ := S7.out.e.cells
        go_wp2_with fail
        obtain ⟨F1, F2⟩ := S7.out.fin 6 (i : Int)
        obtain ⟨G0, G1, _, _⟩ := F1.cells
        exact bodyPost_ret (v := .agg #[.int .i64 6, .int .i64 (i : Int)]) (by simp [results, Tryd.results7, go_sem, G0, G1]) rfl ⟨by rw [HR.out]; rfl, F2⟩
      as_aux_lemma =>
      obtain ⟨nn, rfl⟩ : ∃ nn : Nat, xn = nn := ⟨xn.toNat, by omega⟩
      obtain ⟨rr, rfl⟩ : ∃ rr : Nat, xr = rr := ⟨xr.toNat, by omega⟩
      obtain ⟨ns, hns⟩ : ∃ ns, x.l.map Tree.n = ns := ⟨_, rfl⟩
      obtain ⟨E, hE⟩ : ∃ E, nn = E + 1 := ⟨nn - 1, by omega⟩
      have HM := hide (own_mid HXN.out HXR.out hE hns (by omega) (by omega) (by omega) (by omega))
      have HNS := hide (And.intro (fun (j : Nat) (y : Tree) (hy : x.l[j]? = some y) => show ns[j]? = some y.n from by rw [← hns]; simp [hy]) (show ns.length = N2 by rw [← hns, List.length_map]; exact HX2.out))
      have q5 : ¬ nn ≤ rr := by omega
      have CR := fun (e : Nat) (he : e ≤ 1000000000000000000) W => hide (power_ref (rr : Nat) (nn : Nat) e W (by omega) (by omega) (by omega) (by omega) (by omega))
      simp only [powX] at CR
      have HE : Hid (E ≤ 1000000000000000000 ∧ 0 < E) := hide (by omega)
      have hw3 := hide (show wrap64 ((nn : Int) - 1) = (E : Int) by unfold wrap64; omega)
      have hw3' := hide (show IntKind.i64.wrap ((nn : Int) - 1) = (E : Int) by rw [IntKind.wrap_i64]; omega)
      clear h1 h2 h3 h4 h5 hxn hxr hns hE HXN HXR HOWN
      have w3 := hw3.out
      go_wp2_with fail
      refine (CN _).out.mono ?_
      rintro e w6 ⟨rfl, rfl⟩
      go_wp2_with fail
      (try simp only [w3])
      clear w3 q1 q1' r1 r3 r3' r4 q5 CN p0 p1 p2
      go_loopw [6, 7] (fun lf kv wr => ∃ (left : Nat) (k : Nat), lf = .int .i64 (left : Nat) ∧ kv = .int .i64 (k : Nat) ∧ k ≤ N2 ∧ Hid (0 < left ∧ left ≤ 1000000000000000000 ∧ (k = 0 ∨ 2 ≤ lastP ns k) ∧ chkP left (lastP ns k) (ns.drop k) = chkP E 1 ns) ∧ wr = W5) (fun _ kv _ => N2 - (intOf kv).toNat)
      case atStart => exact ⟨E, 0, rfl, rfl, by omega, hide ⟨HE.out.2, HE.out.1, .inl rfl, rfl⟩, rfl⟩
      case round =>
        obtain ⟨left, k, rfl, rfl, hk, HK, hwr⟩ := hrel
        have hwr := hwr.symm
        subst hwr
        obtain ⟨p0, p1, p2⟩ := P5.out.cells
        by_cases hkn : k < N2
        · as_aux_lemma =>
          obtain ⟨y, hy⟩ : ∃ y, x.l[k]? = some y := ⟨_, List.getElem?_eq_getElem (by rw [HX2.out]; exact hkn)⟩
          obtain ⟨a, rfl, d0, hq1, hq2⟩ := HCC.out W5 (HLB.out W5 S5.out.b) k y hy
          have hny := hide (HNS.out.1 k y hy)
          obtain ⟨q, hq⟩ : ∃ q, y.n = q := ⟨_, rfl⟩
          rw [hq] at d0 hny hq1 hq2
          have b1 : (0 : Int) ≤ (k : Int) := by omega
          have b2 : (k : Int) < (N2 : Int) := by omega
          have hw6 := hide (show wrap64 ((k : Int) + 1) = (k : Int) + 1 by have := HXL.out; unfold wrap64; omega)
          by_cases hqq : q < 2
          · as_aux_lemma =>
            have r1 : decide (q < 2) = true := by rw [decide_eq_true_eq]; exact hqq
            have HR : Hid (scanL (pre t) 0 = (6, (i : Int))) := hide (HBAD.out 6 (HM.out.1 (by rw [← HK.out.2.2.2]; exact chkP_bad hny.out (.inl (by rcases HK.out.2.2.1 with h | h; (rw [h]; show q ≤ 1; omega); omega)))) (by decide))
            clear hqq hq1 hq2 hk hkn hy hq
            go_wp2_with fail
            refine (CF 6 (i : Int) _).out.mono ?_
            rintro e w7 ⟨rfl, hb⟩
            have S7 := hide (S5.out.below hb)
            clear hb
            obtain ⟨e0, e1, e2, e3⟩ := S7.out.e.cells
            go_wp2_with fail
            obtain ⟨F1, F2⟩ := S7.out.fin 6 (i : Int)
            obtain ⟨G0, G1, _, _⟩ := F1.cells
            exact bodyPost_ret (v := .agg #[.int .i64 6, .int .i64 (i : Int)]) (by simp [results, Tryd.results7, go_sem, G0, G1]) rfl ⟨by rw [HR.out]; rfl, F2⟩
          have r1 : decide (q < 2) = false := by rw [decide_eq_false_iff_not]; exact hqq
          obtain ⟨qq, rfl⟩ : ∃ qq : Nat, q = (qq : Int) := ⟨q.toNat, by omega⟩
          have z0 : ¬ (qq : Int) = 0 := by omega
          have z1 : ¬ qq = 0 := by omega
          have hq2' : 2 ≤ qq := by omega
          have HQ := hide hq2'
          have e1 : (left : Int).tmod (qq : Int) = ((left % qq : Nat) : Int) := by rw [Int.tmod_eq_emod_of_nonneg (by omega)]; simp
          have e2 : (left : Int) % (qq : Int) = ((left % qq : Nat) : Int) := by simp
          obtain ⟨m, hm⟩ : ∃ m, left % qq = m := ⟨_, rfl⟩
          rw [hm] at e1 e2
          -- the part ahead of it
          have hprev : k = 0 ∨ ∃ j pq, k = j + 1 ∧ W5.cell? (a.add (j * 3)) = some (.int .i64 pq) ∧ lastP ns k = pq ∧ j < N2 := by
            rcases k with _ | j
            · exact .inl rfl
            · obtain ⟨y', hy'⟩ : ∃ y, x.l[j]? = some y := ⟨_, List.getElem?_eq_getElem (by rw [HX2.out]; omega)⟩
              obtain ⟨a', e, d0', _⟩ := HCC.out W5 (HLB.out W5 S5.out.b) j y' hy'
              injection e with e
              subst e
              exact .inr ⟨j, y'.n, rfl, d0', lastP_succ (HNS.out.1 j y' hy'), by omega⟩
          have hgt : ¬ (qq : Int) ≤ lastP ns k ∨ ∃ j pq, k = j + 1 ∧ W5.cell? (a.add (j * 3)) = some (.int .i64 pq) ∧ (qq : Int) ≤ pq ∧ j < N2 ∧ lastP ns k = pq := by
            by_cases h : (qq : Int) ≤ lastP ns k
            · rcases hprev with rfl | ⟨j, pq, e, d, e', hj⟩
              · unfold lastP at h
                rw [if_pos rfl] at h
                omega
              · exact .inr ⟨j, pq, e, d, by omega, hj, e'⟩
            · exact .inl h
          rcases hgt with hgt | ⟨j, pq, rfl, dj, hpq, hj, hlp⟩
          · have HGT := hide hgt
            by_cases hc2 : m = 0
            · as_aux_lemma =>
              have r2 : ((m : Int) != 0) = false := by simp; exact hc2
              have hgo : ¬ ((qq : Int) ≤ lastP ns k ∨ (left : Int) % (qq : Int) ≠ 0) := by rw [e2]; rintro (h | h); exact hgt h; omega
              have HI2 := hide (And.intro HK.out ((chkP_go hny.out hgo).symm.trans HK.out.2.2.2))
              have HLP := hide (lastP_succ hny.out)
              clear hc2 hgo HK hgt hy hq hq1 hq2 hqq hq2'
              rcases hprev with hk0 | ⟨j, pq, rfl, dj, hlp, hj⟩
              · have r5 : decide ((0 : Int) < (k : Int)) = false := by rw [decide_eq_false_iff_not]; omega
                have r6 : ¬ 0 < k := by omega
                clear hk hk0
                go_wp2_with fail
                go_loopw [6] (fun lf wr => ∃ left2 : Nat, lf = .int .i64 (left2 : Nat) ∧ Hid (0 < left2 ∧ left2 ≤ left ∧ strip qq left2 = strip qq left) ∧ wr = W5) (fun lf _ => (intOf lf).toNat)
                case atStart => exact ⟨left, rfl, hide ⟨HI2.out.1.1, Nat.le_refl _, rfl⟩, rfl⟩
                case round =>
                  obtain ⟨left2, rfl, HL, hwr2⟩ := hrel
                  have hwr2 := hwr2.symm
                  subst hwr2
                  clear e1 e2 r1 r2 hm
                  have e1 : (left2 : Int).tmod (qq : Int) = ((left2 % qq : Nat) : Int) := by rw [Int.tmod_eq_emod_of_nonneg (by omega)]; simp
                  have e2 : (left2 : Int) % (qq : Int) = ((left2 % qq : Nat) : Int) := by simp
                  obtain ⟨m2, hm2⟩ : ∃ m, left2 % qq = m := ⟨_, rfl⟩
                  rw [hm2] at e1 e2
                  by_cases hc3 : m2 = 0
                  · have e3 : (left2 : Int).tdiv (qq : Int) = ((left2 / qq : Nat) : Int) := by rw [Int.tdiv_eq_ediv_of_nonneg (by omega)]; simp
                    have e4 : (left2 : Int) / (qq : Int) = ((left2 / qq : Nat) : Int) := by simp
                    have hd : left2 / qq < left2 := Nat.div_lt_self HL.out.1 HQ.out
                    have hd0 : 0 < left2 / qq := Nat.div_pos (Nat.le_of_dvd HL.out.1 (Nat.dvd_of_mod_eq_zero (by omega))) (by omega)
                    have HST : Hid (strip qq (left2 / qq) = strip qq left) := hide (by rw [← HL.out.2.2, strip_step HQ.out HL.out.1 (by omega)])
                    obtain ⟨d, hdd⟩ : ∃ d, left2 / qq = d := ⟨_, rfl⟩
                    rw [hdd] at e3 e4 hd hd0 HST
                    have hw5 := hide (show wrap64 (d : Int) = (d : Int) by have := HL.out.2.1; have := HI2.out.1.2.1; unfold wrap64; omega)
                    have r3 : decide ((m2 : Int) = 0) = true := by simp; exact hc3
                    have r3' : ((m2 : Int) == 0) = true := by simp; exact hc3
                    have HL3 := hide (And.intro hd0 (And.intro (Nat.le_trans (Nat.le_of_lt hd) HL.out.2.1) HST.out))
                    clear hdd hm2 hc3 hd0 HL HST
                    have w5 := hw5.out
                    go_wp2_with fail
                    (try simp only [w5])
                    clear w5
                    exact ⟨⟨d, rfl, HL3, by first | rfl | trivial⟩, by simp [intOf]; omega⟩
                  · have r3 : decide ((m2 : Int) = 0) = false := by simp; exact hc3
                    have r3' : ((m2 : Int) == 0) = false := by simp; exact hc3
                    have HST : Hid (left2 = strip qq left) := hide (by rw [← HL.out.2.2, strip_end (by omega)])
                    have HI3 : Hid (0 < left2 ∧ left2 ≤ 1000000000000000000 ∧ (k + 1 = 0 ∨ 2 ≤ lastP ns (k + 1)) ∧ chkP left2 (lastP ns (k + 1)) (ns.drop (k + 1)) = chkP E 1 ns) := hide ⟨HL.out.1, Nat.le_trans HL.out.2.1 HI2.out.1.2.1, .inr (by rw [HLP.out]; have := HQ.out; omega), by rw [HLP.out, HST.out]; exact HI2.out.2⟩
                    clear hm2 hc3
                    have w2 := hw6.out
                    go_wp2_with fail
                    (try simp only [w2])
                    clear w2 hw6
                    exact ⟨⟨left2, k + 1, rfl, rfl, by omega, HI3, by first | rfl | trivial⟩, by simp [intOf]; omega⟩
              · have r5 : decide ((0 : Int) < (j : Int) + 1) = true := by rw [decide_eq_true_eq]; omega
                have r6 : decide ((qq : Int) ≤ pq) = false := by rw [decide_eq_false_iff_not, ← hlp]; exact HGT.out
                have hw7 := hide (show wrap64 ((j : Int) + 1 - 1) = (j : Int) ∧ wrap64 (j : Int) = (j : Int) by have := HXL.out; unfold wrap64; omega)
                have b3 : (0 : Int) ≤ (j : Int) := by omega
                have b4 : (j : Int) < (N2 : Int) := by omega
                clear hlp hj
                have w7 := hw7.out.1
                have w7' := hw7.out.2
                go_wp2_with fail
                clear w7 w7' hw7 r5 r6 b3 b4 dj
                have hw6 := hide (show wrap64 ((j : Int) + 1 + 1) = (j : Int) + 1 + 1 by have := hw6.out; simpa using this)
                go_loopw [6] (fun lf wr => ∃ left2 : Nat, lf = .int .i64 (left2 : Nat) ∧ Hid (0 < left2 ∧ left2 ≤ left ∧ strip qq left2 = strip qq left) ∧ wr = W5) (fun lf _ => (intOf lf).toNat)
                case atStart => exact ⟨left, rfl, hide ⟨HI2.out.1.1, Nat.le_refl _, rfl⟩, rfl⟩
                case round =>
                  obtain ⟨left2, rfl, HL, hwr2⟩ := hrel
                  have hwr2 := hwr2.symm
                  subst hwr2
                  clear e1 e2 r1 r2 hm
                  have e1 : (left2 : Int).tmod (qq : Int) = ((left2 % qq : Nat) : Int) := by rw [Int.tmod_eq_emod_of_nonneg (by omega)]; simp
                  have e2 : (left2 : Int) % (qq : Int) = ((left2 % qq : Nat) : Int) := by simp
                  obtain ⟨m2, hm2⟩ : ∃ m, left2 % qq = m := ⟨_, rfl⟩
                  rw [hm2] at e1 e2
                  by_cases hc3 : m2 = 0
                  · have e3 : (left2 : Int).tdiv (qq : Int) = ((left2 / qq : Nat) : Int) := by rw [Int.tdiv_eq_ediv_of_nonneg (by omega)]; simp
                    have e4 : (left2 : Int) / (qq : Int) = ((left2 / qq : Nat) : Int) := by simp
                    have hd : left2 / qq < left2 := Nat.div_lt_self HL.out.1 HQ.out
                    have hd0 : 0 < left2 / qq := Nat.div_pos (Nat.le_of_dvd HL.out.1 (Nat.dvd_of_mod_eq_zero (by omega))) (by omega)
                    have HST : Hid (strip qq (left2 / qq) = strip qq left) := hide (by rw [← HL.out.2.2, strip_step HQ.out HL.out.1 (by omega)])
                    obtain ⟨d, hdd⟩ : ∃ d, left2 / qq = d := ⟨_, rfl⟩
                    rw [hdd] at e3 e4 hd hd0 HST
                    have hw5 := hide (show wrap64 (d : Int) = (d : Int) by have := HL.out.2.1; have := HI2.out.1.2.1; unfold wrap64; omega)
                    have r3 : decide ((m2 : Int) = 0) = true := by simp; exact hc3
                    have r3' : ((m2 : Int) == 0) = true := by simp; exact hc3
                    have HL3 := hide (And.intro hd0 (And.intro (Nat.le_trans (Nat.le_of_lt hd) HL.out.2.1) HST.out))
                    clear hdd hm2 hc3 hd0 HL HST
                    have w5 := hw5.out
                    go_wp2_with fail
                    (try simp only [w5])
                    clear w5
                    exact ⟨⟨d, rfl, HL3, by first | rfl | trivial⟩, by simp [intOf]; omega⟩
                  · have r3 : decide ((m2 : Int) = 0) = false := by simp; exact hc3
                    have r3' : ((m2 : Int) == 0) = false := by simp; exact hc3
                    have HST : Hid (left2 = strip qq left) := hide (by rw [← HL.out.2.2, strip_end (by omega)])
                    have HI3 : Hid (0 < left2 ∧ left2 ≤ 1000000000000000000 ∧ ((j + 1) + 1 = 0 ∨ 2 ≤ lastP ns ((j + 1) + 1)) ∧ chkP left2 (lastP ns ((j + 1) + 1)) (ns.drop ((j + 1) + 1)) = chkP E 1 ns) := hide ⟨HL.out.1, Nat.le_trans HL.out.2.1 HI2.out.1.2.1, .inr (by rw [HLP.out]; have := HQ.out; omega), by rw [HLP.out, HST.out]; exact HI2.out.2⟩
                    clear hm2 hc3
                    have w2 := hw6.out
                    go_wp2_with fail
                    (try simp only [w2])
                    clear w2 hw6
                    exact ⟨⟨left2, (j + 1) + 1, rfl, rfl, by omega, HI3, by first | rfl | trivial⟩, by simp [intOf]; omega⟩
            · as_aux_lemma =>
              have r2 : ((m : Int) != 0) = true := by simp; exact hc2
              have HR : Hid (scanL (pre t) 0 = (6, (i : Int))) := hide (HBAD.out 6 (HM.out.1 (by rw [← HK.out.2.2.2]; exact chkP_bad hny.out (.inr (by rw [e2]; omega)))) (by decide))
              clear hc2 hgt hy hq hq1 hq2 hqq hq2' hm
              rcases hprev with hk0 | ⟨j, pq, rfl, dj, hlp, hj⟩
              · have r5 : decide ((0 : Int) < (k : Int)) = false := by rw [decide_eq_false_iff_not]; omega
                have r6 : ¬ 0 < k := by omega
                clear hk hk0
                go_wp2_with fail
                refine (CF 6 (i : Int) _).out.mono ?_
                rintro e w7 ⟨rfl, hb⟩
                have S7 := hide (S5.out.below hb)
                clear hb
                obtain ⟨e0, e1, e2, e3⟩ := S7.out.e.cells
                go_wp2_with fail
                obtain ⟨F1, F2⟩ := S7.out.fin 6 (i : Int)
                obtain ⟨G0, G1, _, _⟩ := F1.cells
                exact bodyPost_ret (v := .agg #[.int .i64 6, .int .i64 (i : Int)]) (by simp [results, Tryd.results7, go_sem, G0, G1]) rfl ⟨by rw [HR.out]; rfl, F2⟩
              · have r5 : decide ((0 : Int) < (j : Int) + 1) = true := by rw [decide_eq_true_eq]; omega
                have r6 : decide ((qq : Int) ≤ pq) = false := by rw [decide_eq_false_iff_not, ← hlp]; exact HGT.out
                have hw7 := hide (show wrap64 ((j : Int) + 1 - 1) = (j : Int) ∧ wrap64 (j : Int) = (j : Int) by have := HXL.out; unfold wrap64; omega)
                have b3 : (0 : Int) ≤ (j : Int) := by omega
                have b4 : (j : Int) < (N2 : Int) := by omega
                clear hk hkn hlp hj
                have w7 := hw7.out.1
                have w7' := hw7.out.2
                go_wp2_with fail
                refine (CF 6 (i : Int) _).out.mono ?_
                rintro e w7 ⟨rfl, hb⟩
                have S7 := hide (S5.out.below hb)
                clear hb
                obtain ⟨e0, e1, e2, e3⟩ := S7.out.e.cells
                go_wp2_with fail
                obtain ⟨F1, F2⟩ := S7.out.fin 6 (i : Int)
                obtain ⟨G0, G1, _, _⟩ := F1.cells
                exact bodyPost_ret (v := .agg #[.int .i64 6, .int .i64 (i : Int)]) (by simp [results, Tryd.results7, go_sem, G0, G1]) rfl ⟨by rw [HR.out]; rfl, F2⟩
          · as_aux_lemma =>
            have r5 : decide ((0 : Int) < (j : Int) + 1) = true := by rw [decide_eq_true_eq]; omega
            have r6 : decide ((qq : Int) ≤ pq) = true := by rw [decide_eq_true_eq]; exact hpq
            have HR : Hid (scanL (pre t) 0 = (6, (i : Int))) := hide (HBAD.out 6 (HM.out.1 (by rw [← HK.out.2.2.2]; exact chkP_bad hny.out (.inl (by rw [hlp]; exact hpq)))) (by decide))
            have hw7 := hide (show wrap64 ((j : Int) + 1 - 1) = (j : Int) ∧ wrap64 (j : Int) = (j : Int) by have := HXL.out; unfold wrap64; omega)
            have b3 : (0 : Int) ≤ (j : Int) := by omega
            have b4 : (j : Int) < (N2 : Int) := by omega
            clear hk hkn hlp hj hpq hprev hy hq hq1 hq2 hqq hq2' hm
            have w7 := hw7.out.1
            have w7' := hw7.out.2
            go_wp2_with fail
            refine (CF 6 (i : Int) _).out.mono ?_
            rintro e w7 ⟨rfl, hb⟩
            have S7 := hide (S5.out.below hb)
            clear hb
            obtain ⟨e0, e1, e2, e3⟩ := S7.out.e.cells
            go_wp2_with fail
            obtain ⟨F1, F2⟩ := S7.out.fin 6 (i : Int)
            obtain ⟨G0, G1, _, _⟩ := F1.cells
            exact bodyPost_ret (v := .agg #[.int .i64 6, .int .i64 (i : Int)]) (by simp [results, Tryd.results7, go_sem, G0, G1]) rfl ⟨by rw [HR.out]; rfl, F2⟩
        · as_aux_lemma =>
          have hkN : N2 = k := by omega
          subst hkN
          have hend := HK.out.2.2.2
          rw [← HNS.out.2, chkP_end] at hend
          by_cases hl1 : left = 1
          · as_aux_lemma =>
            have HCK : Hid (chkP E 1 ns = true) := hide (by rw [← hend]; simp; exact hl1)
            subst hl1
            have CR0 := CR E HE.out.1
            have HQS := hide ((chkP_spec ns E 1 HE.out.2 (by omega) HCK.out).1)
            have r1 : ((1 : Int) != 1) = false := rfl
            clear hend HK
            have w3 := hw3.out
            have w3' := hw3'.out
            go_wp2_with fail
            refine (CR0 _).out.mono ?_
            rintro e w8 ⟨rfl, hb⟩
            have S8 := hide (S5.out.below hb)
            have B8 := hide (B5.out.trans (hb.mono B5.out.size))
            have P8 := hide (P5.out.below hb)
            obtain ⟨b0, hb0⟩ : ∃ b, decide (rr ^ E % nn = 1) = b := ⟨_, rfl⟩
            have HM2 := hide HM.out.2
            rw [hb0] at HM2
            obtain ⟨X, hX⟩ : ∃ X, rr ^ E % nn = X := ⟨_, rfl⟩
            rw [hX] at hb0
            have r2 : ((X : Int) == 1) = b0 := by rw [← hb0]; exact (natb X).1
            have r2' : decide ((X : Int) = 1) = b0 := by rw [← hb0]; exact (natb X).2.1
            rw [hX]
            clear hb hb0 hX p0 p1 p2 CR0 HM w3 w3' S5 B5 P5
            go_wp2_with fail
            clear r2 r2'
            go_loopw [9, 10] (fun ob kv wr => ∃ k : Nat, kv = .int .i64 (k : Nat) ∧ k ≤ N2 ∧ (∃ ok, ob = .bool ok ∧ Hid (ok = (b0 && (ns.take k).all (pwB E nn rr)))) ∧ Hid (ESt w wr) ∧ Hid (Below w1.heap.size w1 wr) ∧ Hid (CB wr g5 (nn : Nat) (rr : Nat) (.slice pA N2 pc))) (fun _ kv _ => N2 - (intOf kv).toNat)
            case atStart => exact ⟨0, rfl, by omega, ⟨b0, rfl, hide (by simp)⟩, S8, B8, P8⟩
            case round =>
              clear S8 B8 P8
              obtain ⟨k, rfl, hk, ⟨ok, rfl, HOK⟩, HS, HB, HP⟩ := hrel
              obtain ⟨wk, rfl⟩ : ∃ Z : World, Z = wr := ⟨_, rfl⟩
              obtain ⟨p0, p1, p2⟩ := HP.out.cells
              by_cases hkn : k < N2
              · as_aux_lemma =>
                obtain ⟨y, hy⟩ : ∃ y, x.l[k]? = some y := ⟨_, List.getElem?_eq_getElem (by rw [HX2.out]; exact hkn)⟩
                obtain ⟨a, rfl, d0, hq1, hq2⟩ := HCC.out wk (HLB.out wk HS.out.b) k y hy
                have hny := hide (HNS.out.1 k y hy)
                have HDC := hide (fun W (h : Below wk.heap.size wk W) => show W.cell? (a.add (k * 3)) = some (.int .i64 y.n) from by
                  obtain ⟨a', e, d, _⟩ := HCC.out W (HLB.out W (HS.out.b.trans (h.mono HS.out.b.size))) k y hy
                  injection e with e
                  subst e
                  exact d)
                obtain ⟨q, hq⟩ : ∃ q, y.n = q := ⟨_, rfl⟩
                rw [hq] at d0 hny hq1 hq2 HDC
                have hqm := (HQS.out q (List.mem_of_getElem? hny.out)).1
                obtain ⟨qq, rfl⟩ : ∃ qq : Nat, q = (qq : Int) := ⟨q.toNat, by omega⟩
                have b1 : (0 : Int) ≤ (k : Int) := by omega
                have b2 : (k : Int) < (N2 : Int) := by omega
                have hw6 := hide (show wrap64 ((k : Int) + 1) = (k : Int) + 1 by have := HXL.out; unfold wrap64; omega)
                have z0 : ¬ (qq : Int) = 0 := by omega
                have z1 : ¬ qq = 0 := by omega
                have e3 : (E : Int).tdiv (qq : Int) = ((E / qq : Nat) : Int) := by rw [Int.tdiv_eq_ediv_of_nonneg (by omega)]; simp
                have e4 : (E : Int) / (qq : Int) = ((E / qq : Nat) : Int) := by simp
                have hdE : E / qq ≤ E := Nat.div_le_self _ _
                have HAT := hide (all_take (f := pwB E nn rr) hny.out)
                obtain ⟨d, hd⟩ : ∃ d, E / qq = d := ⟨_, rfl⟩
                have CP := CR d (by have := HE.out.1; omega)
                have hw5 := hide (show wrap64 (d : Int) = (d : Int) ∧ IntKind.i64.wrap (d : Int) = (d : Int) by have := HE.out.1; rw [IntKind.wrap_i64]; unfold wrap64; omega)
                obtain ⟨pb, hpb⟩ : ∃ pb, pwB E nn rr (qq : Int) = pb := ⟨_, rfl⟩
                have hpb2 := hpb
                unfold pwB at hpb2
                rw [Int.toNat_natCast, hd] at hpb2
                obtain ⟨X, hX⟩ : ∃ X, rr ^ d % nn = X := ⟨_, rfl⟩
                rw [hX] at hpb2 CP
                have r5 : ((X : Int) != 1) = pb := by rw [← hpb2]; exact (natb X).2.2
                rw [hpb] at HAT
                rw [hd] at e3 e4
                have KS := fun W (h : Below wk.heap.size wk W) => hide (show ((W.cell? ⟨g5, 0, none⟩ = some (.int .i64 (nn : Nat)) ∧ W.cell? ⟨g5, 1, none⟩ = some (.int .i64 (rr : Nat)) ∧ W.cell? ⟨g5, 2, none⟩ = some (.slice (some a) N2 pc)) ∧ W.cell? (a.add (k * 3)) = some (.int .i64 (qq : Nat))) ∧ Hid (Below wk.heap.size wk W) from ⟨⟨(HP.out.below h).cells, HDC.out W h⟩, hide h⟩)
                clear hy hq hqm hq1 hq2 hdE hd hpb hpb2 hX hny d0
                go_upto_region 30 with (fail)
                clear p0 p1 p2
                cases ok
                · as_aux_lemma =>
                  have HOK2 : Hid (false = (b0 && (ns.take (k + 1)).all (pwB E nn rr))) := hide (by rw [HAT.out, ← Bool.and_assoc, ← HOK.out]; rfl)
                  clear e3 e4 r5 CP HOK HAT
                  refine wp_region_P (fun W => ((W.cell? ⟨g5, 0, none⟩ = some (.int .i64 (nn : Nat)) ∧ W.cell? ⟨g5, 1, none⟩ = some (.int .i64 (rr : Nat)) ∧ W.cell? ⟨g5, 2, none⟩ = some (.slice (some a) N2 pc)) ∧ W.cell? (a.add (k * 3)) = some (.int .i64 (qq : Nat))) ∧ Hid (Below wk.heap.size wk W)) 19 (by rfl) ((KS _ (below_drewN (Below.refl _ _) 1)).out) ?_
                  intro hS
                  refine wpAnyP_take 0 131 [0, 19] (v := ?_) rfl (by kernel_rfl) (by kernel_rfl) (by kernel_rfl) (by kernel_rfl) (by kernel_rfl) (by kernel_rfl) (by rfl) (fun _ _ _ h => h) (Or.inl ⟨by rfl, ?_⟩) hS ?_; rotate_left
                  · (intro w hSw; (try dsimp only at hSw); go_simp; (try with_reducible rfl))
                  (try simp only [List.setIfInBounds_toArray, List.set_cons_zero, List.set_cons_succ])
                  refine wpAnyP_take 1 132 [1, 19] (v := ?_) rfl (by kernel_rfl) (by kernel_rfl) (by kernel_rfl) (by kernel_rfl) (by kernel_rfl) (by kernel_rfl) (by rfl) (fun _ _ _ h => h) (Or.inl ⟨by rfl, ?_⟩) hS ?_; rotate_left
                  · (intro w hSw; (try dsimp only at hSw); go_simp; (try with_reducible rfl))
                  (try simp only [List.setIfInBounds_toArray, List.set_cons_zero, List.set_cons_succ])
                  refine wpAnyP_take 2 133 [2, 19] (v := undef) rfl (by kernel_rfl) (by kernel_rfl) (by kernel_rfl) (by kernel_rfl) (by kernel_rfl) (by kernel_rfl) (by rfl) (fun _ _ _ h => h) (Or.inr ⟨by rfl, rfl⟩) hS ?_
                  (try simp only [List.setIfInBounds_toArray, List.set_cons_zero, List.set_cons_succ])
                  refine wpAnyP_take 3 134 [3, 19] (v := undef) rfl (by kernel_rfl) (by kernel_rfl) (by kernel_rfl) (by kernel_rfl) (by kernel_rfl) (by kernel_rfl) (by rfl) (fun _ _ _ h => h) (Or.inr ⟨by rfl, rfl⟩) hS ?_
                  (try simp only [List.setIfInBounds_toArray, List.set_cons_zero, List.set_cons_succ])
                  refine wpAnyP_take 4 135 [4, 19] (v := undef) rfl (by kernel_rfl) (by kernel_rfl) (by kernel_rfl) (by kernel_rfl) (by kernel_rfl) (by kernel_rfl) (by rfl) (fun _ _ _ h => h) (Or.inr ⟨by rfl, rfl⟩) hS ?_
                  (try simp only [List.setIfInBounds_toArray, List.set_cons_zero, List.set_cons_succ])
                  refine wpAnyP_take 5 136 [5, 19] (v := undef) rfl (by kernel_rfl) (by kernel_rfl) (by kernel_rfl) (by kernel_rfl) (by kernel_rfl) (by kernel_rfl) (by rfl) (fun _ _ _ h => h) (Or.inr ⟨by rfl, rfl⟩) hS ?_
                  (try simp only [List.setIfInBounds_toArray, List.set_cons_zero, List.set_cons_succ])
                  refine wpAnyP_take 6 137 [6, 19] (v := undef) rfl (by kernel_rfl) (by kernel_rfl) (by kernel_rfl) (by kernel_rfl) (by kernel_rfl) (by kernel_rfl) (by rfl) (fun _ _ _ h => h) (Or.inr ⟨by rfl, rfl⟩) hS ?_
                  (try simp only [List.setIfInBounds_toArray, List.set_cons_zero, List.set_cons_succ])
                  refine wpAnyP_take 7 138 [7, 19] (v := undef) rfl (by kernel_rfl) (by kernel_rfl) (by kernel_rfl) (by kernel_rfl) (by kernel_rfl) (by kernel_rfl) (by rfl) (fun _ _ _ h => h) (Or.inr ⟨by rfl, rfl⟩) hS ?_
                  (try simp only [List.setIfInBounds_toArray, List.set_cons_zero, List.set_cons_succ])
                  refine wpAnyP_take 8 139 [8, 19] (v := undef) rfl (by kernel_rfl) (by kernel_rfl) (by kernel_rfl) (by kernel_rfl) (by kernel_rfl) (by kernel_rfl) (by rfl) (fun _ _ _ h => h) (Or.inr ⟨by rfl, rfl⟩) hS ?_
                  (try simp only [List.setIfInBounds_toArray, List.set_cons_zero, List.set_cons_succ])
                  refine wpAnyP_take 9 140 [9, 19] (v := undef) rfl (by kernel_rfl) (by kernel_rfl) (by kernel_rfl) (by kernel_rfl) (by kernel_rfl) (by kernel_rfl) (by rfl) (fun _ _ _ h => h) (Or.inr ⟨by rfl, rfl⟩) hS ?_
                  (try simp only [List.setIfInBounds_toArray, List.set_cons_zero, List.set_cons_succ])
                  refine wpAnyP_take 10 141 [10, 19] (v := undef) rfl (by kernel_rfl) (by kernel_rfl) (by kernel_rfl) (by kernel_rfl) (by kernel_rfl) (by kernel_rfl) (by rfl) (fun _ _ _ h => h) (Or.inr ⟨by rfl, rfl⟩) hS ?_
                  (try simp only [List.setIfInBounds_toArray, List.set_cons_zero, List.set_cons_succ])
                  refine wpAnyP_take 11 142 [11, 19] (v := undef) rfl (by kernel_rfl) (by kernel_rfl) (by kernel_rfl) (by kernel_rfl) (by kernel_rfl) (by kernel_rfl) (by rfl) (fun _ _ _ h => h) (Or.inr ⟨by rfl, rfl⟩) hS ?_
                  (try simp only [List.setIfInBounds_toArray, List.set_cons_zero, List.set_cons_succ])
                  refine wpAnyP_take 12 143 [12, 19] (v := undef) rfl (by kernel_rfl) (by kernel_rfl) (by kernel_rfl) (by kernel_rfl) (by kernel_rfl) (by kernel_rfl) (by rfl) (fun _ _ _ h => h) (Or.inr ⟨by rfl, rfl⟩) hS ?_
                  (try simp only [List.setIfInBounds_toArray, List.set_cons_zero, List.set_cons_succ])
                  refine wpAnyP_take 13 144 [13, 19] (v := undef) rfl (by kernel_rfl) (by kernel_rfl) (by kernel_rfl) (by kernel_rfl) (by kernel_rfl) (by kernel_rfl) (by rfl) (fun _ _ _ h => h) (Or.inr ⟨by rfl, rfl⟩) hS ?_
                  (try simp only [List.setIfInBounds_toArray, List.set_cons_zero, List.set_cons_succ])
                  refine wpAnyP_take 14 145 [14, 19] (v := undef) rfl (by kernel_rfl) (by kernel_rfl) (by kernel_rfl) (by kernel_rfl) (by kernel_rfl) (by kernel_rfl) (by rfl) (fun _ _ _ h => h) (Or.inr ⟨by rfl, rfl⟩) hS ?_
                  (try simp only [List.setIfInBounds_toArray, List.set_cons_zero, List.set_cons_succ])
                  refine wpAnyP_take 15 146 [15, 19] (v := undef) rfl (by kernel_rfl) (by kernel_rfl) (by kernel_rfl) (by kernel_rfl) (by kernel_rfl) (by kernel_rfl) (by rfl) (fun _ _ _ h => h) (Or.inr ⟨by rfl, rfl⟩) hS ?_
                  (try simp only [List.setIfInBounds_toArray, List.set_cons_zero, List.set_cons_succ])
                  refine wpAnyP_take 16 147 [16, 19] (v := undef) rfl (by kernel_rfl) (by kernel_rfl) (by kernel_rfl) (by kernel_rfl) (by kernel_rfl) (by kernel_rfl) (by rfl) (fun _ _ _ h => h) (Or.inr ⟨by rfl, rfl⟩) hS ?_
                  (try simp only [List.setIfInBounds_toArray, List.set_cons_zero, List.set_cons_succ])
                  refine wpAnyP_take 17 148 [17, 19] (v := undef) rfl (by kernel_rfl) (by kernel_rfl) (by kernel_rfl) (by kernel_rfl) (by kernel_rfl) (by kernel_rfl) (by rfl) (fun _ _ _ h => h) (Or.inr ⟨by rfl, rfl⟩) hS ?_
                  (try simp only [List.setIfInBounds_toArray, List.set_cons_zero, List.set_cons_succ])
                  refine wpAnyP_take 18 149 [18, 19] (v := ?_) rfl (by kernel_rfl) (by kernel_rfl) (by kernel_rfl) (by kernel_rfl) (by kernel_rfl) (by kernel_rfl) (by rfl) (fun _ _ _ h => h) (Or.inl ⟨by rfl, ?_⟩) hS ?_; rotate_left
                  · (intro w hSw; (try dsimp only at hSw); go_simp; (try with_reducible rfl))
                  (try simp only [List.setIfInBounds_toArray, List.set_cons_zero, List.set_cons_succ])
                  refine wpAnyP_one 19 rfl (by kernel_rfl) (fun K hK => ?_)
                  go_simp
                  refine hK.out _ _ (fun _ => hS) ?_
                  clear hK K
                  (try simp only [Act.put, List.setIfInBounds_toArray, List.set_cons_zero, List.set_cons_succ])
                  refine wpAnyP_done (by kernel_rfl) ?_ _
                  have hbk := hS.2.out
                  clear hS
                  have w2 := hw6.out
                  go_wp2_with fail
                  (try simp only [w2])
                  clear w2 hw6
                  exact ⟨⟨k + 1, rfl, by omega, ⟨false, rfl, HOK2⟩, hide (HS.out.below hbk), hide (HB.out.trans (hbk.mono HB.out.size)), hide (HP.out.below hbk)⟩, by simp [intOf]; omega⟩
                · as_aux_lemma =>
                  have HOK2 : Hid (pb = (b0 && (ns.take (k + 1)).all (pwB E nn rr))) := hide (by rw [HAT.out, ← Bool.and_assoc, ← HOK.out]; rfl)
                  clear HOK HAT
                  have w3 := hw3.out
                  have w3' := hw3'.out
                  have w5 := hw5.out.1
                  have w5' := hw5.out.2
                  refine wp_region_P (fun W => ((W.cell? ⟨g5, 0, none⟩ = some (.int .i64 (nn : Nat)) ∧ W.cell? ⟨g5, 1, none⟩ = some (.int .i64 (rr : Nat)) ∧ W.cell? ⟨g5, 2, none⟩ = some (.slice (some a) N2 pc)) ∧ W.cell? (a.add (k * 3)) = some (.int .i64 (qq : Nat))) ∧ Hid (Below wk.heap.size wk W)) 19 (by rfl) ((KS _ (below_drewN (Below.refl _ _) 1)).out) ?_
                  intro hS
                  refine wpAnyP_take 0 131 [0, 19] (v := ?_) rfl (by kernel_rfl) (by kernel_rfl) (by kernel_rfl) (by kernel_rfl) (by kernel_rfl) (by kernel_rfl) (by rfl) (fun _ _ _ h => h) (Or.inl ⟨by rfl, ?_⟩) hS ?_; rotate_left
                  · (intro w hSw; (try dsimp only at hSw); go_simp; (try with_reducible rfl))
                  (try simp only [List.setIfInBounds_toArray, List.set_cons_zero, List.set_cons_succ])
                  refine wpAnyP_take 1 132 [1, 19] (v := ?_) rfl (by kernel_rfl) (by kernel_rfl) (by kernel_rfl) (by kernel_rfl) (by kernel_rfl) (by kernel_rfl) (by rfl) (fun _ _ _ h => h) (Or.inl ⟨by rfl, ?_⟩) hS ?_; rotate_left
                  · (intro w hSw; (try dsimp only at hSw); go_simp; (try with_reducible rfl))
                  (try simp only [List.setIfInBounds_toArray, List.set_cons_zero, List.set_cons_succ])
                  refine wpAnyP_take 2 133 [2, 19] (v := ?_) rfl (by kernel_rfl) (by kernel_rfl) (by kernel_rfl) (by kernel_rfl) (by kernel_rfl) (by kernel_rfl) (by rfl) (fun _ _ _ h => h) (Or.inl ⟨by rfl, ?_⟩) hS ?_; rotate_left
                  · (intro w hSw; (try dsimp only at hSw); go_simp; (try with_reducible rfl))
                  (try simp only [List.setIfInBounds_toArray, List.set_cons_zero, List.set_cons_succ])
                  refine wpAnyP_take 3 134 [3, 19] (v := ?_) rfl (by kernel_rfl) (by kernel_rfl) (by kernel_rfl) (by kernel_rfl) (by kernel_rfl) (by kernel_rfl) (by rfl) (fun _ _ _ h => h) (Or.inl ⟨by rfl, ?_⟩) hS ?_; rotate_left
                  · (intro w hSw; (try dsimp only at hSw); go_simp; (try with_reducible rfl))
                  (try simp only [List.setIfInBounds_toArray, List.set_cons_zero, List.set_cons_succ])
                  refine wpAnyP_take 4 135 [4, 19] (v := ?_) rfl (by kernel_rfl) (by kernel_rfl) (by kernel_rfl) (by kernel_rfl) (by kernel_rfl) (by kernel_rfl) (by rfl) (fun _ _ _ h => h) (Or.inl ⟨by rfl, ?_⟩) hS ?_; rotate_left
                  · (intro w hSw; (try dsimp only at hSw); go_simp; (try with_reducible rfl))
                  (try simp only [List.setIfInBounds_toArray, List.set_cons_zero, List.set_cons_succ])
                  refine wpAnyP_take 5 136 [5, 19] (v := ?_) rfl (by kernel_rfl) (by kernel_rfl) (by kernel_rfl) (by kernel_rfl) (by kernel_rfl) (by kernel_rfl) (by rfl) (fun _ _ _ h => h) (Or.inl ⟨by rfl, ?_⟩) hS ?_; rotate_left
                  · (intro w hSw; (try dsimp only at hSw); go_simp; (try with_reducible rfl))
                  (try simp only [List.setIfInBounds_toArray, List.set_cons_zero, List.set_cons_succ])
                  refine wpAnyP_take 6 137 [6, 19] (v := ?_) rfl (by kernel_rfl) (by kernel_rfl) (by kernel_rfl) (by kernel_rfl) (by kernel_rfl) (by kernel_rfl) (by rfl) (fun _ _ _ h => h) (Or.inl ⟨by rfl, ?_⟩) hS ?_; rotate_left
                  · (intro w hSw; (try dsimp only at hSw); go_simp; (try with_reducible rfl))
                  (try simp only [List.setIfInBounds_toArray, List.set_cons_zero, List.set_cons_succ])
                  refine wpAnyP_take 7 138 [7, 19] (v := ?_) rfl (by kernel_rfl) (by kernel_rfl) (by kernel_rfl) (by kernel_rfl) (by kernel_rfl) (by kernel_rfl) (by rfl) (fun _ _ _ h => h) (Or.inl ⟨by rfl, ?_⟩) hS ?_; rotate_left
                  · (intro w hSw; (try dsimp only at hSw); go_simp; (try with_reducible rfl))
                  (try simp only [List.setIfInBounds_toArray, List.set_cons_zero, List.set_cons_succ])
                  refine wpAnyP_take 8 139 [8, 19] (v := ?_) rfl (by kernel_rfl) (by kernel_rfl) (by kernel_rfl) (by kernel_rfl) (by kernel_rfl) (by kernel_rfl) (by rfl) (fun _ _ _ h => h) (Or.inl ⟨by rfl, ?_⟩) hS ?_; rotate_left
                  · (intro w hSw; (try dsimp only at hSw); go_simp; (try with_reducible rfl))
                  (try simp only [List.setIfInBounds_toArray, List.set_cons_zero, List.set_cons_succ])
                  refine wpAnyP_take 9 140 [9, 19] (v := ?_) rfl (by kernel_rfl) (by kernel_rfl) (by kernel_rfl) (by kernel_rfl) (by kernel_rfl) (by kernel_rfl) (by rfl) (fun _ _ _ h => h) (Or.inl ⟨by rfl, ?_⟩) hS ?_; rotate_left
                  · (intro w hSw; (try dsimp only at hSw); go_simp; (try with_reducible rfl))
                  (try simp only [List.setIfInBounds_toArray, List.set_cons_zero, List.set_cons_succ])
                  refine wpAnyP_take 10 141 [10, 19] (v := ?_) rfl (by kernel_rfl) (by kernel_rfl) (by kernel_rfl) (by kernel_rfl) (by kernel_rfl) (by kernel_rfl) (by rfl) (fun _ _ _ h => h) (Or.inl ⟨by rfl, ?_⟩) hS ?_; rotate_left
                  · (intro w hSw; (try dsimp only at hSw); go_simp; (try with_reducible rfl))
                  (try simp only [List.setIfInBounds_toArray, List.set_cons_zero, List.set_cons_succ])
                  refine wpAnyP_take 11 142 [11, 19] (v := ?_) rfl (by kernel_rfl) (by kernel_rfl) (by kernel_rfl) (by kernel_rfl) (by kernel_rfl) (by kernel_rfl) (by rfl) (fun _ _ _ h => h) (Or.inl ⟨by rfl, ?_⟩) hS ?_; rotate_left
                  · (intro w hSw; (try dsimp only at hSw); go_simp; (try with_reducible rfl))
                  (try simp only [List.setIfInBounds_toArray, List.set_cons_zero, List.set_cons_succ])
                  refine wpAnyP_take 12 143 [12, 19] (v := ?_) rfl (by kernel_rfl) (by kernel_rfl) (by kernel_rfl) (by kernel_rfl) (by kernel_rfl) (by kernel_rfl) (by rfl) (fun _ _ _ h => h) (Or.inl ⟨by rfl, ?_⟩) hS ?_; rotate_left
                  · (intro w hSw; (try dsimp only at hSw); go_simp; (try with_reducible rfl))
                  (try simp only [List.setIfInBounds_toArray, List.set_cons_zero, List.set_cons_succ])
                  refine wpAnyP_take 13 144 [13, 19] (v := ?_) rfl (by kernel_rfl) (by kernel_rfl) (by kernel_rfl) (by kernel_rfl) (by kernel_rfl) (by kernel_rfl) (by rfl) (fun _ _ _ h => h) (Or.inl ⟨by rfl, ?_⟩) hS ?_; rotate_left
                  · (intro w hSw; (try dsimp only at hSw); go_simp; (try with_reducible rfl))
                  (try simp only [List.setIfInBounds_toArray, List.set_cons_zero, List.set_cons_succ])
                  refine wpAnyP_take 14 145 [14, 19] (v := ?_) rfl (by kernel_rfl) (by kernel_rfl) (by kernel_rfl) (by kernel_rfl) (by kernel_rfl) (by kernel_rfl) (by rfl) (fun _ _ _ h => h) (Or.inl ⟨by rfl, ?_⟩) hS ?_; rotate_left
                  · (intro w hSw; (try dsimp only at hSw); go_simp; (try with_reducible rfl))
                  (try simp only [List.setIfInBounds_toArray, List.set_cons_zero, List.set_cons_succ])
                  refine wpAnyP_take 15 146 [15, 19] (v := ?_) rfl (by kernel_rfl) (by kernel_rfl) (by kernel_rfl) (by kernel_rfl) (by kernel_rfl) (by kernel_rfl) (by rfl) (fun _ _ _ h => h) (Or.inl ⟨by rfl, ?_⟩) hS ?_; rotate_left
                  · (intro w hSw; (try dsimp only at hSw); go_simp; (try with_reducible rfl))
                  (try simp only [List.setIfInBounds_toArray, List.set_cons_zero, List.set_cons_succ])
                  refine wpAnyP_one 16 rfl (by kernel_rfl) (fun K hK => ?_)
                  go_simp
                  refine (CP _).out.mono ?_
                  rintro e w6 ⟨rfl, hb⟩
                  have hy := hS.2.out.trans (hb.mono hS.2.out.size)
                  clear hS
                  have hS := (KS w6 hy).out
                  clear hb hy
                  refine hK.out _ _ (fun _ => hS) ?_
                  clear hK K
                  (try simp only [Act.put, List.setIfInBounds_toArray, List.set_cons_zero, List.set_cons_succ])
                  refine wpAnyP_take 17 148 [17, 19] (v := ?_) rfl (by kernel_rfl) (by kernel_rfl) (by kernel_rfl) (by kernel_rfl) (by kernel_rfl) (by kernel_rfl) (by rfl) (fun _ _ _ h => h) (Or.inl ⟨by rfl, ?_⟩) hS ?_; rotate_left
                  · (intro w hSw; (try dsimp only at hSw); go_simp; (try with_reducible rfl))
                  (try simp only [List.setIfInBounds_toArray, List.set_cons_zero, List.set_cons_succ])
                  refine wpAnyP_take 18 149 [18, 19] (v := ?_) rfl (by kernel_rfl) (by kernel_rfl) (by kernel_rfl) (by kernel_rfl) (by kernel_rfl) (by kernel_rfl) (by rfl) (fun _ _ _ h => h) (Or.inl ⟨by rfl, ?_⟩) hS ?_; rotate_left
                  · (intro w hSw; (try dsimp only at hSw); go_simp; (try with_reducible rfl))
                  (try simp only [List.setIfInBounds_toArray, List.set_cons_zero, List.set_cons_succ])
                  refine wpAnyP_one 19 rfl (by kernel_rfl) (fun K hK => ?_)
                  go_simp
                  refine hK.out _ _ (fun _ => hS) ?_
                  clear hK K
                  (try simp only [Act.put, List.setIfInBounds_toArray, List.set_cons_zero, List.set_cons_succ])
                  refine wpAnyP_done (by kernel_rfl) ?_ _
                  have hbk := hS.2.out
                  clear hS w3 w3' w5 w5'
                  have w2 := hw6.out
                  go_wp2_with fail
                  (try simp only [w2])
                  clear w2 hw6
                  exact ⟨⟨k + 1, rfl, by omega, ⟨pb, rfl, HOK2⟩, hide (HS.out.below hbk), hide (HB.out.trans (hbk.mono HB.out.size)), hide (HP.out.below hbk)⟩, by simp [intOf]; omega⟩
              · as_aux_lemma =>
                have hkN : N2 = k := by omega
                subst hkN
                have hok := HOK.out
                rw [← HNS.out.2, List.take_length] at hok
                have S5 := HS
                cases ok
                · have HR : Hid (scanL (pre t) 0 = (10, (i : Int))) := hide (HBAD.out 10 (HM2.out.1 HCK.out hok.symm) (by decide))
                  clear hok HOK
                  go_wp2_with fail
                  refine (CF 10 (i : Int) _).out.mono ?_
                  rintro e w7 ⟨rfl, hb⟩
                  have S7 := hide (S5.out.below hb)
                  clear hb
                  obtain ⟨e0, e1, e2, e3⟩ := S7.out.e.cells
                  go_wp2_with fail
                  obtain ⟨F1, F2⟩ := S7.out.fin 10 (i : Int)
                  obtain ⟨G0, G1, _, _⟩ := F1.cells
                  exact bodyPost_ret (v := .agg #[.int .i64 10, .int .i64 (i : Int)]) (by simp [results, Tryd.results7, go_sem, G0, G1]) rfl ⟨by rw [HR.out]; rfl, F2⟩
                · have HNX : Hid (scanL (T.drop (i + 1)) (i + 1) = scanL (pre t) 0) := hide (HGO.out (HM2.out.2 HCK.out hok.symm))
                  clear hok HOK
                  have w2 := hw2.out
                  go_wp2_with fail
                  (try simp only [w2])
                  clear w2 hw2
                  exact ⟨⟨i + 1, rfl, by have := HIN.out; omega, HNX, HS, HB⟩, by have := HIN.out; simp [intOf]; omega⟩
          · as_aux_lemma =>
            have r1 : ((left : Int) != 1) = true := by simp; omega
            have HR : Hid (scanL (pre t) 0 = (6, (i : Int))) := hide (HBAD.out 6 (HM.out.1 (by rw [← hend]; simp; exact hl1)) (by decide))
            clear hend hl1
            go_wp2_with fail
            refine (CF 6 (i : Int) _).out.mono ?_
            rintro e w7 ⟨rfl, hb⟩
            have S7 := hide (S5.out.below hb)
            clear hb
            obtain ⟨e0, e1, e2, e3⟩ := S7.out.e.cells
            go_wp2_with fail
            obtain ⟨F1, F2⟩ := S7.out.fin 6 (i : Int)
            obtain ⟨G0, G1, _, _⟩ := F1.cells
            exact bodyPost_ret (v := .agg #[.int .i64 6, .int .i64 (i : Int)]) (by simp [results, Tryd.results7, go_sem, G0, G1]) rfl ⟨by rw [HR.out]; rfl, F2⟩
    · as_aux_lemma =>
      have hiN : N = i := by omega
      subst hiN
      have HR : Hid (scanL (pre t) 0 = (0, 0)) := hide (by rw [← HI.out]; exact scan_end HTN.out.symm)
      obtain ⟨e0, e1, e2, e3⟩ := HS.out.e.cells
      clear HI
      go_wp2_with fail
      obtain ⟨F1, F2⟩ := HS.out.fin 0 0
      obtain ⟨G0, G1, _, _⟩ := F1.cells
      exact bodyPost_ret (v := .agg #[.int .i64 0, .int .i64 0]) (by simp [results, Tryd.results7, go_sem, G0, G1]) rfl ⟨by rw [HR.out]; rfl, F2⟩
end Go.Proofs.YtlchmaiflcnaoaaDoor
