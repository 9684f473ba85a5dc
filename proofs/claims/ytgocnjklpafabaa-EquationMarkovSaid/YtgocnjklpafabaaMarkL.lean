/- The walk of the law EquationMarkov. -/
import Derived.Test.YtgocnjklpafabaaEqBeg
import Derived.Test.YtgocnjklpafabaaMarkV
import Derived.Deep.LoopGhost
import Derived.Deep.DeepCutAuto
namespace Go.Proofs.Ytgocnjklpafabaa
open Go.RowKit

set_option maxRecDepth 100000 in
set_option maxHeartbeats 1600000 in
theorem markl_bad (most : Int) (w : World) (h : ¬ (0 ≤ most ∧ most ≤ 1000000000000000000)) :
    Calls Try.prog 5 #[.int .i64 most] w fun e w' => e = .returned (.bool true) ∧ Below w.heap.size w w' := by
  have CW := fun W => hide (eqBegun_any W)
  have CM := hide (markov_bad most w h)
  have CN := fun W => hide (number_any most W)
  have CF := fun W => hide (refF_any 3 0 W)
  have hok : decide (most < 0) = true ∨ (decide (most < 0) = false ∧ okB most = false) := by
    by_cases h0 : most < 0
    · left; simpa using h0
    · right
      refine ⟨by simpa using h0, ?_⟩
      unfold okB; simp; omega
  clear h
  go_enter Try.func5, Try.ntmps5
  go_wp2_with fail
  refine CM.out.mono ?_
  rintro e w1 ⟨rfl, hb⟩
  simp only [fv]
  have F1 := hide (FC.made w1 3 0)
  have HB1 := hide (hb.alloc hb.size (.cells #[.int .i64 3, .int .i64 0] 24))
  clear hb CM
  go_wp2_with fail
  refine (CW _).out.mono ?_
  rintro e w2 ⟨rfl, hb⟩
  have F2 := hide (F1.out.below hb)
  have HB2 := hide (HB1.out.trans (hb.mono HB1.out.size))
  have hsz : w1.heap.size < w2.heap.size := F2.out.lt
  clear hb CW F1 HB1
  obtain ⟨q, hq⟩ : ∃ q, w1.heap.size = q := ⟨_, rfl⟩
  rw [hq] at F2 hsz
  (try rw [hq])
  clear hq
  obtain ⟨d0, d1, _, _⟩ := F2.out.cells
  have K := fun W (k : Below w2.heap.size w2 W) => hide (show (W.cell? ⟨q, 0, none⟩ = some (.int .i64 3) ∧ W.cell? ⟨q, 1, none⟩ = some (.int .i64 0)) ∧ Hid (Below w2.heap.size w2 W) from ⟨⟨(F2.out.below k).cells.1, (F2.out.below k).cells.2.1⟩, hide k⟩)
  rcases hok with h0 | ⟨h0, h1⟩
  · go_wp2_with fail
    go_region_held3 (fun W => (W.cell? ⟨q, 0, none⟩ = some (.int .i64 3) ∧ W.cell? ⟨q, 1, none⟩ = some (.int .i64 0)) ∧ Hid (Below w2.heap.size w2 W)) (first | exact (K _ (below_drewN (Below.refl _ _) 1)).out | exact (K _ hb).out | exact (K _ ((below_drewN (Below.refl _ _) 1).trans (hb.mono (by simp)))).out) (first | (go_at_call 7; refine (CF _).out.mono ?_; rintro e w5 ⟨rfl, hb⟩))
    all_goals
      rename_i hS
      have hy := hS.2
      clear hS
      go_wp2_with fail
      go_ret
      exact ⟨rfl, HB2.out.trans (hy.out.mono HB2.out.size)⟩
  · rw [h1] at CN
    go_wp2_with fail
    refine (CN _).out.mono ?_
    rintro e w5 ⟨rfl, rfl⟩
    go_wp2_with fail
    go_region_held3 (fun W => (W.cell? ⟨q, 0, none⟩ = some (.int .i64 3) ∧ W.cell? ⟨q, 1, none⟩ = some (.int .i64 0)) ∧ Hid (Below w2.heap.size w2 W)) (first | exact (K _ (below_drewN (Below.refl _ _) 1)).out | exact (K _ hb).out | exact (K _ ((below_drewN (Below.refl _ _) 1).trans (hb.mono (by simp)))).out) (first | (go_at_call 7; refine (CF _).out.mono ?_; rintro e w5 ⟨rfl, hb⟩))
    all_goals
      rename_i hS
      have hy := hS.2
      clear hS
      go_wp2_with fail
      go_ret
      exact ⟨rfl, HB2.out.trans (hy.out.mono HB2.out.size)⟩

set_option maxRecDepth 100000 in
set_option maxHeartbeats 1600000 in
theorem markl_small (most : Nat) (w : World) (h : most ≤ 100) :
    Calls Try.prog 5 #[.int .i64 (most : Nat)] w fun e w' => e = .returned (.bool true) ∧ Below w.heap.size w w' := by
  have CW := fun W => hide (eqBegun_any W)
  have CM := hide (markov_ok most w (by omega))
  have CN := fun W => hide (number_any (most : Int) W)
  rw [show okB (most : Int) = true from by unfold okB; simp; omega] at CN
  have CO := fun W => hide (markovOf_any most W h)
  rw [mOf_eq most h] at CO
  have CT := fun va vb W (k1 : TRow W w.heap.size va (mkL most)) b2 (k2 : TRow W b2 vb (mkL most)) => hide (threes_any va vb (mkL most) w.heap.size b2 W k1 k2 (by have := mk_len most; omega))
  have HL := hide (mk_len most)
  go_enter Try.func5, Try.ntmps5
  go_wp2_with fail
  refine CM.out.mono ?_
  rintro e w1 ⟨v, rfl, hr, hb⟩
  simp only [fv]
  have F1 := hide (FC.made w1 0 0)
  have HB1 := hide (hb.alloc hb.size (.cells #[.int .i64 0, .int .i64 0] 24))
  have R1 := hide (hr.below (bel_e w1 (.cells #[.int .i64 0, .int .i64 0] 24)))
  clear hb hr CM
  go_wp2_with fail
  refine (CW _).out.mono ?_
  rintro e w2 ⟨rfl, hb⟩
  have F2 := hide (F1.out.below hb)
  have HB2 := hide (HB1.out.trans (hb.mono HB1.out.size))
  have R2 := hide (R1.out.below hb)
  clear hb CW F1 HB1 R1
  obtain ⟨q, hq⟩ : ∃ q, w1.heap.size = q := ⟨_, rfl⟩
  rw [hq] at F2
  (try rw [hq])
  clear hq
  obtain ⟨d0, d1, _, _⟩ := F2.out.cells
  obtain ⟨A, c, rfl, _⟩ := R2.out.open_
  have hl := HL.out
  obtain ⟨n, hn⟩ : ∃ n, (mkL most).length = n := ⟨_, rfl⟩
  rw [hn] at hl R2
  (try rw [hn])
  go_wp2_with fail
  refine (CN _).out.mono ?_
  rintro e w5 ⟨rfl, rfl⟩
  go_wp2_with fail
  refine (CO _).out.mono ?_
  rintro e w3 ⟨v2, rfl, hr, hb⟩
  have R3 := hide (R2.out.below hb)
  have HB3 := hide (HB2.out.trans (hb.mono HB2.out.size))
  have CT3 := hide (CT _ v2 w3 R3.out _ hr)
  clear hb hr CO CT
  go_wp2_with fail
  refine CT3.out.out.mono ?_
  rintro e w4 ⟨rfl, nd, rfl⟩
  go_wp2_with fail
  go_ret
  exact ⟨rfl, below_drewN HB3.out nd⟩

/-- the three cells of the triple at place i of the list in block g -/
def C3 (W : World) (g i : Nat) (t : T3) : Prop := W.cell? ⟨g, i * 3, none⟩ = some (.int .i64 (t.1 : Nat)) ∧ W.cell? ⟨g, i * 3 + 1, none⟩ = some (.int .i64 (t.2.1 : Nat)) ∧ W.cell? ⟨g, i * 3 + 2, none⟩ = some (.int .i64 (t.2.2 : Nat))
theorem mk_head {most : Nat} (h : 1 ≤ most) : (mkL most)[0]? = some (1, 1, 1) := by
  obtain ⟨r, hr⟩ : ∃ r, TT = (1, 1, 1) :: r := ⟨TT.tail, by decide +kernel⟩
  unfold mkL
  rw [hr, List.filter_cons, if_pos (by simpa using h)]; rfl
theorem mk_less {most i : Nat} {s t : T3} (hs : (mkL most)[i]? = some s) (ht : (mkL most)[i + 1]? = some t) : s.2.2 < t.2.2 := by
  have h := mk_pair most
  rw [List.pairwise_iff_getElem] at h
  obtain ⟨h1, e1⟩ := List.getElem?_eq_some_iff.1 hs
  obtain ⟨h2, e2⟩ := List.getElem?_eq_some_iff.1 ht
  have := h i (i + 1) h1 h2 (by omega)
  rw [e1, e2] at this; exact this
theorem new2 {w0 w : World} {L : List (Nat × Int)} (h : Own w0 w L) : Own w0 ((w.alloc (.cells #[.bool false, .slice none 0 0] 52)).alloc (.cells #[.bool false, .slice none 0 0] 52)) ((w.heap.size + 1, 0) :: (w.heap.size, 0) :: L) := by
  have := h.new.new
  rwa [World.size_alloc] at this
theorem take_dec {l : List T3} {j : Nat} {s x : T3} (hs : l[j]? = some s) : decide (x ∈ l.take (j + 1)) = (decide (x ∈ l.take j) || decide (s = x)) := by
  rw [List.take_add_one, hs, Bool.eq_iff_iff, Bool.or_eq_true, decide_eq_true_eq, decide_eq_true_eq, decide_eq_true_eq, List.mem_append]
  constructor
  · rintro (h | h)
    · exact .inl h
    · exact .inr (List.mem_singleton.1 h).symm
  · rintro (h | h)
    · exact .inl h
    · exact .inr (List.mem_singleton.2 h.symm)
theorem isM_ok {t : T3} (h : t ∈ TT) : isM t = true := by
  unfold isM
  have := (ok_of h).eq
  simpa using this
/-- a number of a triple and the one over against it -/
theorem near_k {t : T3} (h : t ∈ TT) {k : Nat} (hk : k < 2) : (3 * nthT t k * t.2.2 - nthT t (1 - k) ≤ 1000000000000000000 → (nthT t k, t.2.2, 3 * nthT t k * t.2.2 - nthT t (1 - k)) ∈ TT) ∧ 1 ≤ nthT t k ∧ nthT t k ≤ t.2.2 ∧ nthT t (1 - k) ≤ t.2.2 := by
  have h1 := near_of h
  have h2 := ok_of h
  have h3 := h2.a; have h4 := h2.b; have h5 := h2.c
  have : k = 0 ∨ k = 1 := by omega
  rcases this with rfl | rfl
  · exact ⟨h1.1, h3, by show t.1 ≤ _; omega, h5⟩
  · exact ⟨h1.2, by show 1 ≤ t.2.1; omega, h5, by show t.1 ≤ _; omega⟩

set_option maxRecDepth 100000 in
set_option maxHeartbeats 3200000 in
theorem markl_big (most : Nat) (w : World) (h : 100 < most) (h2 : most ≤ 1000000000000000000) :
    Calls Try.prog 5 #[.int .i64 (most : Nat)] w fun e w' => e = .returned (.bool true) ∧ Below w.heap.size w w' := by
  have CW := fun W => hide (eqBegun_any W)
  have CM := hide (markov_ok most w h2)
  have CN := fun W => hide (number_any (most : Int) W)
  rw [show okB (most : Int) = true from by unfold okB; simp; omega] at CN
  have HL := hide (mk_len most)
  have HHD := hide (mk_head (most := most) (by omega))
  have q100 : decide ((most : Int) ≤ 100) = false := by rw [decide_eq_false_iff_not]; omega
  have q100' : decide (most ≤ 100) = false := by rw [decide_eq_false_iff_not]; omega
  go_enter Try.func5, Try.ntmps5
  go_wp2_with fail
  refine CM.out.mono ?_
  rintro e w1 ⟨v, rfl, hr, hb⟩
  simp only [fv]
  have F1 := hide (FC.made w1 0 0)
  have HB1 := hide (hb.alloc hb.size (.cells #[.int .i64 0, .int .i64 0] 24))
  have R1 := hide (hr.below (bel_e w1 (.cells #[.int .i64 0, .int .i64 0] 24)))
  clear hb hr CM
  go_wp2_with fail
  refine (CW _).out.mono ?_
  rintro e w2 ⟨rfl, hb⟩
  have F2 := hide (F1.out.below hb)
  have HB2 := hide (HB1.out.trans (hb.mono HB1.out.size))
  have R2 := hide (R1.out.below hb)
  clear hb CW F1 HB1 R1
  obtain ⟨q, hq⟩ : ∃ q, w1.heap.size = q := ⟨_, rfl⟩
  rw [hq] at F2
  (try rw [hq])
  clear hq
  obtain ⟨d0, d1, _, _⟩ := F2.out.cells
  obtain ⟨A, cp, rfl, hA⟩ := R2.out.open_
  obtain ⟨g, rfl, hgb, hgl, _⟩ := hA 0 (1, 1, 1) HHD.out
  have HC : Hid (∀ W, Below w2.heap.size w2 W → ∀ (i : Nat) (t : T3), (mkL most)[i]? = some t → C3 W g i t) := hide (fun W k i t ht => by
    obtain ⟨g', hg', _, _, a0, a1, a2⟩ := hA i t ht
    injection hg' with hg'
    injection hg' with hg' _ _
    subst hg'
    exact ⟨(k.cell (p := ⟨g, i * 3, none⟩) hgl).trans a0, (k.cell (p := ⟨g, i * 3 + 1, none⟩) hgl).trans a1, (k.cell (p := ⟨g, i * 3 + 2, none⟩) hgl).trans a2⟩)
  obtain ⟨z0, z1, z2⟩ := HC.out w2 (Below.refl _ _) 0 (1, 1, 1) HHD.out
  have hl := HL.out
  obtain ⟨n, hn⟩ : ∃ n, (mkL most).length = n := ⟨_, rfl⟩
  have hn1 : 1 ≤ n := by
    rw [← hn]
    have := (List.getElem?_eq_some_iff.1 HHD.out).1
    omega
  have HNL := hide hn
  rw [hn] at hl
  (try rw [hn])
  have heq := eqT_refl 1 1 1
  clear hA hn R2
  go_wp2_with fail
  refine (CN _).out.mono ?_
  rintro e w5 ⟨rfl, rfl⟩
  go_wp2_with fail
  go_loopw [5] (fun iv wr => ∃ i : Nat, i ≤ n ∧ iv = .int .i64 i ∧ Hid (Below w2.heap.size w2 wr)) (fun iv _ => n - (intOf iv).toNat)
  case atStart => exact ⟨0, by omega, rfl, hide (Below.refl _ _)⟩
  case round =>
    obtain ⟨i, hi, rfl, HW⟩ := hrel
    obtain ⟨wo, rfl⟩ : ∃ Z, Z = wr := ⟨_, rfl⟩
    by_cases hin : i < n
    · obtain ⟨t, ht⟩ : ∃ t, (mkL most)[i]? = some t := ⟨_, List.getElem?_eq_getElem (by rw [HNL.out]; exact hin)⟩
      have hmem := mk_mem.1 (List.mem_of_getElem? ht)
      have hok := ok_of hmem.1
      have HT := hide ht
      have HM := hide hmem
      obtain ⟨a, b, c⟩ := t
      obtain ⟨ha, hb0, hc, hd, _, _⟩ := hok
      simp only at ha hb0 hc hd
      have hcm : c ≤ most := hmem.2
      obtain ⟨y0, y1, y2⟩ := HC.out wo HW.out i (a, b, c) ht
      simp only at y0 y1 y2
      have CI := fun W => hide (markovIs_any (a, b, c) W ⟨by simp only; omega, by simp only; omega, hd⟩)
      rw [isM_ok hmem.1] at CI
      unfold tv at CI
      simp only at CI
      have hgo : g < wo.heap.size := Nat.lt_of_lt_of_le hgl HW.out.size
      have hw2o := HW.out.size
      have q1 : decide ((a : Int) < 1) = false := by rw [decide_eq_false_iff_not]; omega
      have q2 : decide (b < a) = false := by rw [decide_eq_false_iff_not]; omega
      have q2' : decide ((b : Int) < (a : Int)) = false := by rw [decide_eq_false_iff_not]; omega
      have q3 : decide (c < b) = false := by rw [decide_eq_false_iff_not]; omega
      have q3' : decide ((c : Int) < (b : Int)) = false := by rw [decide_eq_false_iff_not]; omega
      have q4 : decide (most < c) = false := by rw [decide_eq_false_iff_not]; omega
      have q4' : decide ((most : Int) < (c : Int)) = false := by rw [decide_eq_false_iff_not]; omega
      have HABC := hide (And.intro ha (And.intro hb0 (And.intro hc hcm)))
      clear ht hmem ha hb0 hc hcm hd
      go_upto_region 16 with (fail)
      have HCB := hide (heap_alloc_new wo (.cells #[.int .i64 (a : Nat), .int .i64 (b : Nat), .int .i64 (c : Nat)] 47))
      have HW1 := hide (HW.out.alloc hw2o (.cells #[.int .i64 (a : Nat), .int .i64 (b : Nat), .int .i64 (c : Nat)] 47))
      have hs1 : (wo.alloc (.cells #[.int .i64 (a : Nat), .int .i64 (b : Nat), .int .i64 (c : Nat)] 47)).heap.size = wo.heap.size + 1 := World.size_alloc ..
      obtain ⟨W1, hW1⟩ : ∃ Z, wo.alloc (.cells #[.int .i64 (a : Nat), .int .i64 (b : Nat), .int .i64 (c : Nat)] 47) = Z := ⟨_, rfl⟩
      obtain ⟨b6, hb6⟩ : ∃ q, wo.heap.size = q := ⟨_, rfl⟩
      rw [hW1] at HCB HW1 hs1
      rw [hb6] at HCB hs1 hgo hw2o
      (try rw [hW1])
      (try rw [hb6])
      have hbl : b6 < W1.heap.size := by omega
      have x0 := nth_cell HCB.out (t := (a, b, c)) (i := 0) (by omega)
      have x1 := nth_cell HCB.out (t := (a, b, c)) (i := 1) (by omega)
      have x2 := nth_cell HCB.out (t := (a, b, c)) (i := 2) (by omega)
      simp only [nthT] at x0 x1 x2
      clear hW1 hb6 y0 y1 y2
      go_cut [108] (fun bb wd => bb = .bool false ∧ Hid (Below W1.heap.size W1 wd))
      case first => as_aux_lemma =>
        cases i with
        | zero =>
          have K0 := fun W (k : Below W1.heap.size W1 W) => hide (show (W.cell? ⟨b6, 0, none⟩ = some (.int .i64 (a : Nat)) ∧ W.cell? ⟨b6, 1, none⟩ = some (.int .i64 (b : Nat)) ∧ W.cell? ⟨b6, 2, none⟩ = some (.int .i64 (c : Nat))) ∧ Hid (Below W1.heap.size W1 W) from ⟨⟨(k.cell (p := ⟨b6, 0, none⟩) hbl).trans x0, (k.cell (p := ⟨b6, 1, none⟩) hbl).trans x1, (k.cell (p := ⟨b6, 2, none⟩) hbl).trans x2⟩, hide k⟩)
          have q5 : decide ((0 : Int) < ((0 : Nat) : Int)) = false := by decide
          clear x0 x1 x2
          refine wp_region_P (fun W => (W.cell? ⟨b6, 0, none⟩ = some (.int .i64 (a : Nat)) ∧ W.cell? ⟨b6, 1, none⟩ = some (.int .i64 (b : Nat)) ∧ W.cell? ⟨b6, 2, none⟩ = some (.int .i64 (c : Nat))) ∧ Hid (Below W1.heap.size W1 W)) 41 (by rfl) ((K0 _ (below_drewN (Below.refl _ _) 1)).out) ?_
          intro hS
          refine wpAnyP_take 0 67 [0, 1, 2, 3, 10, 17, 23, 25, 28, 41] (v := ?_) rfl (by kernel_rfl) (by kernel_rfl) (by kernel_rfl) (by kernel_rfl) (by kernel_rfl) (by kernel_rfl) (by rfl) (fun _ _ _ h => h) (Or.inl ⟨by rfl, ?_⟩) hS ?_; rotate_left
          · (intro w hSw; (try dsimp only at hSw); go_simp; (try with_reducible rfl))
          (try simp only [List.setIfInBounds_toArray, List.set_cons_zero, List.set_cons_succ])
          refine wpAnyP_take 1 68 [1, 2, 3, 10, 17, 23, 25, 28, 41] (v := ?_) rfl (by kernel_rfl) (by kernel_rfl) (by kernel_rfl) (by kernel_rfl) (by kernel_rfl) (by kernel_rfl) (by rfl) (fun _ _ _ h => h) (Or.inl ⟨by rfl, ?_⟩) hS ?_; rotate_left
          · (intro w hSw; (try dsimp only at hSw); go_simp; (try with_reducible rfl))
          (try simp only [List.setIfInBounds_toArray, List.set_cons_zero, List.set_cons_succ])
          refine wpAnyP_take 2 69 [2, 3, 10, 17, 23, 25, 28, 41] (v := ?_) rfl (by kernel_rfl) (by kernel_rfl) (by kernel_rfl) (by kernel_rfl) (by kernel_rfl) (by kernel_rfl) (by rfl) (fun _ _ _ h => h) (Or.inl ⟨by rfl, ?_⟩) hS ?_; rotate_left
          · (intro w hSw; (try dsimp only at hSw); go_simp; (try with_reducible rfl))
          (try simp only [List.setIfInBounds_toArray, List.set_cons_zero, List.set_cons_succ])
          refine wpAnyP_take 3 70 [3, 10, 17, 23, 25, 28, 41] (v := ?_) rfl (by kernel_rfl) (by kernel_rfl) (by kernel_rfl) (by kernel_rfl) (by kernel_rfl) (by kernel_rfl) (by rfl) (fun _ _ _ h => h) (Or.inl ⟨by rfl, ?_⟩) hS ?_; rotate_left
          · (intro w hSw; (try dsimp only at hSw); go_simp; (try with_reducible rfl))
          (try simp only [List.setIfInBounds_toArray, List.set_cons_zero, List.set_cons_succ])
          refine wpAnyP_take 4 71 [4, 5, 8, 9, 10, 17, 23, 25, 28, 41] (v := ?_) rfl (by kernel_rfl) (by kernel_rfl) (by kernel_rfl) (by kernel_rfl) (by kernel_rfl) (by kernel_rfl) (by rfl) (fun _ _ _ h => h) (Or.inl ⟨by rfl, ?_⟩) hS ?_; rotate_left
          · (intro w hSw; (try dsimp only at hSw); go_simp; (try with_reducible rfl))
          (try simp only [List.setIfInBounds_toArray, List.set_cons_zero, List.set_cons_succ])
          refine wpAnyP_take 5 72 [5, 8, 9, 10, 17, 23, 25, 28, 41] (v := ?_) rfl (by kernel_rfl) (by kernel_rfl) (by kernel_rfl) (by kernel_rfl) (by kernel_rfl) (by kernel_rfl) (by rfl) (fun _ _ _ h => h) (Or.inl ⟨by rfl, ?_⟩) hS ?_; rotate_left
          · (intro w hSw; (try dsimp only at hSw); go_simp; (try with_reducible rfl))
          (try simp only [List.setIfInBounds_toArray, List.set_cons_zero, List.set_cons_succ])
          refine wpAnyP_take 6 73 [6, 7, 8, 9, 10, 17, 23, 25, 28, 41] (v := ?_) rfl (by kernel_rfl) (by kernel_rfl) (by kernel_rfl) (by kernel_rfl) (by kernel_rfl) (by kernel_rfl) (by rfl) (fun _ _ _ h => h) (Or.inl ⟨by rfl, ?_⟩) hS ?_; rotate_left
          · (intro w hSw; (try dsimp only at hSw); go_simp; (try with_reducible rfl))
          (try simp only [List.setIfInBounds_toArray, List.set_cons_zero, List.set_cons_succ])
          refine wpAnyP_take 7 74 [7, 8, 9, 10, 17, 23, 25, 28, 41] (v := ?_) rfl (by kernel_rfl) (by kernel_rfl) (by kernel_rfl) (by kernel_rfl) (by kernel_rfl) (by kernel_rfl) (by rfl) (fun _ _ _ h => h) (Or.inl ⟨by rfl, ?_⟩) hS ?_; rotate_left
          · (intro w hSw; (try dsimp only at hSw); go_simp; (try with_reducible rfl))
          (try simp only [List.setIfInBounds_toArray, List.set_cons_zero, List.set_cons_succ])
          refine wpAnyP_take 8 75 [8, 9, 10, 17, 23, 25, 28, 41] (v := ?_) rfl (by kernel_rfl) (by kernel_rfl) (by kernel_rfl) (by kernel_rfl) (by kernel_rfl) (by kernel_rfl) (by rfl) (fun _ _ _ h => h) (Or.inl ⟨by rfl, ?_⟩) hS ?_; rotate_left
          · (intro w hSw; (try dsimp only at hSw); go_simp; (try with_reducible rfl))
          (try simp only [List.setIfInBounds_toArray, List.set_cons_zero, List.set_cons_succ])
          refine wpAnyP_take 9 76 [9, 10, 17, 23, 25, 28, 41] (v := ?_) rfl (by kernel_rfl) (by kernel_rfl) (by kernel_rfl) (by kernel_rfl) (by kernel_rfl) (by kernel_rfl) (by rfl) (fun _ _ _ h => h) (Or.inl ⟨by rfl, ?_⟩) hS ?_; rotate_left
          · (intro w hSw; (try dsimp only at hSw); go_simp; (try with_reducible rfl))
          (try simp only [List.setIfInBounds_toArray, List.set_cons_zero, List.set_cons_succ])
          refine wpAnyP_take 10 77 [10, 17, 23, 25, 28, 41] (v := ?_) rfl (by kernel_rfl) (by kernel_rfl) (by kernel_rfl) (by kernel_rfl) (by kernel_rfl) (by kernel_rfl) (by rfl) (fun _ _ _ h => h) (Or.inl ⟨by rfl, ?_⟩) hS ?_; rotate_left
          · (intro w hSw; (try dsimp only at hSw); go_simp; (try with_reducible rfl))
          (try simp only [List.setIfInBounds_toArray, List.set_cons_zero, List.set_cons_succ])
          refine wpAnyP_take 11 78 [11, 12, 15, 16, 17, 23, 25, 28, 41] (v := ?_) rfl (by kernel_rfl) (by kernel_rfl) (by kernel_rfl) (by kernel_rfl) (by kernel_rfl) (by kernel_rfl) (by rfl) (fun _ _ _ h => h) (Or.inl ⟨by rfl, ?_⟩) hS ?_; rotate_left
          · (intro w hSw; (try dsimp only at hSw); go_simp; (try with_reducible rfl))
          (try simp only [List.setIfInBounds_toArray, List.set_cons_zero, List.set_cons_succ])
          refine wpAnyP_take 12 79 [12, 15, 16, 17, 23, 25, 28, 41] (v := ?_) rfl (by kernel_rfl) (by kernel_rfl) (by kernel_rfl) (by kernel_rfl) (by kernel_rfl) (by kernel_rfl) (by rfl) (fun _ _ _ h => h) (Or.inl ⟨by rfl, ?_⟩) hS ?_; rotate_left
          · (intro w hSw; (try dsimp only at hSw); go_simp; (try with_reducible rfl))
          (try simp only [List.setIfInBounds_toArray, List.set_cons_zero, List.set_cons_succ])
          refine wpAnyP_take 13 80 [13, 14, 15, 16, 17, 23, 25, 28, 41] (v := ?_) rfl (by kernel_rfl) (by kernel_rfl) (by kernel_rfl) (by kernel_rfl) (by kernel_rfl) (by kernel_rfl) (by rfl) (fun _ _ _ h => h) (Or.inl ⟨by rfl, ?_⟩) hS ?_; rotate_left
          · (intro w hSw; (try dsimp only at hSw); go_simp; (try with_reducible rfl))
          (try simp only [List.setIfInBounds_toArray, List.set_cons_zero, List.set_cons_succ])
          refine wpAnyP_take 14 81 [14, 15, 16, 17, 23, 25, 28, 41] (v := ?_) rfl (by kernel_rfl) (by kernel_rfl) (by kernel_rfl) (by kernel_rfl) (by kernel_rfl) (by kernel_rfl) (by rfl) (fun _ _ _ h => h) (Or.inl ⟨by rfl, ?_⟩) hS ?_; rotate_left
          · (intro w hSw; (try dsimp only at hSw); go_simp; (try with_reducible rfl))
          (try simp only [List.setIfInBounds_toArray, List.set_cons_zero, List.set_cons_succ])
          refine wpAnyP_take 15 82 [15, 16, 17, 23, 25, 28, 41] (v := ?_) rfl (by kernel_rfl) (by kernel_rfl) (by kernel_rfl) (by kernel_rfl) (by kernel_rfl) (by kernel_rfl) (by rfl) (fun _ _ _ h => h) (Or.inl ⟨by rfl, ?_⟩) hS ?_; rotate_left
          · (intro w hSw; (try dsimp only at hSw); go_simp; (try with_reducible rfl))
          (try simp only [List.setIfInBounds_toArray, List.set_cons_zero, List.set_cons_succ])
          refine wpAnyP_take 16 83 [16, 17, 23, 25, 28, 41] (v := ?_) rfl (by kernel_rfl) (by kernel_rfl) (by kernel_rfl) (by kernel_rfl) (by kernel_rfl) (by kernel_rfl) (by rfl) (fun _ _ _ h => h) (Or.inl ⟨by rfl, ?_⟩) hS ?_; rotate_left
          · (intro w hSw; (try dsimp only at hSw); go_simp; (try with_reducible rfl))
          (try simp only [List.setIfInBounds_toArray, List.set_cons_zero, List.set_cons_succ])
          refine wpAnyP_take 17 84 [17, 23, 25, 28, 41] (v := ?_) rfl (by kernel_rfl) (by kernel_rfl) (by kernel_rfl) (by kernel_rfl) (by kernel_rfl) (by kernel_rfl) (by rfl) (fun _ _ _ h => h) (Or.inl ⟨by rfl, ?_⟩) hS ?_; rotate_left
          · (intro w hSw; (try dsimp only at hSw); go_simp; (try with_reducible rfl))
          (try simp only [List.setIfInBounds_toArray, List.set_cons_zero, List.set_cons_succ])
          refine wpAnyP_take 18 85 [18, 19, 21, 22, 23, 25, 28, 41] (v := ?_) rfl (by kernel_rfl) (by kernel_rfl) (by kernel_rfl) (by kernel_rfl) (by kernel_rfl) (by kernel_rfl) (by rfl) (fun _ _ _ h => h) (Or.inl ⟨by rfl, ?_⟩) hS ?_; rotate_left
          · (intro w hSw; (try dsimp only at hSw); go_simp; (try with_reducible rfl))
          (try simp only [List.setIfInBounds_toArray, List.set_cons_zero, List.set_cons_succ])
          refine wpAnyP_take 19 86 [19, 21, 22, 23, 25, 28, 41] (v := ?_) rfl (by kernel_rfl) (by kernel_rfl) (by kernel_rfl) (by kernel_rfl) (by kernel_rfl) (by kernel_rfl) (by rfl) (fun _ _ _ h => h) (Or.inl ⟨by rfl, ?_⟩) hS ?_; rotate_left
          · (intro w hSw; (try dsimp only at hSw); go_simp; (try with_reducible rfl))
          (try simp only [List.setIfInBounds_toArray, List.set_cons_zero, List.set_cons_succ])
          refine wpAnyP_take 20 87 [20, 21, 22, 23, 25, 28, 41] (v := ?_) rfl (by kernel_rfl) (by kernel_rfl) (by kernel_rfl) (by kernel_rfl) (by kernel_rfl) (by kernel_rfl) (by rfl) (fun _ _ _ h => h) (Or.inl ⟨by rfl, ?_⟩) hS ?_; rotate_left
          · (intro w hSw; (try dsimp only at hSw); go_simp; (try with_reducible rfl))
          (try simp only [List.setIfInBounds_toArray, List.set_cons_zero, List.set_cons_succ])
          refine wpAnyP_take 21 88 [21, 22, 23, 25, 28, 41] (v := ?_) rfl (by kernel_rfl) (by kernel_rfl) (by kernel_rfl) (by kernel_rfl) (by kernel_rfl) (by kernel_rfl) (by rfl) (fun _ _ _ h => h) (Or.inl ⟨by rfl, ?_⟩) hS ?_; rotate_left
          · (intro w hSw; (try dsimp only at hSw); go_simp; (try with_reducible rfl))
          (try simp only [List.setIfInBounds_toArray, List.set_cons_zero, List.set_cons_succ])
          refine wpAnyP_take 22 89 [22, 23, 25, 28, 41] (v := ?_) rfl (by kernel_rfl) (by kernel_rfl) (by kernel_rfl) (by kernel_rfl) (by kernel_rfl) (by kernel_rfl) (by rfl) (fun _ _ _ h => h) (Or.inl ⟨by rfl, ?_⟩) hS ?_; rotate_left
          · (intro w hSw; (try dsimp only at hSw); go_simp; (try with_reducible rfl))
          (try simp only [List.setIfInBounds_toArray, List.set_cons_zero, List.set_cons_succ])
          refine wpAnyP_take 23 90 [23, 25, 28, 41] (v := ?_) rfl (by kernel_rfl) (by kernel_rfl) (by kernel_rfl) (by kernel_rfl) (by kernel_rfl) (by kernel_rfl) (by rfl) (fun _ _ _ h => h) (Or.inl ⟨by rfl, ?_⟩) hS ?_; rotate_left
          · (intro w hSw; (try dsimp only at hSw); go_simp; (try with_reducible rfl))
          (try simp only [List.setIfInBounds_toArray, List.set_cons_zero, List.set_cons_succ])
          refine wpAnyP_take 24 91 [24, 25, 28, 41] (v := ?_) rfl (by kernel_rfl) (by kernel_rfl) (by kernel_rfl) (by kernel_rfl) (by kernel_rfl) (by kernel_rfl) (by rfl) (fun _ _ _ h => h) (Or.inl ⟨by rfl, ?_⟩) hS ?_; rotate_left
          · (intro w hSw; (try dsimp only at hSw); go_simp; (try with_reducible rfl))
          (try simp only [List.setIfInBounds_toArray, List.set_cons_zero, List.set_cons_succ])
          refine wpAnyP_one 25 rfl (by kernel_rfl) (fun K hK => ?_)
          go_simp
          refine (CI _).out.mono ?_
          rintro e w5 ⟨rfl, hb⟩
          have hy := hS.2.out.trans (hb.mono hS.2.out.size)
          clear hS
          have hS := (K0 _ hy).out
          refine hK.out _ _ (fun _ => hS) ?_
          clear hK K
          (try simp only [Act.put, List.setIfInBounds_toArray, List.set_cons_zero, List.set_cons_succ])
          refine wpAnyP_take 26 93 [26, 27, 28, 41] (v := ?_) rfl (by kernel_rfl) (by kernel_rfl) (by kernel_rfl) (by kernel_rfl) (by kernel_rfl) (by kernel_rfl) (by rfl) (fun _ _ _ h => h) (Or.inl ⟨by rfl, ?_⟩) hS ?_; rotate_left
          · (intro w hSw; (try dsimp only at hSw); go_simp; (try with_reducible rfl))
          (try simp only [List.setIfInBounds_toArray, List.set_cons_zero, List.set_cons_succ])
          refine wpAnyP_take 27 94 [27, 28, 41] (v := ?_) rfl (by kernel_rfl) (by kernel_rfl) (by kernel_rfl) (by kernel_rfl) (by kernel_rfl) (by kernel_rfl) (by rfl) (fun _ _ _ h => h) (Or.inl ⟨by rfl, ?_⟩) hS ?_; rotate_left
          · (intro w hSw; (try dsimp only at hSw); go_simp; (try with_reducible rfl))
          (try simp only [List.setIfInBounds_toArray, List.set_cons_zero, List.set_cons_succ])
          refine wpAnyP_take 28 95 [28, 41] (v := ?_) rfl (by kernel_rfl) (by kernel_rfl) (by kernel_rfl) (by kernel_rfl) (by kernel_rfl) (by kernel_rfl) (by rfl) (fun _ _ _ h => h) (Or.inl ⟨by rfl, ?_⟩) hS ?_; rotate_left
          · (intro w hSw; (try dsimp only at hSw); go_simp; (try with_reducible rfl))
          (try simp only [List.setIfInBounds_toArray, List.set_cons_zero, List.set_cons_succ])
          refine wpAnyP_take 29 96 [29, 30, 31, 40, 41] (v := ?_) rfl (by kernel_rfl) (by kernel_rfl) (by kernel_rfl) (by kernel_rfl) (by kernel_rfl) (by kernel_rfl) (by rfl) (fun _ _ _ h => h) (Or.inl ⟨by rfl, ?_⟩) hS ?_; rotate_left
          · (intro w hSw; (try dsimp only at hSw); go_simp; (try with_reducible rfl))
          (try simp only [List.setIfInBounds_toArray, List.set_cons_zero, List.set_cons_succ])
          refine wpAnyP_take 30 97 [30, 31, 40, 41] (v := ?_) rfl (by kernel_rfl) (by kernel_rfl) (by kernel_rfl) (by kernel_rfl) (by kernel_rfl) (by kernel_rfl) (by rfl) (fun _ _ _ h => h) (Or.inl ⟨by rfl, ?_⟩) hS ?_; rotate_left
          · (intro w hSw; (try dsimp only at hSw); go_simp; (try with_reducible rfl))
          (try simp only [List.setIfInBounds_toArray, List.set_cons_zero, List.set_cons_succ])
          refine wpAnyP_take 31 98 [31, 40, 41] (v := ?_) rfl (by kernel_rfl) (by kernel_rfl) (by kernel_rfl) (by kernel_rfl) (by kernel_rfl) (by kernel_rfl) (by rfl) (fun _ _ _ h => h) (Or.inl ⟨by rfl, ?_⟩) hS ?_; rotate_left
          · (intro w hSw; (try dsimp only at hSw); go_simp; (try with_reducible rfl))
          (try simp only [List.setIfInBounds_toArray, List.set_cons_zero, List.set_cons_succ])
          refine wpAnyP_take 32 99 [32, 35, 36, 38, 39, 40, 41] (v := undef) rfl (by kernel_rfl) (by kernel_rfl) (by kernel_rfl) (by kernel_rfl) (by kernel_rfl) (by kernel_rfl) (by rfl) (fun _ _ _ h => h) (Or.inr ⟨by rfl, rfl⟩) hS ?_
          (try simp only [List.setIfInBounds_toArray, List.set_cons_zero, List.set_cons_succ])
          refine wpAnyP_take 33 100 [33, 34, 35, 36, 38, 39, 40, 41] (v := undef) rfl (by kernel_rfl) (by kernel_rfl) (by kernel_rfl) (by kernel_rfl) (by kernel_rfl) (by kernel_rfl) (by rfl) (fun _ _ _ h => h) (Or.inr ⟨by rfl, rfl⟩) hS ?_
          (try simp only [List.setIfInBounds_toArray, List.set_cons_zero, List.set_cons_succ])
          refine wpAnyP_take 34 101 [34, 35, 36, 38, 39, 40, 41] (v := undef) rfl (by kernel_rfl) (by kernel_rfl) (by kernel_rfl) (by kernel_rfl) (by kernel_rfl) (by kernel_rfl) (by rfl) (fun _ _ _ h => h) (Or.inr ⟨by rfl, rfl⟩) hS ?_
          (try simp only [List.setIfInBounds_toArray, List.set_cons_zero, List.set_cons_succ])
          refine wpAnyP_take 35 102 [35, 36, 38, 39, 40, 41] (v := undef) rfl (by kernel_rfl) (by kernel_rfl) (by kernel_rfl) (by kernel_rfl) (by kernel_rfl) (by kernel_rfl) (by rfl) (fun _ _ _ h => h) (Or.inr ⟨by rfl, rfl⟩) hS ?_
          (try simp only [List.setIfInBounds_toArray, List.set_cons_zero, List.set_cons_succ])
          refine wpAnyP_take 36 103 [36, 38, 39, 40, 41] (v := undef) rfl (by kernel_rfl) (by kernel_rfl) (by kernel_rfl) (by kernel_rfl) (by kernel_rfl) (by kernel_rfl) (by rfl) (fun _ _ _ h => h) (Or.inr ⟨by rfl, rfl⟩) hS ?_
          (try simp only [List.setIfInBounds_toArray, List.set_cons_zero, List.set_cons_succ])
          refine wpAnyP_take 37 104 [37, 38, 39, 40, 41] (v := undef) rfl (by kernel_rfl) (by kernel_rfl) (by kernel_rfl) (by kernel_rfl) (by kernel_rfl) (by kernel_rfl) (by rfl) (fun _ _ _ h => h) (Or.inr ⟨by rfl, rfl⟩) hS ?_
          (try simp only [List.setIfInBounds_toArray, List.set_cons_zero, List.set_cons_succ])
          refine wpAnyP_take 38 105 [38, 39, 40, 41] (v := undef) rfl (by kernel_rfl) (by kernel_rfl) (by kernel_rfl) (by kernel_rfl) (by kernel_rfl) (by kernel_rfl) (by rfl) (fun _ _ _ h => h) (Or.inr ⟨by rfl, rfl⟩) hS ?_
          (try simp only [List.setIfInBounds_toArray, List.set_cons_zero, List.set_cons_succ])
          refine wpAnyP_take 39 106 [39, 40, 41] (v := undef) rfl (by kernel_rfl) (by kernel_rfl) (by kernel_rfl) (by kernel_rfl) (by kernel_rfl) (by kernel_rfl) (by rfl) (fun _ _ _ h => h) (Or.inr ⟨by rfl, rfl⟩) hS ?_
          (try simp only [List.setIfInBounds_toArray, List.set_cons_zero, List.set_cons_succ])
          refine wpAnyP_take 40 107 [40, 41] (v := ?_) rfl (by kernel_rfl) (by kernel_rfl) (by kernel_rfl) (by kernel_rfl) (by kernel_rfl) (by kernel_rfl) (by rfl) (fun _ _ _ h => h) (Or.inl ⟨by rfl, ?_⟩) hS ?_; rotate_left
          · (intro w hSw; (try dsimp only at hSw); go_simp; (try with_reducible rfl))
          (try simp only [List.setIfInBounds_toArray, List.set_cons_zero, List.set_cons_succ])
          refine wpAnyP_one 41 rfl (by kernel_rfl) (fun K hK => ?_)
          go_simp
          refine hK.out _ _ (fun _ => hS) ?_
          clear hK K
          (try simp only [Act.put, List.setIfInBounds_toArray, List.set_cons_zero, List.set_cons_succ])
          refine wpAnyP_done (by kernel_rfl) ?_ _
          go_wp2_with fail
          go_meet
          exact ⟨rfl, hS.2⟩
        | succ m =>
          obtain ⟨⟨a', b', c'⟩, hs⟩ : ∃ s, (mkL most)[m]? = some s := ⟨_, List.getElem?_eq_getElem (by rw [HNL.out]; omega)⟩
          have hlt := mk_less hs HT.out
          simp only at hlt
          have CA := fun W => hide (ahead_any (a', b', c') (a, b, c) W hlt)
          unfold tv at CA
          simp only at CA
          obtain ⟨v0, v1, v2⟩ := HC.out W1 HW1.out m (a', b', c') hs
          simp only at v0 v1 v2
          have K := fun W (k : Below W1.heap.size W1 W) => hide (show ((W.cell? ⟨b6, 0, none⟩ = some (.int .i64 (a : Nat)) ∧ W.cell? ⟨b6, 1, none⟩ = some (.int .i64 (b : Nat)) ∧ W.cell? ⟨b6, 2, none⟩ = some (.int .i64 (c : Nat))) ∧ (W.cell? ⟨g, m * 3, none⟩ = some (.int .i64 (a' : Nat)) ∧ W.cell? ⟨g, m * 3 + 1, none⟩ = some (.int .i64 (b' : Nat)) ∧ W.cell? ⟨g, m * 3 + 2, none⟩ = some (.int .i64 (c' : Nat)))) ∧ Hid (Below W1.heap.size W1 W) from ⟨⟨⟨(k.cell (p := ⟨b6, 0, none⟩) hbl).trans x0, (k.cell (p := ⟨b6, 1, none⟩) hbl).trans x1, (k.cell (p := ⟨b6, 2, none⟩) hbl).trans x2⟩, ⟨(k.cell (p := ⟨g, m * 3, none⟩) (Nat.lt_trans hgo hbl)).trans v0, (k.cell (p := ⟨g, m * 3 + 1, none⟩) (Nat.lt_trans hgo hbl)).trans v1, (k.cell (p := ⟨g, m * 3 + 2, none⟩) (Nat.lt_trans hgo hbl)).trans v2⟩⟩, hide k⟩)
          have q5 : decide ((0 : Int) < (m : Int) + 1) = true := by rw [decide_eq_true_eq]; omega
          have I5 : IntKind.i64.wrap ((m : Int) + 1 - 1) = (m : Int) := by rw [IntKind.wrap_i64]; omega
          have I6 : IntKind.i64.wrap (m : Int) = (m : Int) := by rw [IntKind.wrap_i64]; omega
          have I7 : (m : Int) + 1 - 1 = (m : Int) := by omega
          have I8 : (m : Int) < (n : Int) := by omega
          clear x0 x1 x2 v0 v1 v2 hs hlt
          go_region_held3 (fun W => ((W.cell? ⟨b6, 0, none⟩ = some (.int .i64 (a : Nat)) ∧ W.cell? ⟨b6, 1, none⟩ = some (.int .i64 (b : Nat)) ∧ W.cell? ⟨b6, 2, none⟩ = some (.int .i64 (c : Nat))) ∧ (W.cell? ⟨g, m * 3, none⟩ = some (.int .i64 (a' : Nat)) ∧ W.cell? ⟨g, m * 3 + 1, none⟩ = some (.int .i64 (b' : Nat)) ∧ W.cell? ⟨g, m * 3 + 2, none⟩ = some (.int .i64 (c' : Nat)))) ∧ Hid (Below W1.heap.size W1 W)) (first | exact (K _ (below_drewN (Below.refl _ _) 1)).out | (have hx := ‹(_ ∧ _) ∧ Hid (Below _ _ _)›; have hy := hx.2.out.trans (hb.mono hx.2.out.size); clear hx hb; exact (K _ hy).out)) (first | (go_at_call 21; refine (CI _).out.mono ?_; rintro e w5 ⟨rfl, hb⟩) | (go_at_call 22; refine (CA _).out.mono ?_; rintro e w5 ⟨rfl, hb⟩))
          all_goals
            rename_i hS
            have hy := hS.2
            clear hS
            go_wp2_with fail
            go_meet
            exact ⟨rfl, hy⟩
      case rest => as_aux_lemma =>
        obtain ⟨rfl, HWD⟩ := hcut
        obtain ⟨wd, rfl⟩ : ∃ Z, Z = wc := ⟨_, rfl⟩
        have HX := hide (And.intro x0 (And.intro x1 x2))
        clear CI x0 x1 x2
        go_wp2_with fail
        go_loopw [7] (fun kv wr => ∃ k : Nat, k ≤ 2 ∧ kv = .int .i64 k ∧ Hid (Below W1.heap.size W1 wr)) (fun kv _ => 2 - (intOf kv).toNat)
        case atStart => exact ⟨0, by omega, rfl, HWD⟩
        case round =>
          obtain ⟨k, hk, rfl, HK⟩ := hrel
          obtain ⟨wi, rfl⟩ : ∃ Z, Z = wr := ⟨_, rfl⟩
          by_cases hk2 : k < 2
          · have hnk := near_k HM.out.1 hk2
            obtain ⟨hN0, hP1, hPc, hQc⟩ := hnk
            simp only at hN0 hPc hQc
            have cP : wi.cell? ⟨b6, k, none⟩ = some (.int .i64 (nthT (a, b, c) k : Nat)) := (HK.out.cell (p := ⟨b6, k, none⟩) hbl).trans (nth_cell HCB.out (t := (a, b, c)) (by omega))
            have cQ : wi.cell? ⟨b6, 1 - k, none⟩ = some (.int .i64 (nthT (a, b, c) (1 - k) : Nat)) := (HK.out.cell (p := ⟨b6, 1 - k, none⟩) hbl).trans (nth_cell HCB.out (t := (a, b, c)) (by omega))
            have cC : wi.cell? ⟨b6, 2, none⟩ = some (.int .i64 (c : Nat)) := (HK.out.cell (p := ⟨b6, 2, none⟩) hbl).trans HX.out.2.2
            obtain ⟨P, hP⟩ : ∃ P, nthT (a, b, c) k = P := ⟨_, rfl⟩
            obtain ⟨Q, hQ⟩ : ∃ Q, nthT (a, b, c) (1 - k) = Q := ⟨_, rfl⟩
            rw [hP] at hN0 hP1 hPc cP
            rw [hQ] at hN0 hQc cQ
            have HN0 := hide hN0
            obtain ⟨hA1, hA2, hA3, hA4⟩ := HABC.out
            have bP : P ≤ 1000000000000000000 := by omega
            have bC : c ≤ 1000000000000000000 := by omega
            have bQ : Q ≤ 1000000000000000000 := by omega
            have hPC : P * c ≤ 1000000000000000000 * 1000000000000000000 := Nat.mul_le_mul bP bC
            have hPC1 : 1 * c ≤ P * c := Nat.mul_le_mul_right _ hP1
            have HPB := hide (And.intro bP (And.intro bC bQ))
            have eN : (3 : Int) * ((P : Int) * (c : Int)) - (Q : Int) = ((3 * P * c - Q : Nat) : Int) := by
              have e1 : 3 * P * c = 3 * (P * c) := Nat.mul_assoc ..
              rw [e1]; push_cast
              have e2 : Q ≤ 3 * (P * c) := by omega
              omega
            have HE := hide eN
            have HNC : Hid (c ≤ 3 * P * c - Q) := hide (by
              have e1 : 3 * P * c = 3 * (P * c) := Nat.mul_assoc ..
              rw [e1]; omega)
            have HLM : Hid ((((3 : Int)).natAbs < lim ∧ ((P : Int)).natAbs < lim ∧ ((c : Int)).natAbs < lim ∧ ((Q : Int)).natAbs < lim ∧ ((most : Int)).natAbs < lim) ∧ ((P : Int) * (c : Int)).natAbs < lim ∧ ((3 : Int) * ((P : Int) * (c : Int))).natAbs < lim ∧ ((3 : Int) * ((P : Int) * (c : Int)) - (Q : Int)).natAbs < lim) := hide (by
              have e1 : ((P : Int) * (c : Int)).natAbs = P * c := by rw [Int.natAbs_mul]; rfl
              have e2 : ((3 : Int) * ((P : Int) * (c : Int))).natAbs = 3 * (P * c) := by rw [Int.natAbs_mul, e1]; rfl
              have e3 : ((3 : Int) * ((P : Int) * (c : Int)) - (Q : Int)).natAbs ≤ 3 * (P * c) := by
                rw [eN]
                have e1 : 3 * P * c = 3 * (P * c) := Nat.mul_assoc ..
                rw [e1]
                show 3 * (P * c) - Q ≤ _
                omega
              refine ⟨⟨lim_256 (by omega), lim_256 ?_, lim_256 ?_, lim_256 ?_, lim_256 ?_⟩, lim_256 (by rw [e1]; omega), lim_256 (by rw [e2]; omega), lim_256 (by omega)⟩
              · show P < _
                omega
              · show c < _
                omega
              · show Q < _
                omega
              · show most < _
                omega)
            have e1k : (1 : Int) - (k : Int) = ((1 - k : Nat) : Int) := by omega
            have w1k : IntKind.i64.wrap ((1 : Int) - (k : Int)) = ((1 - k : Nat) : Int) := by rw [IntKind.wrap_i64]; omega
            have hbi : b6 < wi.heap.size := Nat.lt_of_lt_of_le hbl HK.out.size
            have HQC := hide cQ
            have I1 : (0 : Int) ≤ (k : Int) := by omega
            have I2 : (k : Int) < 3 := by omega
            have I3 : (k : Int) ≤ 3 := by omega
            have O : Hid (Own wi wi []) := hide (Own.start wi)
            have KK := fun W (k' : Below wi.heap.size wi W) => hide (show (W.cell? ⟨b6, k, none⟩ = some (.int .i64 (P : Nat)) ∧ W.cell? ⟨b6, 2, none⟩ = some (.int .i64 (c : Nat))) ∧ Hid (Below wi.heap.size wi W) from ⟨⟨(k'.cell (p := ⟨b6, k, none⟩) hbi).trans cP, (k'.cell (p := ⟨b6, 2, none⟩) hbi).trans cC⟩, hide k'⟩)
            clear hN0 hP1 hPc hQc hP hQ hA1 hA2 hA3 hA4 hPC hPC1 eN cQ
            go_upto_region 21 with (fail)
            go_cut [8] (fun v wx => ∃ g8, v = .pointer (some ⟨g8, 0, none⟩) ∧ Hid (Own wi wx [(g8, (3 : Int) * ((P : Int) * (c : Int)))]))
            case first => as_aux_lemma =>
              clear e1k w1k HQC HE
              go_region_held3 (fun W => (W.cell? ⟨b6, k, none⟩ = some (.int .i64 (P : Nat)) ∧ W.cell? ⟨b6, 2, none⟩ = some (.int .i64 (c : Nat))) ∧ Hid (Below wi.heap.size wi W)) (first | exact (KK _ O.out.bel).out | exact (KK _ O.out.drw.bel).out | exact (KK _ O.out.new.bel).out | exact (KK _ O.out.new.drw.bel).out | exact (KK _ O.out.drw.new.bel).out | exact (KK _ (new2 O.out).bel).out | exact (KK _ (new2 O.out).drw.bel).out) (first | (go_at_call 16; refine calls_mono (b_own (by first | exact O.out | exact O.out.drw | exact O.out.new | exact O.out.new.drw | exact O.out.drw.new | exact new2 O.out | exact (new2 O.out).drw) _ (by have := HPB.out; omega) (by have := HPB.out; omega)) ?_; rintro e w5 ⟨g5, rfl, O'⟩; have O := hide O'; clear O') | (go_at_call 23; refine calls_mono (mul_own (by first | exact O.out | exact O.out.drw | exact O.out.new | exact O.out.new.drw | exact O.out.drw.new | exact new2 O.out | exact (new2 O.out).drw) _ _ _ (by first | exact at0 | exact at1 | exact at2 | exact at3 | exact at4) (by first | exact at0 | exact at1 | exact at2 | exact at3 | exact at4) (by first | exact at0 | exact at1 | exact at2 | exact at3 | exact at4) (by first | with_reducible exact HLM.out.1.1 | with_reducible exact HLM.out.1.2.1) (by first | with_reducible exact HLM.out.1.2.2.1 | with_reducible exact HLM.out.2.1) (by first | with_reducible exact HLM.out.2.1 | with_reducible exact HLM.out.2.2.1)) ?_; rintro e w5 ⟨rfl, O'⟩; simp only [List.set] at O'; have O := hide O'; clear O'))
              all_goals
                go_wp2_with fail
                go_meet
                refine ⟨_, rfl, hide ?_⟩
                first
                  | exact O.out.sub [0] rfl (by decide)
                  | exact O.out.sub [1] rfl (by decide)
                  | exact O.out.sub [2] rfl (by decide)
                  | exact O.out.sub [3] rfl (by decide)
                  | exact O.out.sub [4] rfl (by decide)
            case rest => as_aux_lemma =>
              obtain ⟨g8, rfl, HO⟩ := hcut
              obtain ⟨wx, rfl⟩ : ∃ Z, Z = wc := ⟨_, rfl⟩
              obtain ⟨N, hN⟩ : ∃ N, 3 * P * c - Q = N := ⟨_, rfl⟩
              rw [hN] at HN0 HNC HE
              have HWI := hide (HW1.out.trans (HK.out.mono HW1.out.size))
              have cQ2 : wx.cell? ⟨b6, 1 - k, none⟩ = some (.int .i64 (Q : Nat)) := (HO.out.bel.cell (p := ⟨b6, 1 - k, none⟩) hbi).trans HQC.out
              have CPC := hide (And.intro cP cC)
              clear hN KK O cP cC d0 d1 z0 z1 z2 heq
              go_wp2_with fail
              refine calls_mono (b_own HO.out (Q : Int) (by have := HPB.out; omega) (by have := HPB.out; omega)) ?_
              rintro e w5 ⟨g5, rfl, O'⟩
              have O1 := hide O'
              clear O' HO cQ2
              go_wp2_with fail
              refine calls_mono (sub_own O1.out 1 1 0 rfl rfl rfl HLM.out.2.2.1 HLM.out.1.2.2.2.1 HLM.out.2.2.2) ?_
              rintro e w6 ⟨rfl, O'⟩
              simp only [List.set] at O'
              rw [HE.out] at O'
              have O2 := hide (O'.sub [1] rfl (by decide))
              clear O' O1
              have HLN : Hid (((N : Nat) : Int).natAbs < lim) := hide (by have := HLM.out.2.2.2; rw [HE.out] at this; exact this)
              go_wp2_with fail
              refine calls_mono (b_own O2.out (most : Int) (by omega) (by omega)) ?_
              rintro e w7 ⟨g7, rfl, O'⟩
              have O3 := hide O'
              clear O' O2
              have CC := hide (cmp_own O3.out 1 0 rfl rfl HLN.out HLM.out.1.2.2.2.2)
              by_cases hNm : N ≤ most
              · obtain ⟨z, hz⟩ : ∃ z, icmp (N : Int) (most : Int) = z := ⟨_, rfl⟩
                have hz1 : decide ((0 : Int) < z) = false := by
                  rw [decide_eq_false_iff_not, ← hz]
                  unfold icmp
                  split
                  · omega
                  · split <;> omega
                rw [hz] at CC
                have HNM := hide hNm
                clear hz hNm
                go_wp2_with fail
                refine CC.out.mono ?_
                rintro e w8 ⟨rfl, O'⟩
                have O4 := hide O'
                have cC2 : w8.cell? ⟨b6, 2, none⟩ = some (.int .i64 (c : Nat)) := (O'.bel.cell (p := ⟨b6, 2, none⟩) hbi).trans CPC.out.2
                clear O' CC O3
                go_wp2_with fail
                refine calls_mono (b_own O4.out (c : Int) (by have := HPB.out; omega) (by have := HPB.out; omega)) ?_
                rintro e w9 ⟨g9, rfl, O'⟩
                have O5 := hide O'
                clear O' O4 cC2
                have CC := hide (cmp_own O5.out 2 0 rfl rfl HLN.out HLM.out.1.2.2.1)
                obtain ⟨y, hy⟩ : ∃ y, icmp (N : Int) (c : Int) = y := ⟨_, rfl⟩
                have hy1 : decide (y < (0 : Int)) = false := by
                  rw [decide_eq_false_iff_not, ← hy]
                  have := HNC.out
                  unfold icmp
                  split
                  · omega
                  · split <;> omega
                rw [hy] at CC
                clear hy
                go_wp2_with fail
                refine CC.out.mono ?_
                rintro e w10 ⟨rfl, O'⟩
                have O6 := hide (O'.sub [2] rfl (by decide))
                clear O' O5 CC
                have HMEM : Hid ((P, c, N) ∈ mkL most) := hide (mk_mem.2 ⟨HN0.out (by have := HNM.out; omega), HNM.out⟩)
                go_wp2_with fail
                go_loopw [9, 10] (fun inv jv wr => ∃ j : Nat, j ≤ n ∧ jv = .int .i64 j ∧ inv = .bool (decide ((P, c, N) ∈ (mkL most).take j)) ∧ Hid (Own wi wr [(g8, ((N : Nat) : Int))])) (fun _ jv _ => n - (intOf jv).toNat)
                case atStart => exact ⟨0, by omega, rfl, by simp, O6⟩
                case round =>
                  clear O6
                  obtain ⟨j, hj, rfl, rfl, HO⟩ := hrel
                  obtain ⟨wj, rfl⟩ : ∃ Z, Z = wr := ⟨_, rfl⟩
                  by_cases hjn : j < n
                  · obtain ⟨⟨x, y, z⟩, hs⟩ : ∃ s, (mkL most)[j]? = some s := ⟨_, List.getElem?_eq_getElem (by rw [HNL.out]; exact hjn)⟩
                    obtain ⟨v0, v1, v2⟩ := HC.out wj (HWI.out.trans (HO.out.bel.mono HWI.out.size)) j (x, y, z) hs
                    simp only at v0 v1 v2
                    have cP : wj.cell? ⟨b6, k, none⟩ = some (.int .i64 (P : Nat)) := (HO.out.bel.cell (p := ⟨b6, k, none⟩) hbi).trans CPC.out.1
                    have cC : wj.cell? ⟨b6, 2, none⟩ = some (.int .i64 (c : Nat)) := (HO.out.bel.cell (p := ⟨b6, 2, none⟩) hbi).trans CPC.out.2
                    have CQ : ∀ m, Hid (Calls Try.prog 25 #[.pointer (some ⟨g8, 0, none⟩)] (wj.drewN m) fun e w' => e = .returned (.int .i64 (N : Nat)) ∧ w' = wj.drewN m) := fun m => hide ((int64_own (HO.out.below (below_drewN (Below.refl _ _) m)) 0 rfl (by omega) (by have := HNM.out; omega)).mono fun _ _ hh => ⟨hh.1, hh.2.symm⟩)
                    have hstep : decide ((P, c, N) ∈ (mkL most).take (j + 1)) = (decide ((P, c, N) ∈ (mkL most).take j) || decide ((x, y, z) = (P, c, N))) := take_dec hs
                    have HST := hide hstep
                    clear hs hstep
                    cases hin0 : decide ((P, c, N) ∈ (mkL most).take j) with
                    | true =>
                      rw [hin0, Bool.true_or] at HST
                      have HT2 : Hid (Value.bool true = .bool (decide ((P, c, N) ∈ (mkL most).take (j + 1)))) := hide (by rw [HST.out])
                      clear hin0 HST
                      go_wp2_with fail
                      go_quiet (fail)
                      go_wp2_with fail
                      go_roundw
                      case rel => exact ⟨j + 1, by omega, by go_num, HT2.out, hide (HO.out.below (below_drewN (Below.refl _ _) _))⟩
                      case measure => simp [intOf]; omega
                    | false =>
                      rw [hin0, Bool.false_or] at HST
                      clear hin0
                      by_cases hxy : (x, y, z) = (P, c, N)
                      · have HT2 : Hid (Value.bool true = .bool (decide ((P, c, N) ∈ (mkL most).take (j + 1)))) := hide (by rw [HST.out, decide_eq_true hxy])
                        injection hxy with e1 e2
                        injection e2 with e2 e3
                        subst e1 e2 e3
                        have heq := eqT_refl (x : Nat) (y : Nat) (z : Nat)
                        clear HST
                        go_wp2_with fail
                        go_quiet ((go_at_call 25; exact Calls.quiet_of_same (CQ _).out))
                        go_wp2_with fail
                        go_roundw
                        case rel => exact ⟨j + 1, by omega, by go_num, HT2.out, hide (HO.out.below (below_drewN (Below.refl _ _) _))⟩
                        case measure => simp [intOf]; omega
                      · have HT2 : Hid (Value.bool false = .bool (decide ((P, c, N) ∈ (mkL most).take (j + 1)))) := hide (by rw [HST.out, decide_eq_false hxy])
                        have heq : ∀ W, (Op.equalIn 10000 47 (.agg #[.int .i64 (x : Nat), .int .i64 (y : Nat), .int .i64 (z : Nat)]) (.agg #[.int .i64 (P : Nat), .int .i64 (c : Nat), .int .i64 (N : Nat)])).run Try.prog W = .ok false W := fun W => by
                          rw [eqT]
                          have : ((x : Int) == (P : Int) && ((y : Int) == (c : Int) && (z : Int) == (N : Int))) = false := by
                            rw [Bool.eq_false_iff]
                            intro hh
                            simp only [Bool.and_eq_true, beq_iff_eq] at hh
                            exact hxy (by
                              obtain ⟨h1, h2, h3⟩ := hh
                              rw [Int.ofNat.inj h1, Int.ofNat.inj h2, Int.ofNat.inj h3])
                          rw [this]
                        clear HST hxy
                        go_wp2_with fail
                        go_quiet ((go_at_call 25; exact Calls.quiet_of_same (CQ _).out))
                        go_wp2_with fail
                        go_roundw
                        case rel => exact ⟨j + 1, by omega, by go_num, HT2.out, hide (HO.out.below (below_drewN (Below.refl _ _) _))⟩
                        case measure => simp [intOf]; omega
                  · obtain rfl : j = n := by omega
                    have e : decide ((P, c, N) ∈ (mkL most).take j) = true := by
                      rw [List.take_of_length_le (by rw [HNL.out]; exact Nat.le_refl _)]
                      exact decide_eq_true HMEM.out
                    rw [e]
                    have HK2 := hide (HK.out.trans (HO.out.bel.mono HK.out.size))
                    clear e
                    go_wp2_with fail
                    go_roundw
                    case rel => exact ⟨k + 1, by omega, by go_num, HK2⟩
                    case measure => simp [intOf]; omega
              · have hz : icmp (N : Int) (most : Int) = 1 := by
                  unfold icmp
                  rw [if_neg (by omega), if_pos (by omega)]
                rw [hz] at CC
                clear hz
                go_wp2_with fail
                refine CC.out.mono ?_
                rintro e w8 ⟨rfl, O'⟩
                have HK2 := hide (HK.out.trans (O'.bel.mono HK.out.size))
                clear O' CC
                go_wp2_with fail
                go_roundw
                case rel => exact ⟨k + 1, by omega, by go_num, HK2⟩
                case measure => simp [intOf]; omega
          · as_aux_lemma =>
            obtain rfl : k = 2 := by omega
            go_wp2_with fail
            go_roundw
            case rel => exact ⟨i + 1, by omega, by go_num, hide (HW1.out.trans (HK.out.mono HW1.out.size))⟩
            case measure => simp [intOf]; omega
    · as_aux_lemma =>
      obtain rfl : i = n := by omega
      go_wp2_with fail
      go_ret
      exact ⟨rfl, HB2.out.trans (HW.out.mono HB2.out.size)⟩

theorem markl_row (most : Int) (w : World) :
    Calls Try.prog 5 #[.int .i64 most] w fun e w' => e = .returned (.bool true) ∧ Below w.heap.size w w' := by
  by_cases h : 0 ≤ most ∧ most ≤ 1000000000000000000
  · obtain ⟨n, rfl⟩ : ∃ n : Nat, most = n := ⟨most.toNat, by omega⟩
    by_cases h1 : n ≤ 100
    · exact markl_small n w h1
    · exact markl_big n w (by omega) (by omega)
  · exact markl_bad most w h
end Go.Proofs.Ytgocnjklpafabaa
