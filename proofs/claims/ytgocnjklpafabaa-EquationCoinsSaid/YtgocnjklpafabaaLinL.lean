/- The walk of the law EquationLinear. -/
import Derived.Test.YtgocnjklpafabaaEqBeg
import Derived.Test.YtgocnjklpafabaaRefG
import Derived.Test.YtgocnjklpafabaaRefB
import Derived.Test.YtgocnjklpafabaaIntC
import Derived.Deep.LoopGhost
namespace Go.Proofs.Ytgocnjklpafabaa
open Go.RowKit

theorem lin_none {a b c x y : Int} {f : Int × Int} {k n : Int} (h : LinOk a b c x y f) (hf : linF a b c = (k, n)) (hk : k ≠ 0) : x = 0 ∧ y = 0 ∧ f = (k, n) := by
  have e := h.fault.trans hf
  obtain ⟨h1, h2⟩ := h.none (by rw [e]; exact hk)
  exact ⟨h1, h2, e⟩

set_option maxRecDepth 100000 in
set_option maxHeartbeats 1600000 in
theorem linear_b0 (a b c : Int) (w : World) (ha : -1000000000 ≤ a ∧ a ≤ 1000000000) (hb : -1000000000 ≤ b ∧ b ≤ 1000000000) (hc : -1000000000 ≤ c ∧ c ≤ 1000000000) (hb0 : b = 0) (hf : linF a b c = (4, 1)) :
    Calls Try.prog 4 #[.int .i64 a, .int .i64 b, .int .i64 c] w fun e w' => e = .returned (.bool true) ∧ Below w.heap.size w w' := by
  have CW := fun W => hide (eqBegun_any W)
  have CL := hide (linear_any a b c w)
  have CF := fun W => hide (refF_any 4 1 W)
  have HF := hide hf
  subst hb0
  obtain ⟨a1, a2⟩ := no_big ha
  obtain ⟨b1, b2⟩ := no_big hb
  obtain ⟨c1, c2⟩ := no_big hc
  clear ha hb hc hf
  go_enter Try.func4, Try.ntmps4
  go_wp2_with fail
  refine CL.out.mono ?_
  rintro e w1 ⟨x, y, f, rfl, hok, hb⟩
  obtain ⟨rfl, rfl, rfl⟩ := lin_none hok HF.out (by decide)
  simp only [fv]
  have F1 := FC.made w1 4 1
  have B1 := bel_e w1 (.cells #[.int .i64 4, .int .i64 1] 24)
  have B2 := bel_e (w1.alloc (.cells #[.int .i64 4, .int .i64 1] 24)) (.cells #[.int .i64 a, .int .i64 0, .int .i64 c] 3)
  have B3 := bel_e ((w1.alloc (.cells #[.int .i64 4, .int .i64 1] 24)).alloc (.cells #[.int .i64 a, .int .i64 0, .int .i64 c] 3)) (.cells #[.int .i64 0, .int .i64 0] 24)
  have F3 := hide ((F1.below B2).below B3)
  have G3 := hide (FC.made ((w1.alloc (.cells #[.int .i64 4, .int .i64 1] 24)).alloc (.cells #[.int .i64 a, .int .i64 0, .int .i64 c] 3)) 0 0)
  have L3 := hide ((B3.block _ (by simp)).trans (heap_alloc_new (w1.alloc (.cells #[.int .i64 4, .int .i64 1] 24)) (.cells #[.int .i64 a, .int .i64 0, .int .i64 c] 3)))
  have HB3 := hide (((hb.trans (B1.mono hb.size)).trans (B2.mono (hb.trans (B1.mono hb.size)).size)).trans (B3.mono ((hb.trans (B1.mono hb.size)).trans (B2.mono (hb.trans (B1.mono hb.size)).size)).size))
  have e1 : (w1.alloc (.cells #[.int .i64 4, .int .i64 1] 24)).heap.size = w1.heap.size + 1 := World.size_alloc ..
  have e2 : ((w1.alloc (.cells #[.int .i64 4, .int .i64 1] 24)).alloc (.cells #[.int .i64 a, .int .i64 0, .int .i64 c] 3)).heap.size = w1.heap.size + 1 + 1 := by rw [World.size_alloc, e1]
  rw [e2] at G3
  rw [e1] at L3
  have hsz : w1.heap.size + 1 + 1 < (((w1.alloc (.cells #[.int .i64 4, .int .i64 1] 24)).alloc (.cells #[.int .i64 a, .int .i64 0, .int .i64 c] 3)).alloc (.cells #[.int .i64 0, .int .i64 0] 24)).heap.size := by simp
  have hw1 := hb.size
  go_wp2_with fail
  obtain ⟨w3, hw3⟩ : ∃ Z, (((w1.alloc (.cells #[.int .i64 4, .int .i64 1] 24)).alloc (.cells #[.int .i64 a, .int .i64 0, .int .i64 c] 3)).alloc (.cells #[.int .i64 0, .int .i64 0] 24)) = Z := ⟨_, rfl⟩
  rw [hw3] at F3 G3 L3 HB3 hsz
  (try rw [hw3])
  obtain ⟨q, hq⟩ : ∃ q, w1.heap.size = q := ⟨_, rfl⟩
  rw [hq] at F3 G3 L3 hsz hw1
  (try rw [hq])
  clear hw3 hq e1 e2 hb F1 B1 B2 B3 CL HF hok
  have t0 := cell_three L3.out (j := 0) rfl
  have t1 := cell_three L3.out (j := 1) rfl
  have t2 := cell_three L3.out (j := 2) rfl
  obtain ⟨g0', g1', _, _⟩ := G3.out.cells
  refine wp_loop_rounds 4 ?_
  rw [rounds_succ]
  go_wp2_with fail
  rw [rounds_succ]
  go_wp2_with fail
  rw [rounds_succ]
  go_wp2_with fail
  rw [rounds_succ]
  go_wp2_with fail
  refine (CF _).out.mono ?_
  rintro e w4 ⟨rfl, hb⟩
  have F4 := F3.out.below hb
  have G4 := G3.out.below hb
  have HB4 := HB3.out.trans (hb.mono HB3.out.size)
  have hq4 : q + 1 + 1 < w4.heap.size := Nat.lt_of_lt_of_le hsz hb.size
  obtain ⟨g0, g1, k0, k1⟩ := G4.cells
  have F5 := hide (show FC ((w4.setCell ⟨q + 1 + 1, 0, none⟩ (.int .i64 4)).setCell ⟨q + 1 + 1, 1, none⟩ (.int .i64 1)) q 4 1 from (far_set _ _ (by omega)).trans ((far_set w4 _ (by omega)).trans F4))
  have G5 := hide ((G4.set0 4).set1 1)
  have HB5 := hide (below_fault (u := .int .i64 4) (v := .int .i64 1) HB4 (show w.heap.size ≤ q + 1 + 1 by omega))
  clear hb F4 G4 HB4
  go_wp2_with fail
  refine (CW _).out.mono ?_
  rintro e w8 ⟨rfl, hb⟩
  have F8 := F5.out.below hb
  have G8 := G5.out.below hb
  have HB8 := hide (HB5.out.trans (hb.mono HB5.out.size))
  obtain ⟨a0, a1, _, _⟩ := F8.cells
  obtain ⟨b0, b1, _, _⟩ := G8.cells
  clear hb F8 G8
  go_wp2_with fail
  go_ret
  exact ⟨rfl, HB8.out⟩

set_option maxRecDepth 100000 in
set_option maxHeartbeats 1600000 in
theorem linear_cg (a b c : Int) (w : World) (ha : -1000000000 ≤ a ∧ a ≤ 1000000000) (hb : -1000000000 ≤ b ∧ b ≤ 1000000000) (hc : -1000000000 ≤ c ∧ c ≤ 1000000000) (hb0 : b ≠ 0) (hcg : c % (Int.gcd a b : Int) ≠ 0) (hf : linF a b c = (5, 0)) :
    Calls Try.prog 4 #[.int .i64 a, .int .i64 b, .int .i64 c] w fun e w' => e = .returned (.bool true) ∧ Below w.heap.size w w' := by
  have CW := fun W => hide (eqBegun_any W)
  have CL := hide (linear_any a b c w)
  have CF := fun W => hide (refF_any 5 0 W)
  have HF := hide hf
  have CG := fun W => hide (refGcd_any a b W (by omega) (by omega) (by omega) (by omega))
  have hG0 : 0 < Int.gcd a b := Int.gcd_pos_of_ne_zero_right _ hb0
  obtain ⟨G, hG⟩ : ∃ G : Nat, Int.gcd a b = G := ⟨_, rfl⟩
  rw [hG] at CG hG0 hcg
  have hTn : (c.tmod (G : Int) != 0) = true := by
    rw [bne_iff_ne]
    intro h
    exact hcg (Int.emod_eq_zero_of_dvd (Int.dvd_of_tmod_eq_zero h))
  have hTd : decide (c.tmod (G : Int) = 0) = false := by
    rw [decide_eq_false_iff_not]
    intro h
    exact hcg (Int.emod_eq_zero_of_dvd (Int.dvd_of_tmod_eq_zero h))
  obtain ⟨a1, a2⟩ := no_big ha
  obtain ⟨b1, b2⟩ := no_big hb
  obtain ⟨c1, c2⟩ := no_big hc
  have hb1 : (b == 0) = false := by simpa using hb0
  have hb2 : decide (b = 0) = false := by simpa using hb0
  clear ha hb hc hf hb0 hcg hG
  go_enter Try.func4, Try.ntmps4
  go_wp2_with fail
  refine CL.out.mono ?_
  rintro e w1 ⟨x, y, f, rfl, hok, hb⟩
  obtain ⟨rfl, rfl, rfl⟩ := lin_none hok HF.out (by decide)
  simp only [fv]
  have F1 := FC.made w1 5 0
  have B1 := bel_e w1 (.cells #[.int .i64 5, .int .i64 0] 24)
  have B2 := bel_e (w1.alloc (.cells #[.int .i64 5, .int .i64 0] 24)) (.cells #[.int .i64 a, .int .i64 b, .int .i64 c] 3)
  have B3 := bel_e ((w1.alloc (.cells #[.int .i64 5, .int .i64 0] 24)).alloc (.cells #[.int .i64 a, .int .i64 b, .int .i64 c] 3)) (.cells #[.int .i64 0, .int .i64 0] 24)
  have F3 := hide ((F1.below B2).below B3)
  have G3 := hide (FC.made ((w1.alloc (.cells #[.int .i64 5, .int .i64 0] 24)).alloc (.cells #[.int .i64 a, .int .i64 b, .int .i64 c] 3)) 0 0)
  have L3 := hide ((B3.block _ (by simp)).trans (heap_alloc_new (w1.alloc (.cells #[.int .i64 5, .int .i64 0] 24)) (.cells #[.int .i64 a, .int .i64 b, .int .i64 c] 3)))
  have HB3 := hide (((hb.trans (B1.mono hb.size)).trans (B2.mono (hb.trans (B1.mono hb.size)).size)).trans (B3.mono ((hb.trans (B1.mono hb.size)).trans (B2.mono (hb.trans (B1.mono hb.size)).size)).size))
  have e1 : (w1.alloc (.cells #[.int .i64 5, .int .i64 0] 24)).heap.size = w1.heap.size + 1 := World.size_alloc ..
  have e2 : ((w1.alloc (.cells #[.int .i64 5, .int .i64 0] 24)).alloc (.cells #[.int .i64 a, .int .i64 b, .int .i64 c] 3)).heap.size = w1.heap.size + 1 + 1 := by rw [World.size_alloc, e1]
  rw [e2] at G3
  rw [e1] at L3
  have hsz : w1.heap.size + 1 + 1 < (((w1.alloc (.cells #[.int .i64 5, .int .i64 0] 24)).alloc (.cells #[.int .i64 a, .int .i64 b, .int .i64 c] 3)).alloc (.cells #[.int .i64 0, .int .i64 0] 24)).heap.size := by simp
  have hw1 := hb.size
  go_wp2_with fail
  obtain ⟨w3, hw3⟩ : ∃ Z, (((w1.alloc (.cells #[.int .i64 5, .int .i64 0] 24)).alloc (.cells #[.int .i64 a, .int .i64 b, .int .i64 c] 3)).alloc (.cells #[.int .i64 0, .int .i64 0] 24)) = Z := ⟨_, rfl⟩
  rw [hw3] at F3 G3 L3 HB3 hsz
  (try rw [hw3])
  obtain ⟨q, hq⟩ : ∃ q, w1.heap.size = q := ⟨_, rfl⟩
  rw [hq] at F3 G3 L3 hsz hw1
  (try rw [hq])
  clear hw3 hq e1 e2 hb F1 B1 B2 B3 CL HF hok
  have t0 := cell_three L3.out (j := 0) rfl
  have t1 := cell_three L3.out (j := 1) rfl
  have t2 := cell_three L3.out (j := 2) rfl
  obtain ⟨g0', g1', _, _⟩ := G3.out.cells
  refine wp_loop_rounds 4 ?_
  rw [rounds_succ]
  go_wp2_with fail
  rw [rounds_succ]
  go_wp2_with fail
  rw [rounds_succ]
  go_wp2_with fail
  rw [rounds_succ]
  go_wp2_with fail
  refine (CG _).out.mono ?_
  rintro e w4 ⟨rfl, rfl⟩
  go_wp2_with fail
  refine (CF _).out.mono ?_
  rintro e w4 ⟨rfl, hb⟩
  have F4 := F3.out.below hb
  have G4 := G3.out.below hb
  have HB4 := HB3.out.trans (hb.mono HB3.out.size)
  have hq4 : q + 1 + 1 < w4.heap.size := Nat.lt_of_lt_of_le hsz hb.size
  obtain ⟨g0, g1, k0, k1⟩ := G4.cells
  have F5 := hide (show FC ((w4.setCell ⟨q + 1 + 1, 0, none⟩ (.int .i64 5)).setCell ⟨q + 1 + 1, 1, none⟩ (.int .i64 0)) q 5 0 from (far_set _ _ (by omega)).trans ((far_set w4 _ (by omega)).trans F4))
  have G5 := hide ((G4.set0 5).set1 0)
  have HB5 := hide (below_fault (u := .int .i64 5) (v := .int .i64 0) HB4 (show w.heap.size ≤ q + 1 + 1 by omega))
  clear hb F4 G4 HB4
  go_wp2_with fail
  refine (CW _).out.mono ?_
  rintro e w8 ⟨rfl, hb⟩
  have F8 := F5.out.below hb
  have G8 := G5.out.below hb
  have HB8 := hide (HB5.out.trans (hb.mono HB5.out.size))
  obtain ⟨a0, a1, _, _⟩ := F8.cells
  obtain ⟨b0, b1, _, _⟩ := G8.cells
  clear hb F8 G8
  go_wp2_with fail
  go_ret
  exact ⟨rfl, HB8.out⟩

set_option maxRecDepth 100000 in
set_option maxHeartbeats 1600000 in
theorem linear_bad (a b c : Int) (w : World) (k : Nat) (hk : k < 3) (hlow : ∀ j x, j < k → [a, b, c][j]? = some x → -1000000000 ≤ x ∧ x ≤ 1000000000) (x : Int) (hx : [a, b, c][k]? = some x) (hbad : x < -1000000000 ∨ 1000000000 < x) (hf : linF a b c = (3, (k : Int))) :
    Calls Try.prog 4 #[.int .i64 a, .int .i64 b, .int .i64 c] w fun e w' => e = .returned (.bool true) ∧ Below w.heap.size w w' := by
  have CW := fun W => hide (eqBegun_any W)
  have CL := hide (linear_any a b c w)
  have CF := fun W => hide (refF_any 3 k W)
  have HF := hide hf
  have HLO := hide hlow
  have HX := hide hx
  clear hf hlow hx
  go_enter Try.func4, Try.ntmps4
  go_wp2_with fail
  refine CL.out.mono ?_
  rintro e w1 ⟨x, y, f, rfl, hok, hb⟩
  obtain ⟨rfl, rfl, rfl⟩ := lin_none hok HF.out (by decide)
  simp only [fv]
  have F1 := FC.made w1 3 (k : Int)
  have B1 := bel_e w1 (.cells #[.int .i64 3, .int .i64 (k : Int)] 24)
  have B2 := bel_e (w1.alloc (.cells #[.int .i64 3, .int .i64 (k : Int)] 24)) (.cells #[.int .i64 a, .int .i64 b, .int .i64 c] 3)
  have B3 := bel_e ((w1.alloc (.cells #[.int .i64 3, .int .i64 (k : Int)] 24)).alloc (.cells #[.int .i64 a, .int .i64 b, .int .i64 c] 3)) (.cells #[.int .i64 0, .int .i64 0] 24)
  have F3 := hide ((F1.below B2).below B3)
  have G3 := hide (FC.made ((w1.alloc (.cells #[.int .i64 3, .int .i64 (k : Int)] 24)).alloc (.cells #[.int .i64 a, .int .i64 b, .int .i64 c] 3)) 0 0)
  have L3 := hide ((B3.block _ (by simp)).trans (heap_alloc_new (w1.alloc (.cells #[.int .i64 3, .int .i64 (k : Int)] 24)) (.cells #[.int .i64 a, .int .i64 b, .int .i64 c] 3)))
  have HB3 := hide (((hb.trans (B1.mono hb.size)).trans (B2.mono (hb.trans (B1.mono hb.size)).size)).trans (B3.mono ((hb.trans (B1.mono hb.size)).trans (B2.mono (hb.trans (B1.mono hb.size)).size)).size))
  have e1 : (w1.alloc (.cells #[.int .i64 3, .int .i64 (k : Int)] 24)).heap.size = w1.heap.size + 1 := World.size_alloc ..
  have e2 : ((w1.alloc (.cells #[.int .i64 3, .int .i64 (k : Int)] 24)).alloc (.cells #[.int .i64 a, .int .i64 b, .int .i64 c] 3)).heap.size = w1.heap.size + 1 + 1 := by rw [World.size_alloc, e1]
  rw [e2] at G3
  rw [e1] at L3
  have hsz : w1.heap.size + 1 + 1 < (((w1.alloc (.cells #[.int .i64 3, .int .i64 (k : Int)] 24)).alloc (.cells #[.int .i64 a, .int .i64 b, .int .i64 c] 3)).alloc (.cells #[.int .i64 0, .int .i64 0] 24)).heap.size := by simp
  have hw1 := hb.size
  go_wp2_with fail
  obtain ⟨w3, hw3⟩ : ∃ Z, (((w1.alloc (.cells #[.int .i64 3, .int .i64 (k : Int)] 24)).alloc (.cells #[.int .i64 a, .int .i64 b, .int .i64 c] 3)).alloc (.cells #[.int .i64 0, .int .i64 0] 24)) = Z := ⟨_, rfl⟩
  rw [hw3] at F3 G3 L3 HB3 hsz
  (try rw [hw3])
  obtain ⟨q, hq⟩ : ∃ q, w1.heap.size = q := ⟨_, rfl⟩
  rw [hq] at F3 G3 L3 hsz hw1
  (try rw [hq])
  clear hw3 hq e1 e2 hb F1 B1 B2 B3 CL HF hok
  go_loopw [12] (fun iv wr => (∃ j : Nat, j ≤ k ∧ iv = .int .i64 j ∧ wr = w3) ∨ (iv = .int .i64 ((k + 1 : Nat) : Int) ∧ Hid (FC wr q 3 k) ∧ Hid (FC wr (q + 1 + 1) 3 k) ∧ Hid (Below w.heap.size w wr))) (fun iv _ => 5 - (intOf iv).toNat)
  case atStart => exact .inl ⟨0, by omega, rfl, rfl⟩
  case round =>
    rcases hrel with ⟨j, hj, rfl, rfl⟩ | ⟨rfl, FE, GE, BE⟩
    · have hj3 : j < 3 := by omega
      obtain ⟨y, hy⟩ : ∃ y, [a, b, c][j]? = some y := ⟨_, List.getElem?_eq_getElem (by simpa using hj3)⟩
      have cy := cell_three L3.out hy
      obtain ⟨g0', g1', _, _⟩ := G3.out.cells
      by_cases hjk : j < k
      · obtain ⟨q1, q2⟩ := no_big (HLO.out j y hjk hy)
        clear hy CW CF
        go_wp2_with fail
        go_roundw
        case rel => exact .inl ⟨j + 1, by omega, by go_num, by first | rfl | trivial⟩
        case measure => simp [intOf]; omega
      · obtain rfl : j = k := by omega
        have e := HX.out
        rw [hy] at e
        injection e with e
        subst e
        clear hy hjk hj HLO HX
        rcases hbad with hbad | hbad
        · obtain ⟨q1, q2⟩ : decide (y < -1000000000) = true ∧ decide (1000000000 < y) = false := by rw [decide_eq_true_eq, decide_eq_false_iff_not]; omega
          clear hbad
          go_wp2_with fail
          refine (CF _).out.mono ?_
          rintro e w4 ⟨rfl, hb⟩
          have F4 := F3.out.below hb
          have G4 := G3.out.below hb
          have HB4 := HB3.out.trans (hb.mono HB3.out.size)
          have hq4 : q + 1 + 1 < w4.heap.size := Nat.lt_of_lt_of_le hsz hb.size
          obtain ⟨g0, g1, k0, k1⟩ := G4.cells
          have F5 := hide (show FC ((w4.setCell ⟨q + 1 + 1, 0, none⟩ (.int .i64 3)).setCell ⟨q + 1 + 1, 1, none⟩ (.int .i64 j)) q 3 j from (far_set _ _ (by omega)).trans ((far_set w4 _ (by omega)).trans F4))
          have G5 := hide ((G4.set0 3).set1 j)
          have HB5 := hide (below_fault (u := .int .i64 3) (v := .int .i64 j) HB4 (show w.heap.size ≤ q + 1 + 1 by omega))
          clear hb F4 G4 HB4
          go_wp2_with fail
          go_roundw
          case rel => exact .inr ⟨by go_num, F5, G5, HB5⟩
          case measure => simp [intOf]; omega
        · obtain ⟨q1, q2⟩ := yes_high hbad
          clear hbad
          go_wp2_with fail
          refine (CF _).out.mono ?_
          rintro e w4 ⟨rfl, hb⟩
          have F4 := F3.out.below hb
          have G4 := G3.out.below hb
          have HB4 := HB3.out.trans (hb.mono HB3.out.size)
          have hq4 : q + 1 + 1 < w4.heap.size := Nat.lt_of_lt_of_le hsz hb.size
          obtain ⟨g0, g1, k0, k1⟩ := G4.cells
          have F5 := hide (show FC ((w4.setCell ⟨q + 1 + 1, 0, none⟩ (.int .i64 3)).setCell ⟨q + 1 + 1, 1, none⟩ (.int .i64 j)) q 3 j from (far_set _ _ (by omega)).trans ((far_set w4 _ (by omega)).trans F4))
          have G5 := hide ((G4.set0 3).set1 j)
          have HB5 := hide (below_fault (u := .int .i64 3) (v := .int .i64 j) HB4 (show w.heap.size ≤ q + 1 + 1 by omega))
          clear hb F4 G4 HB4
          go_wp2_with fail
          go_roundw
          case rel => exact .inr ⟨by go_num, F5, G5, HB5⟩
          case measure => simp [intOf]; omega
    · obtain ⟨g0', g1', _, _⟩ := GE.out.cells
      by_cases hk3 : k < 2
      all_goals
        go_wp2_with fail
        refine (CW _).out.mono ?_
        rintro e w8 ⟨rfl, hb⟩
        have F8 := FE.out.below hb
        have G8 := GE.out.below hb
        have HB8 := hide (BE.out.trans (hb.mono BE.out.size))
        obtain ⟨a0, a1, _, _⟩ := F8.cells
        obtain ⟨b0, b1, _, _⟩ := G8.cells
        clear hb F8 G8
        go_wp2_with fail
        go_ret
        exact ⟨rfl, HB8.out⟩

set_option maxRecDepth 100000 in
set_option maxHeartbeats 1600000 in
theorem linear_ok (a b c : Int) (w : World) (ha : -1000000000 ≤ a ∧ a ≤ 1000000000) (hb : -1000000000 ≤ b ∧ b ≤ 1000000000) (hc : -1000000000 ≤ c ∧ c ≤ 1000000000) (hb0 : b ≠ 0) (hcg : c % (Int.gcd a b : Int) = 0) (hf : linF a b c = (0, 0)) :
    Calls Try.prog 4 #[.int .i64 a, .int .i64 b, .int .i64 c] w fun e w' => e = .returned (.bool true) ∧ Below w.heap.size w w' := by
  have CW := fun W => hide (eqBegun_any W)
  have CL := hide (linear_any a b c w)
  have HF := hide hf
  have CG := fun W => hide (refGcd_any a b W (by omega) (by omega) (by omega) (by omega))
  have CS := fun W => hide (size_any b W (by omega) (by omega))
  have CC := fun W => hide (b_any c W (by omega) (by omega))
  have hG0 : 0 < Int.gcd a b := Int.gcd_pos_of_ne_zero_right _ hb0
  have hBd : b.natAbs ≤ 1000000000 := by omega
  obtain ⟨G, hG⟩ : ∃ G : Nat, Int.gcd a b = G := ⟨_, rfl⟩
  have HG := hide hG
  rw [hG] at CG hG0 hcg
  have hTc : c.tmod (G : Int) = 0 := Int.tmod_eq_zero_of_dvd (Int.dvd_of_emod_eq_zero hcg)
  obtain ⟨B, hB⟩ : ∃ B : Nat, b.natAbs = B := ⟨_, rfl⟩
  rw [hB] at CS hBd
  have hBB := hide hB
  obtain ⟨M, hM⟩ : ∃ M : Nat, B / G = M := ⟨_, rfl⟩
  have hdiv : (B : Int) / (G : Int) = (M : Int) := by rw [← Int.natCast_ediv, hM]
  have hMB : M ≤ 1000000000 := by rw [← hM]; exact Nat.le_trans (Nat.div_le_self ..) hBd
  have HM := hide hM
  have HBS := hide (And.intro ha (And.intro hb hc))
  obtain ⟨a1, a2⟩ := no_big ha
  obtain ⟨b1, b2⟩ := no_big hb
  obtain ⟨c1, c2⟩ := no_big hc
  have hb1 : (b == 0) = false := by simpa using hb0
  have hb2 : decide (b = 0) = false := by simpa using hb0
  clear ha hb hc hf hb0 hcg hG hB hM
  go_enter Try.func4, Try.ntmps4
  go_wp2_with fail
  refine CL.out.mono ?_
  rintro e w1 ⟨x, y, f, rfl, hok, hb⟩
  obtain rfl : f = (0, 0) := hok.fault.trans HF.out
  obtain ⟨x0, x1, hsol, x2, y2⟩ := hok.some rfl
  rw [HG.out, hBB.out, HM.out] at x1
  have CO := fun W => hide (combined_any a x b y W (by have := HBS.out; omega) (by omega) (by have := HBS.out; omega) y2)
  have HSOL := hide hsol
  clear hsol
  simp only [fv]
  have F1 := FC.made w1 0 0
  have B1 := bel_e w1 (.cells #[.int .i64 0, .int .i64 0] 24)
  have B2 := bel_e (w1.alloc (.cells #[.int .i64 0, .int .i64 0] 24)) (.cells #[.int .i64 a, .int .i64 b, .int .i64 c] 3)
  have B3 := bel_e ((w1.alloc (.cells #[.int .i64 0, .int .i64 0] 24)).alloc (.cells #[.int .i64 a, .int .i64 b, .int .i64 c] 3)) (.cells #[.int .i64 0, .int .i64 0] 24)
  have F3 := hide ((F1.below B2).below B3)
  have G3 := hide (FC.made ((w1.alloc (.cells #[.int .i64 0, .int .i64 0] 24)).alloc (.cells #[.int .i64 a, .int .i64 b, .int .i64 c] 3)) 0 0)
  have L3 := hide ((B3.block _ (by simp)).trans (heap_alloc_new (w1.alloc (.cells #[.int .i64 0, .int .i64 0] 24)) (.cells #[.int .i64 a, .int .i64 b, .int .i64 c] 3)))
  have HB3 := hide (((hb.trans (B1.mono hb.size)).trans (B2.mono (hb.trans (B1.mono hb.size)).size)).trans (B3.mono ((hb.trans (B1.mono hb.size)).trans (B2.mono (hb.trans (B1.mono hb.size)).size)).size))
  have e1 : (w1.alloc (.cells #[.int .i64 0, .int .i64 0] 24)).heap.size = w1.heap.size + 1 := World.size_alloc ..
  have e2 : ((w1.alloc (.cells #[.int .i64 0, .int .i64 0] 24)).alloc (.cells #[.int .i64 a, .int .i64 b, .int .i64 c] 3)).heap.size = w1.heap.size + 1 + 1 := by rw [World.size_alloc, e1]
  rw [e2] at G3
  rw [e1] at L3
  have hsz : w1.heap.size + 1 + 1 < (((w1.alloc (.cells #[.int .i64 0, .int .i64 0] 24)).alloc (.cells #[.int .i64 a, .int .i64 b, .int .i64 c] 3)).alloc (.cells #[.int .i64 0, .int .i64 0] 24)).heap.size := by simp
  have hw1 := hb.size
  go_wp2_with fail
  obtain ⟨w3, hw3⟩ : ∃ Z, (((w1.alloc (.cells #[.int .i64 0, .int .i64 0] 24)).alloc (.cells #[.int .i64 a, .int .i64 b, .int .i64 c] 3)).alloc (.cells #[.int .i64 0, .int .i64 0] 24)) = Z := ⟨_, rfl⟩
  rw [hw3] at F3 G3 L3 HB3 hsz
  (try rw [hw3])
  obtain ⟨q, hq⟩ : ∃ q, w1.heap.size = q := ⟨_, rfl⟩
  rw [hq] at F3 G3 L3 hsz hw1
  (try rw [hq])
  clear hw3 hq e1 e2 hb F1 B1 B2 B3 CL HF hok
  have t0 := cell_three L3.out (j := 0) rfl
  have t1 := cell_three L3.out (j := 1) rfl
  have t2 := cell_three L3.out (j := 2) rfl
  obtain ⟨g0', g1', _, _⟩ := G3.out.cells
  refine wp_loop_rounds 4 ?_
  rw [rounds_succ]
  go_wp2_with fail
  rw [rounds_succ]
  go_wp2_with fail
  rw [rounds_succ]
  go_wp2_with fail
  rw [rounds_succ]
  go_wp2_with fail
  refine (CG _).out.mono ?_
  rintro e w4 ⟨rfl, rfl⟩
  go_wp2_with fail
  refine (CW _).out.mono ?_
  rintro e w8 ⟨rfl, hb⟩
  have F8 := F3.out.below hb
  have G8 := G3.out.below hb
  have HB8 := hide (HB3.out.trans (hb.mono HB3.out.size))
  obtain ⟨a0, a1, _, _⟩ := F8.cells
  obtain ⟨b0, b1, _, _⟩ := G8.cells
  clear hb F8 G8 F3 G3 L3 HB3 t0 t1 t2 g0' g1'
  go_wp2_with fail
  refine (CS _).out.mono ?_
  rintro e w4 ⟨rfl, rfl⟩
  go_wp2_with fail
  refine (CG _).out.mono ?_
  rintro e w4 ⟨rfl, rfl⟩
  go_wp2_with fail
  refine (CO _).out.mono ?_
  rintro e w9 ⟨g, rfl, hg, hI, hb⟩
  have HB9 := hide (HB8.out.trans (hb.mono HB8.out.size))
  have HI := hide hI
  clear hb hI
  go_wp2_with fail
  refine (CC _).out.mono ?_
  rintro e w10 ⟨g', rfl, hg', hI', hb⟩
  have HB10 := hide (HB9.out.trans (hb.mono HB9.out.size))
  rw [HSOL.out] at HI
  have CP := hide (cmp_int _ _ c c w10 (HI.out.below hb) hI' (lim_256 (by have := HBS.out; omega)) (lim_256 (by have := HBS.out; omega)))
  unfold RetCmp at CP
  rw [show icmp c c = 0 from by unfold icmp; simp] at CP
  have hb10 := hb
  clear hb hI'
  go_wp2_with fail
  refine CP.out.mono ?_
  rintro e w11 ⟨rfl, hb⟩
  have HB11 := hide (HB10.out.trans (hb.mono HB10.out.size))
  clear hb hb10
  go_wp2_with fail
  go_ret
  exact ⟨rfl, HB11.out⟩

theorem linear_row (a b c : Int) (w : World) :
    Calls Try.prog 4 #[.int .i64 a, .int .i64 b, .int .i64 c] w fun e w' => e = .returned (.bool true) ∧ Below w.heap.size w w' := by
  rcases bigK_cases a b c with ⟨h0, ha, hb, hc⟩ | ⟨k, hk, h0, hlow, x, hx, hbad⟩
  · by_cases hb0 : b = 0
    · exact linear_b0 a b c w ha hb hc hb0 (by unfold linF; rw [if_neg (fun h => h h0), if_pos hb0])
    · by_cases hcg : c % (Int.gcd a b : Int) = 0
      · exact linear_ok a b c w ha hb hc hb0 hcg (by unfold linF; rw [if_neg (fun h => h h0), if_neg hb0, if_neg (fun h => h hcg)])
      · exact linear_cg a b c w ha hb hc hb0 hcg (by unfold linF; rw [if_neg (fun h => h h0), if_neg hb0, if_pos hcg])
  · exact linear_bad a b c w k hk hlow x hx hbad (by unfold linF; rw [h0, if_pos (by simp)])
end Go.Proofs.Ytgocnjklpafabaa
