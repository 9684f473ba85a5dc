/- The walk of the law EquationLegendre: no fault of single numbers. -/
import Derived.Test.YtlchmaiflcnaoaaKLgdO
import Derived.Test.YtlchmaiflcnaoaaKLgdK
import Derived.Deep.LoopGhost
namespace Go.Proofs.Ytlchmaiflcnaoaa
open Go.RowKit

set_option maxRecDepth 100000 in
set_option maxHeartbeats 3200000 in
theorem lglaw_none (a b c : Int) (w : World) (h : Lg3 a b c) (hlow : ∀ q, 2 ≤ q → ¬ (a * b * c).natAbs % (q * q) = 0) (hB : lgB a b c = false) :
    Calls Try.prog 6 #[.int .i64 a, .int .i64 b, .int .i64 c] w fun e w' => e = .returned (.bool true) ∧ Below w.heap.size w w' := by
  have CW := fun W => hide (eqBegun_any W)
  have CL := hide (legendre_main a b c w h (fun q h1 _ => hlow q h1))
  have CF := fun W => hide (refF_any 5 0 W)
  have CH := fun W => hide (legHas_any a b c W h.1 h.2 h.3 (by have := h.4; omega) (by have := h.5; omega) (by have := h.6; omega))
  rw [hB] at CH
  have HNO : Hid (∀ x y z : Nat, Nat.gcd x (Nat.gcd y z) = 1 → ¬ a * x * x + b * y * y + c * z * z = 0) := fun x y z hg he => by
    have k := (lgB_iff h.1 h.2 h.3).2 (legendre_back (x := x) (y := y) (z := z) h.1 h.2 h.3 (sqf_of hlow) (by
      rcases Nat.eq_zero_or_pos x with rfl | hx
      · rcases Nat.eq_zero_or_pos y with rfl | hy
        · refine .inr (.inr ?_)
          intro hz
          obtain rfl : z = 0 := by omega
          simp at hg
        · exact .inr (.inl (by omega))
      · exact .inl (by omega)) he)
    rw [hB] at k
    cases k
  obtain ⟨v1, v2', v3, v4⟩ := h.prod
  obtain ⟨P, hP⟩ : ∃ P, a * b * c = P := ⟨_, rfl⟩
  have v2 := v2'.trans hP
  clear v2'
  rw [hP] at v3
  rw [hP] at hlow
  have HP0 := hide hP
  have HLO := hide hlow
  obtain ⟨h1, h2, h3, h4, h5, h6⟩ := h
  have HT0 := hide (show a ≠ 0 ∧ -1000 ≤ a ∧ a ≤ 1000 from ⟨h1, h4⟩)
  have HT1 := hide (show b ≠ 0 ∧ -1000 ≤ b ∧ b ≤ 1000 from ⟨h2, h5⟩)
  have HT2 := hide (show c ≠ 0 ∧ -1000 ≤ c ∧ c ≤ 1000 from ⟨h3, h6⟩)
  clear hlow hP h1 h2 h3 h4 h5 h6 v3 v4 hB
  go_enter Try.func6, Try.ntmps6
  go_wp2_with fail
  refine CL.out.mono ?_
  rintro e w1 ⟨x, y, z, f, rfl, hok, hb⟩
  obtain ⟨rfl, rfl, rfl, rfl⟩ : f = (5, 0) ∧ x = 0 ∧ y = 0 ∧ z = 0 := by
    rcases hok with ⟨_, k1, k2, _⟩ | ⟨k1, k2, k3, k4, _⟩
    · exact absurd k1 (HNO.out x y z k2)
    · exact ⟨k1, k2, k3, k4⟩
  clear hok HNO
  simp only [fv]
  have F1 := FC.made w1 5 0
  have B1 := bel_e w1 (.cells #[.int .i64 5, .int .i64 0] 26)
  have B2 := bel_e (w1.alloc (.cells #[.int .i64 5, .int .i64 0] 26)) (.cells #[.int .i64 a, .int .i64 b, .int .i64 c] 3)
  have B3 := bel_e ((w1.alloc (.cells #[.int .i64 5, .int .i64 0] 26)).alloc (.cells #[.int .i64 a, .int .i64 b, .int .i64 c] 3)) (.cells #[.int .i64 0, .int .i64 0] 26)
  have F3 := hide ((F1.below B2).below B3)
  have G3 := hide (FC.made ((w1.alloc (.cells #[.int .i64 5, .int .i64 0] 26)).alloc (.cells #[.int .i64 a, .int .i64 b, .int .i64 c] 3)) 0 0)
  have L3 := hide ((B3.block _ (by simp)).trans (heap_alloc_new (w1.alloc (.cells #[.int .i64 5, .int .i64 0] 26)) (.cells #[.int .i64 a, .int .i64 b, .int .i64 c] 3)))
  have HB3 := hide (((hb.trans (B1.mono hb.size)).trans (B2.mono (hb.trans (B1.mono hb.size)).size)).trans (B3.mono ((hb.trans (B1.mono hb.size)).trans (B2.mono (hb.trans (B1.mono hb.size)).size)).size))
  have e1 : (w1.alloc (.cells #[.int .i64 5, .int .i64 0] 26)).heap.size = w1.heap.size + 1 := World.size_alloc ..
  have e2 : ((w1.alloc (.cells #[.int .i64 5, .int .i64 0] 26)).alloc (.cells #[.int .i64 a, .int .i64 b, .int .i64 c] 3)).heap.size = w1.heap.size + 1 + 1 := by rw [World.size_alloc, e1]
  rw [e2] at G3
  rw [e1] at L3
  have hsz : w1.heap.size + 1 + 1 < (((w1.alloc (.cells #[.int .i64 5, .int .i64 0] 26)).alloc (.cells #[.int .i64 a, .int .i64 b, .int .i64 c] 3)).alloc (.cells #[.int .i64 0, .int .i64 0] 26)).heap.size := by simp
  have hw1 := hb.size
  go_wp2_with fail
  obtain ⟨w3, hw3⟩ : ∃ Z, (((w1.alloc (.cells #[.int .i64 5, .int .i64 0] 26)).alloc (.cells #[.int .i64 a, .int .i64 b, .int .i64 c] 3)).alloc (.cells #[.int .i64 0, .int .i64 0] 26)) = Z := ⟨_, rfl⟩
  rw [hw3] at F3 G3 L3 HB3 hsz
  (try rw [hw3])
  obtain ⟨q, hq⟩ : ∃ q, w1.heap.size = q := ⟨_, rfl⟩
  rw [hq] at F3 G3 L3 hsz hw1
  (try rw [hq])
  clear hw3 hq e1 e2 hb F1 B1 B2 B3 CL
  have t0 := cell_three L3.out (j := 0) rfl
  have t1 := cell_three L3.out (j := 1) rfl
  have t2 := cell_three L3.out (j := 2) rfl
  obtain ⟨g0', g1', _, _⟩ := G3.out.cells
  obtain ⟨T1, T2, T3⟩ := lg_no HT0.out
  obtain ⟨T4, T5, T6⟩ := lg_no HT1.out
  obtain ⟨T7, T8, T9⟩ := lg_no HT2.out
  refine wp_loop_rounds 4 ?_
  rw [rounds_succ]
  go_wp2_with fail
  rw [rounds_succ]
  go_wp2_with fail
  rw [rounds_succ]
  go_wp2_with fail
  rw [rounds_succ]
  go_wp2_with fail
  clear t0 t1 t2 T1 T2 T3 T4 T5 T6 T7 T8 T9
  go_loop [14] (fun iv => ∃ j : Nat, iv = .int .i64 j ∧ 2 ≤ j ∧ Hid (j ≤ 32000)) (fun iv => 32000 - (intOf iv).toNat)
  case atStart => exact ⟨2, rfl, by omega, hide (by omega)⟩
  case round =>
    obtain ⟨j, rfl, hj2, hj0⟩ := hrel
    have hj := hj0.out
    clear hj0
    have m0 := Nat.mul_le_mul hj hj
    have m1 := Nat.mul_le_mul hj2 hj2
    have hlo := HLO.out j hj2
    obtain ⟨M, hM⟩ : ∃ M, j * j = M := ⟨_, rfl⟩
    have wM : IntKind.i64.wrap ((j : Int) * (j : Int)) = (M : Int) := by rw [← hM, IntKind.wrap_i64]; simp only [← Int.natCast_mul]; omega
    rw [hM] at m0 m1 hlo
    by_cases hjk : j < 32000
    · have q0 := fun e => hlo (tmod_natL.1 e)
      obtain ⟨r, hr⟩ : ∃ r, P.tmod (M : Int) = r := ⟨_, rfl⟩
      rw [hr] at q0
      have q1 : (r == 0) = false := by simpa using q0
      have hj5 : decide ((j : Int) < 32000) = true := by rw [decide_eq_true_eq]; omega
      have hj6 : decide (j < 32000) = true := by rw [decide_eq_true_eq]; omega
      clear hM hlo q0 CW CH m0 hj
      go_wp2_with fail
      go_round
      case rel => exact ⟨j + 1, by go_num, by omega, hide (by omega)⟩
      case measure => simp [intOf]; omega
    · have hj5 : decide ((j : Int) < 32000) = false := by rw [decide_eq_false_iff_not]; omega
      have hj6 : decide (j < 32000) = false := by rw [decide_eq_false_iff_not]; omega
      clear hM hlo wM m0 m1 hj hj2 hjk
      go_wp2_with fail
      refine (CH _).out.mono ?_
      rintro e w4 ⟨rfl, rfl⟩
      go_wp2_with fail
      refine (CF _).out.mono ?_
      rintro e w4 ⟨rfl, hb⟩
      have F4 := F3.out.below hb
      have G4 := G3.out.below hb
      have HB4 := HB3.out.trans (hb.mono HB3.out.size)
      have hq4 : q + 1 + 1 < w4.heap.size := Nat.lt_of_lt_of_le hsz hb.size
      obtain ⟨g0, g1, k0, k1⟩ := G4.cells
      have F5 := hide (show FC ((w4.setCell ⟨q + 1 + 1, 0, none⟩ (.int .i64 5)).setCell ⟨q + 1 + 1, 1, none⟩ (.int .i64 0)) q 5 0 from (far_set _ _ (by omega)).trans ((far_set w4 _ (by omega)).trans F4))
      have G5 := hide ((G4.set0 5).set1 0)
      have HB5 := hide (below_fault (u := .int .i64 5) (v := .int .i64 0) HB4 (show w.heap.size ≤ q + 1 + 1 by omega))
      clear hb F4 G4 HB4
      go_wp2_with fail
      refine (CW _).out.mono ?_
      rintro e w8 ⟨rfl, hb⟩
      have F8 := F5.out.below hb
      have G8 := G5.out.below hb
      have HB8 := hide (HB5.out.trans (hb.mono HB5.out.size))
      obtain ⟨a0, a1, _, _⟩ := F8.cells
      obtain ⟨b0, b1, _, _⟩ := G8.cells
      clear hb F8 G8
      go_wp2_with fail
      go_ret
      exact ⟨rfl, HB8.out⟩

/-- the check's memory -/
structure LgC (w W : World) (gl gs gv : Nat) (a b c x y z S : Int) : Prop where
  l : OB W gl #[.int .i64 a, .int .i64 b, .int .i64 c] 3
  v : OB W gv #[.int .i64 x, .int .i64 y, .int .i64 z] 3
  s : IntAt W gs S
  b : Below w.heap.size w W
  n1 : gl ≠ gs
  n2 : gv ≠ gs
  n3 : w.heap.size ≤ gs
theorem lgs_small {a b c : Int} {x y z : Nat} (ha : -1000 ≤ a ∧ a ≤ 1000) (hb : -1000 ≤ b ∧ b ≤ 1000) (hc : -1000 ≤ c ∧ c ≤ 1000) (hx : x ≤ 1500000) (hy : y ≤ 1500000) (hz : z ≤ 1500000) (i : Nat) (hi : i < 3) :
    0 ≤ tri (x : Int) (y : Int) (z : Int) i ∧ tri (x : Int) (y : Int) (z : Int) i ≤ 1500000 ∧ (-1000 ≤ tri a b c i ∧ tri a b c i ≤ 1000) ∧ (tri (x : Int) (y : Int) (z : Int) i * tri (x : Int) (y : Int) (z : Int) i).natAbs ≤ 2250000000000 ∧ (tri a b c i * (tri (x : Int) (y : Int) (z : Int) i * tri (x : Int) (y : Int) (z : Int) i)).natAbs ≤ 2250000000000000 ∧ (lgs a b c x y z i).natAbs ≤ 4500000000000000 ∧ (lgs a b c x y z i + tri a b c i * (tri (x : Int) (y : Int) (z : Int) i * tri (x : Int) (y : Int) (z : Int) i)).natAbs ≤ 6750000000000000 := by
  have tr : ∀ j, j < 3 → 0 ≤ tri (x : Int) (y : Int) (z : Int) j ∧ tri (x : Int) (y : Int) (z : Int) j ≤ 1500000 ∧ (-1000 ≤ tri a b c j ∧ tri a b c j ≤ 1000) ∧ (tri (x : Int) (y : Int) (z : Int) j * tri (x : Int) (y : Int) (z : Int) j).natAbs ≤ 2250000000000 ∧ (tri a b c j * (tri (x : Int) (y : Int) (z : Int) j * tri (x : Int) (y : Int) (z : Int) j)).natAbs ≤ 2250000000000000 := fun j hj => by
    have k1 : 0 ≤ tri (x : Int) (y : Int) (z : Int) j ∧ tri (x : Int) (y : Int) (z : Int) j ≤ 1500000 := by
      unfold tri; split
      · omega
      · split <;> omega
    have k2 : -1000 ≤ tri a b c j ∧ tri a b c j ≤ 1000 := by
      unfold tri; split
      · omega
      · split <;> omega
    have k3 := abs_mul_le (x := tri (x : Int) (y : Int) (z : Int) j) (y := tri (x : Int) (y : Int) (z : Int) j) (p := 1500000) (q := 1500000) (by omega) (by omega)
    have k4 := abs_mul_le (x := tri a b c j) (y := tri (x : Int) (y : Int) (z : Int) j * tri (x : Int) (y : Int) (z : Int) j) (p := 1000) (q := 2250000000000) (by omega) (by omega)
    exact ⟨k1.1, k1.2, k2, by omega, by omega⟩
  have hs : (lgs a b c x y z i).natAbs ≤ 4500000000000000 := by
    have t0 := tr 0 (by omega)
    have t1 := tr 1 (by omega)
    rcases (by omega : i = 0 ∨ i = 1 ∨ i = 2) with rfl | rfl | rfl <;> simp only [lgs] <;> omega
  have ti := tr i hi
  exact ⟨ti.1, ti.2.1, ti.2.2.1, ti.2.2.2.1, ti.2.2.2.2, hs, by omega⟩
theorem OB.grown {W W' : World} {g gs : Nat} {vs : Array Value} {T : TypeId} (h : OB W g vs T) (hg : W.grownBy W' (some gs)) (hn : g ≠ gs) : OB W' g vs T := (hg.block g h.lt (fun e => hn (by injection e))).trans h

set_option maxRecDepth 100000 in
set_option maxHeartbeats 3200000 in
theorem lglaw_ok (a b c : Int) (w : World) (h : Lg3 a b c) (hlow : ∀ q, 2 ≤ q → ¬ (a * b * c).natAbs % (q * q) = 0) (hB : lgB a b c = true) :
    Calls Try.prog 6 #[.int .i64 a, .int .i64 b, .int .i64 c] w fun e w' => e = .returned (.bool true) ∧ Below w.heap.size w w' := by
  have CW := fun W => hide (eqBegun_any W)
  have CL := hide (legendre_main a b c w h (fun q h1 _ => hlow q h1))
  have CH := fun W => hide (legHas_any a b c W h.1 h.2 h.3 (by have := h.4; omega) (by have := h.5; omega) (by have := h.6; omega))
  rw [hB] at CH
  have HYES : Hid (HZ a b c) := hide (holzer h.1 h.2 h.3 (sqf_of hlow) ((lgB_iff h.1 h.2 h.3).1 hB))
  obtain ⟨v1, v2', v3, v4⟩ := h.prod
  obtain ⟨P, hP⟩ : ∃ P, a * b * c = P := ⟨_, rfl⟩
  have v2 := v2'.trans hP
  clear v2'
  rw [hP] at v3
  rw [hP] at hlow
  have HP0 := hide hP
  have HLO := hide hlow
  obtain ⟨h1, h2, h3, h4, h5, h6⟩ := h
  have HT0 := hide (show a ≠ 0 ∧ -1000 ≤ a ∧ a ≤ 1000 from ⟨h1, h4⟩)
  have HT1 := hide (show b ≠ 0 ∧ -1000 ≤ b ∧ b ≤ 1000 from ⟨h2, h5⟩)
  have HT2 := hide (show c ≠ 0 ∧ -1000 ≤ c ∧ c ≤ 1000 from ⟨h3, h6⟩)
  clear hlow hP h1 h2 h3 h4 h5 h6 v3 v4 hB
  go_enter Try.func6, Try.ntmps6
  go_wp2_with fail
  refine CL.out.mono ?_
  rintro e w1 ⟨x, y, z, f, rfl, hok, hb⟩
  obtain ⟨rfl, hsol, hgcd, hx, hy, hz⟩ : f = (0, 0) ∧ a * x * x + b * y * y + c * z * z = 0 ∧ Nat.gcd x (Nat.gcd y z) = 1 ∧ x ≤ 1500000 ∧ y ≤ 1500000 ∧ z ≤ 1500000 := by
    rcases hok with k | ⟨_, _, _, _, k⟩
    · exact k
    · exact absurd HYES.out k
  have HSOL := hide hsol
  have HGCD := hide hgcd
  have HXYZ := hide (And.intro hx (And.intro hy hz))
  clear hok HYES hsol hgcd hx hy hz
  simp only [fv]
  have F1 := FC.made w1 0 0
  have B1 := bel_e w1 (.cells #[.int .i64 0, .int .i64 0] 26)
  have B2 := bel_e (w1.alloc (.cells #[.int .i64 0, .int .i64 0] 26)) (.cells #[.int .i64 a, .int .i64 b, .int .i64 c] 3)
  have B3 := bel_e ((w1.alloc (.cells #[.int .i64 0, .int .i64 0] 26)).alloc (.cells #[.int .i64 a, .int .i64 b, .int .i64 c] 3)) (.cells #[.int .i64 0, .int .i64 0] 26)
  have F3 := hide ((F1.below B2).below B3)
  have G3 := hide (FC.made ((w1.alloc (.cells #[.int .i64 0, .int .i64 0] 26)).alloc (.cells #[.int .i64 a, .int .i64 b, .int .i64 c] 3)) 0 0)
  have L3 := hide ((B3.block _ (by simp)).trans (heap_alloc_new (w1.alloc (.cells #[.int .i64 0, .int .i64 0] 26)) (.cells #[.int .i64 a, .int .i64 b, .int .i64 c] 3)))
  have HB3 := hide (((hb.trans (B1.mono hb.size)).trans (B2.mono (hb.trans (B1.mono hb.size)).size)).trans (B3.mono ((hb.trans (B1.mono hb.size)).trans (B2.mono (hb.trans (B1.mono hb.size)).size)).size))
  have e1 : (w1.alloc (.cells #[.int .i64 0, .int .i64 0] 26)).heap.size = w1.heap.size + 1 := World.size_alloc ..
  have e2 : ((w1.alloc (.cells #[.int .i64 0, .int .i64 0] 26)).alloc (.cells #[.int .i64 a, .int .i64 b, .int .i64 c] 3)).heap.size = w1.heap.size + 1 + 1 := by rw [World.size_alloc, e1]
  rw [e2] at G3
  rw [e1] at L3
  have hsz : w1.heap.size + 1 + 1 < (((w1.alloc (.cells #[.int .i64 0, .int .i64 0] 26)).alloc (.cells #[.int .i64 a, .int .i64 b, .int .i64 c] 3)).alloc (.cells #[.int .i64 0, .int .i64 0] 26)).heap.size := by simp
  have hw1 := hb.size
  go_wp2_with fail
  obtain ⟨w3, hw3⟩ : ∃ Z, (((w1.alloc (.cells #[.int .i64 0, .int .i64 0] 26)).alloc (.cells #[.int .i64 a, .int .i64 b, .int .i64 c] 3)).alloc (.cells #[.int .i64 0, .int .i64 0] 26)) = Z := ⟨_, rfl⟩
  rw [hw3] at F3 G3 L3 HB3 hsz
  (try rw [hw3])
  obtain ⟨q, hq⟩ : ∃ q, w1.heap.size = q := ⟨_, rfl⟩
  rw [hq] at F3 G3 L3 hsz hw1
  (try rw [hq])
  clear hw3 hq e1 e2 hb F1 B1 B2 B3 CL
  have t0 := cell_three L3.out (j := 0) rfl
  have t1 := cell_three L3.out (j := 1) rfl
  have t2 := cell_three L3.out (j := 2) rfl
  obtain ⟨g0', g1', _, _⟩ := G3.out.cells
  obtain ⟨T1, T2, T3⟩ := lg_no HT0.out
  obtain ⟨T4, T5, T6⟩ := lg_no HT1.out
  obtain ⟨T7, T8, T9⟩ := lg_no HT2.out
  refine wp_loop_rounds 4 ?_
  rw [rounds_succ]
  go_wp2_with fail
  rw [rounds_succ]
  go_wp2_with fail
  rw [rounds_succ]
  go_wp2_with fail
  rw [rounds_succ]
  go_wp2_with fail
  clear t0 t1 t2 T1 T2 T3 T4 T5 T6 T7 T8 T9
  go_loop [14] (fun iv => ∃ j : Nat, iv = .int .i64 j ∧ 2 ≤ j ∧ Hid (j ≤ 32000)) (fun iv => 32000 - (intOf iv).toNat)
  case atStart => exact ⟨2, rfl, by omega, hide (by omega)⟩
  case round =>
    obtain ⟨j, rfl, hj2, hj0⟩ := hrel
    have hj := hj0.out
    clear hj0
    have m0 := Nat.mul_le_mul hj hj
    have m1 := Nat.mul_le_mul hj2 hj2
    have hlo := HLO.out j hj2
    obtain ⟨M, hM⟩ : ∃ M, j * j = M := ⟨_, rfl⟩
    have wM : IntKind.i64.wrap ((j : Int) * (j : Int)) = (M : Int) := by rw [← hM, IntKind.wrap_i64]; simp only [← Int.natCast_mul]; omega
    rw [hM] at m0 m1 hlo
    by_cases hjk : j < 32000
    · have q0 := fun e => hlo (tmod_natL.1 e)
      obtain ⟨r, hr⟩ : ∃ r, P.tmod (M : Int) = r := ⟨_, rfl⟩
      rw [hr] at q0
      have q1 : (r == 0) = false := by simpa using q0
      have hj5 : decide ((j : Int) < 32000) = true := by rw [decide_eq_true_eq]; omega
      have hj6 : decide (j < 32000) = true := by rw [decide_eq_true_eq]; omega
      clear hM hlo q0 CW CH m0 hj
      go_wp2_with fail
      go_round
      case rel => exact ⟨j + 1, by go_num, by omega, hide (by omega)⟩
      case measure => simp [intOf]; omega
    · have hj5 : decide ((j : Int) < 32000) = false := by rw [decide_eq_false_iff_not]; omega
      have hj6 : decide (j < 32000) = false := by rw [decide_eq_false_iff_not]; omega
      clear hM hlo wM m0 m1 hj hj2 hjk
      go_wp2_with fail
      refine (CH _).out.mono ?_
      rintro e w4 ⟨rfl, rfl⟩
      go_wp2_with fail
      refine (CW _).out.mono ?_
      rintro e w8 ⟨rfl, hb⟩
      have F8 := F3.out.below hb
      have G8 := G3.out.below hb
      have L8 := (show OB _ _ _ _ from L3.out).below hb
      have HB8 := hide (HB3.out.trans (hb.mono HB3.out.size))
      have hq8 : q + 1 + 1 < w8.heap.size := Nat.lt_of_lt_of_le hsz hb.size
      obtain ⟨a0, a1, _, _⟩ := F8.cells
      obtain ⟨b0, b1, _, _⟩ := G8.cells
      have HL8 := hide L8
      clear hb F8 G8 F3 G3 L3 HB3 g0' g1' L8
      go_wp2_with fail
      refine (b_any 0 _ (by omega) (by omega)).mono ?_
      rintro e w9 ⟨gs, rfl, hg9, hI9, hb9⟩
      have HC : Hid (LgC w (w9.alloc (.cells #[.int .i64 x, .int .i64 y, .int .i64 z] 3)) (q + 1) gs w9.heap.size a b c x y z (lgs a b c x y z 0)) := by
        have k1 := bel_e w9 (.cells #[.int .i64 x, .int .i64 y, .int .i64 z] 3)
        have k2 := hI9.below k1
        have k3 : gs < w9.heap.size := hI9.blk.lt
        exact ⟨(HL8.out.below hb9).below k1, OB.made _ _ _, k2, (HB8.out.trans (hb9.mono HB8.out.size)).trans (k1.mono (Nat.le_trans HB8.out.size hb9.size)), by omega, by omega, by have := HB8.out.size; omega⟩
      obtain ⟨WA, hWA⟩ : ∃ Z, w9.alloc (.cells #[.int .i64 x, .int .i64 y, .int .i64 z] 3) = Z := ⟨_, rfl⟩
      obtain ⟨gv, hgv⟩ : ∃ Z, w9.heap.size = Z := ⟨_, rfl⟩
      rw [hWA, hgv] at HC
      clear hb9 hg9 hI9 HL8 HB8
      go_wp2_with fail
      (try rw [hWA])
      (try rw [hgv])
      clear hWA hgv
      go_loopw [17] (fun iv wr => ∃ i : Nat, i ≤ 3 ∧ iv = .int .i64 i ∧ Hid (LgC w wr (q + 1) gs gv a b c x y z (lgs a b c x y z i))) (fun iv _ => 3 - (intOf iv).toNat)
      case atStart => exact ⟨0, by omega, rfl, HC⟩
      case round =>
        clear HC
        obtain ⟨i, hi, rfl, HC⟩ := hrel
        by_cases hi3 : i < 3
        · have c1 := tri_cell HC.out.l hi3
          have c2 := tri_cell HC.out.v hi3
          have KK := fun (W : World) (k : wr.grownBy W (some gs)) => hide (And.intro (tri_cell (HC.out.l.grown k HC.out.n1) hi3) (tri_cell (HC.out.v.grown k HC.out.n2) hi3))
          have hS0 := lgs_small (a := a) (b := b) (c := c) (x := x) (y := y) (z := z) HT0.out.2 HT1.out.2 HT2.out.2 HXYZ.out.1 HXYZ.out.2.1 HXYZ.out.2.2 i hi3
          have hSn : lgs a b c x y z (i + 1) = lgs a b c x y z i + tri a b c i * (tri x y z i * tri x y z i) := rfl
          obtain ⟨L, hL⟩ : ∃ L, tri a b c i = L := ⟨_, rfl⟩
          obtain ⟨V, hV⟩ : ∃ L, tri (x : Int) (y : Int) (z : Int) i = L := ⟨_, rfl⟩
          obtain ⟨S, hS⟩ : ∃ L, lgs a b c x y z i = L := ⟨_, rfl⟩
          rw [hL] at c1 KK hS0 hSn
          rw [hV] at c2 KK hS0 hSn
          rw [hS] at HC hS0 hSn
          have HSN := hide hSn
          have q1 : decide (V < 0) = false := by rw [decide_eq_false_iff_not]; omega
          have HPB : Hid ((-9223372036854775808 ≤ L ∧ L ≤ 9223372036854775807) ∧ -9223372036854775808 ≤ V ∧ V ≤ 9223372036854775807) := hide (by omega)
          have HLM : Hid ((V.natAbs < lim ∧ (V * V).natAbs < lim ∧ L.natAbs < lim) ∧ (L * (V * V)).natAbs < lim ∧ S.natAbs < lim ∧ (S + L * (V * V)).natAbs < lim) := hide (by
            obtain ⟨_, _, _, k1, k2, k3, k4⟩ := hS0
            exact ⟨⟨lim_256 (by omega), lim_256 (by omega), lim_256 (by omega)⟩, lim_256 (by omega), lim_256 (by omega), lim_256 (by omega)⟩)
          have q2 : (i : Int) < 3 := by omega
          clear hS0 hSn hL hV hS CW CH
          have O : Hid (Own wr wr []) := hide (Own.start wr)
          have K := fun (W : World) (k : wr.grownBy W (some gs)) => hide (show (W.cell? ⟨q + 1, i, none⟩ = some (.int .i64 L) ∧ W.cell? ⟨gv, i, none⟩ = some (.int .i64 V)) ∧ Hid (wr.grownBy W (some gs)) from ⟨⟨(KK W k).out.1, (KK W k).out.2⟩, hide k⟩)
          clear KK
          go_wp2_with fail
          go_region_held3 (fun W => (W.cell? ⟨q + 1, i, none⟩ = some (.int .i64 L) ∧ W.cell? ⟨gv, i, none⟩ = some (.int .i64 V)) ∧ Hid (wr.grownBy W (some gs))) (first | exact (K _ (grown_of_below _ O.out.bel)).out | exact (K _ (grown_of_below _ O.out.drw.bel)).out | exact (K _ (grown_of_below _ O.out.new.bel)).out | exact (K _ (grown_of_below _ O.out.new.drw.bel)).out | exact (K _ (grown_of_below _ O.out.drw.new.bel)).out | exact (K _ (grown_of_below _ (new2L O.out).bel)).out | exact (K _ (grown_of_below _ (new2L O.out).drw.bel)).out | exact (K _ hgr.out).out) (first | (go_at_call 14; refine calls_mono (b_own (by first | exact O.out | exact O.out.drw | exact O.out.new | exact O.out.new.drw | exact O.out.drw.new | exact new2L O.out | exact (new2L O.out).drw) _ (by have := HPB.out; omega) (by have := HPB.out; omega)) ?_; rintro e w5 ⟨g5, rfl, O'⟩; have O := hide O'; clear O') | (go_at_call 27; refine calls_mono (mul_own (by first | exact O.out | exact O.out.drw | exact O.out.new | exact O.out.new.drw | exact O.out.drw.new | exact new2L O.out | exact (new2L O.out).drw) _ _ _ (by first | exact at0 | exact at1 | exact at2 | exact at3 | exact at4) (by first | exact at0 | exact at1 | exact at2 | exact at3 | exact at4) (by first | exact at0 | exact at1 | exact at2 | exact at3 | exact at4) (by first | with_reducible exact HLM.out.1.1 | with_reducible exact HLM.out.1.2.2) (by first | with_reducible exact HLM.out.1.1 | with_reducible exact HLM.out.1.2.1) (by first | with_reducible exact HLM.out.1.2.1 | with_reducible exact HLM.out.2.1)) ?_; rintro e w5 ⟨rfl, O'⟩; simp only [List.set] at O'; have O := hide O'; clear O') | (go_at_call 26; refine calls_mono (add_int gs gs _ S (L * (V * V)) _ (HC.out.s.below O.out.bel).blk (HC.out.s.below O.out.bel) (O.out.at_ _ _ _ (by first | exact at0 | exact at1 | exact at2 | exact at3 | exact at4)) HLM.out.2.2.1 HLM.out.2.1 HLM.out.2.2.2) ?_; rintro e w6 ⟨rfl, hI6, hgr6⟩; have hgr := hide (grown_after O.out.bel hgr6)))
          all_goals as_aux_lemma =>
            have HC2 : Hid (LgC w _ (q + 1) gs gv a b c x y z (S + L * (V * V))) := hide ⟨HC.out.l.grown hgr.out HC.out.n1, HC.out.v.grown hgr.out HC.out.n2, hI6, below_of_grown HC.out.b hgr.out HC.out.b.size HC.out.n3, HC.out.n1, HC.out.n2, HC.out.n3⟩
            clear HC O K hgr hgr6 hI6
            go_wp2_with fail
            go_roundw
            case rel => exact ⟨i + 1, by omega, by go_num, by rw [HSN.out]; exact HC2⟩
            case measure => simp [intOf]; omega
        · obtain rfl : i = 3 := by omega
          rw [lgs_three, HSOL.out] at HC
          have CS := fun W (hI : IntAt W gs 0) => hide (sign_int gs 0 W hI (lim_256 (by omega)))
          have hg1 := gcd_le_add y z
          have hb3 := HXYZ.out
          obtain ⟨G1, hG1⟩ : ∃ G, Nat.gcd y z = G := ⟨_, rfl⟩
          have CG1 : ∀ W, Hid (Calls Try.prog 29 #[.int .i64 (y : Int), .int .i64 (z : Int)] W fun e w' => e = .returned (.int .i64 (G1 : Int)) ∧ w' = W) := fun W => hide (by
            rw [← hG1]
            exact refGcd_any _ _ W (by omega) (by omega) (by omega) (by omega))
          have CG2 : ∀ W, Hid (Calls Try.prog 29 #[.int .i64 (x : Int), .int .i64 (G1 : Int)] W fun e w' => e = .returned (.int .i64 1) ∧ w' = W) := fun W => hide (by
            have k := HGCD.out
            rw [hG1] at k
            have k2 := refGcd_any (x : Int) (G1 : Int) W (by omega) (by omega) (by omega) (by omega)
            rw [show Int.gcd (x : Int) (G1 : Int) = Nat.gcd x G1 from rfl, k] at k2
            exact k2)
          clear hg1 hb3 hG1 CW CH
          go_wp2_with fail
          refine (CS _ HC.out.s).out.mono ?_
          rintro e w10 ⟨rfl, rfl⟩
          go_wp2_with fail
          refine (CG1 _).out.mono ?_
          rintro e w11 ⟨rfl, rfl⟩
          go_wp2_with fail
          refine (CG2 _).out.mono ?_
          rintro e w12 ⟨rfl, rfl⟩
          go_wp2_with fail
          go_ret
          exact ⟨rfl, HC.out.b⟩

theorem legendre_row (a b c : Int) (w : World) :
    Calls Try.prog 6 #[.int .i64 a, .int .i64 b, .int .i64 c] w fun e w' => e = .returned (.bool true) ∧ Below w.heap.size w w' := by
  rcases three_bad a b c with h | ⟨k, code, hk, hlow, hbad⟩
  · by_cases hf : ∃ p, 2 ≤ p ∧ (a * b * c).natAbs % (p * p) = 0
    · obtain ⟨p, hp2, hp⟩ := hf
      obtain ⟨q, hq2, hq1, hq⟩ := form_small h hp2 hp
      obtain ⟨m, hm, ⟨hm2, hm3⟩, hm4⟩ := least_of (P := fun q => 2 ≤ q ∧ (a * b * c).natAbs % (q * q) = 0) q ⟨hq2, hq⟩
      exact lglaw_form a b c w m h (by omega) hm2 hm3 (fun q h1 h2 h3 => hm4 q h2 ⟨h1, h3⟩)
    · have hlow : ∀ q, 2 ≤ q → ¬ (a * b * c).natAbs % (q * q) = 0 := fun q h1 h2 => hf ⟨q, h1, h2⟩
      cases hB : lgB a b c
      · exact lglaw_none a b c w h hlow hB
      · exact lglaw_ok a b c w h hlow hB
  · exact lglaw_bad a b c w k code hk hlow hbad
end Go.Proofs.Ytlchmaiflcnaoaa
