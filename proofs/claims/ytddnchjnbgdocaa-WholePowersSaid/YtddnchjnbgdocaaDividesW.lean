/- The walk of the law WholeDivides. -/
import Derived.Test.YtddnchjnbgdocaaBegunW
import Derived.Test.YtddnchjnbgdocaaRefB
namespace Go.Proofs.Ytddnchjnbgdocaa
open Go.RowKit

theorem gcd_small {a b : Int} {G N : Nat} (h : Int.gcd a b = G) (ha : a.natAbs ≤ N) (hb : b.natAbs ≤ N) : G ≤ N := by
  by_cases h0 : a = 0
  · subst h0
    rw [Int.gcd_zero_left] at h
    omega
  · have h1 := Nat.gcd_le_left b.natAbs (m := a.natAbs) (by omega)
    have h2 : Int.gcd a b = Nat.gcd a.natAbs b.natAbs := rfl
    omega
theorem FC.made (w : World) (x y : Int) : FC (w.alloc (.cells #[.int .i64 x, .int .i64 y] 24)) w.heap.size x y := by
  show (w.heap.push _)[w.heap.size]? = _
  simp

set_option maxRecDepth 100000 in
set_option maxHeartbeats 1600000 in
theorem divides_fault (a b i : Int) (w : World) (h : lookK 0 [a, b] = (3, i)) :
    Calls Try.prog 4 #[.int .i64 a, .int .i64 b] w fun e w' => e = .returned (.bool true) ∧ Below w.heap.size w w' := by
  have L : ∀ (W : World) (g : Nat), g = W.heap.size → Hid (Calls Try.prog 11 #[.slice (some ⟨g, 0, none⟩) 2 2] (W.alloc (.cells #[.int .i64 a, .int .i64 b] 3)) (RetFault (W.alloc (.cells #[.int .i64 a, .int .i64 b] 3)) (lookK 0 [a, b]))) := fun W g hg => hg ▸ numbersFault_any _ 2 2 [a, b] _ rfl (by omega) (ints_new W [a, b] _)
  have CG := fun W => hide (gcd_any a b W)
  have CB := fun W => hide (bezout_any a b W)
  have CW := fun W => hide (begun_any W)
  rw [h] at L
  unfold RetGcd at CG
  unfold RetBez at CB
  rw [h] at CG CB
  clear h
  go_enter Try.func4, Try.ntmps4
  go_wp2_with fail
  refine (L _ _ (by simp)).out.mono ?_
  rintro e w1 ⟨rfl, hb⟩
  simp only [fv]
  have HB := hide (below_new hb)
  clear hb
  go_wp2_with fail
  refine (CG _).out.mono ?_
  rintro e w2 ⟨d, rfl, _, hd, hb⟩
  obtain rfl := hd (by simp)
  simp only [fv]
  have F1 : FC w2 w1.heap.size 3 i := by
    refine FC.below ?_ hb
    show (w1.heap.push _)[w1.heap.size]? = _
    simp
  have HB1 := hide (HB.out.trans ((below_new hb).mono HB.out.size))
  have hlt1 := F1.lt
  clear hb
  go_wp2_with fail
  refine (CB _).out.mono ?_
  rintro e w3 ⟨g, u, v, rfl, _, hd, hb⟩
  obtain ⟨rfl, rfl, rfl⟩ := hd (by simp)
  simp only [fv]
  have G1 := (F1.below ((Below.refl _ _).alloc (Nat.le_refl _) (.cells #[.int .i64 3, .int .i64 i] 24))).below hb
  have G2 := (FC.made w2 3 i).below hb
  have HB2 := hide (HB1.out.trans ((below_new hb).mono HB1.out.size))
  have hl1 := G1.lt
  have hl2 := G2.lt
  clear hb F1 hlt1
  go_wp2_with fail
  refine (CW _).out.mono ?_
  rintro e w4 ⟨rfl, hb⟩
  have E1 := ((G1.below ((Below.refl _ _).alloc (Nat.le_refl _) (.cells #[.int .i64 3, .int .i64 i] 24))).below hb)
  have E2 := ((G2.below ((Below.refl _ _).alloc (Nat.le_refl _) (.cells #[.int .i64 3, .int .i64 i] 24))).below hb)
  have E3 := (FC.made w3 3 i).below hb
  have HB3 := hide (HB2.out.trans ((below_new hb).mono HB2.out.size))
  obtain ⟨a0, a1, _, _⟩ := E1.cells
  obtain ⟨b0, b1, _, _⟩ := E2.cells
  obtain ⟨c0, c1, _, _⟩ := E3.cells
  clear hb G1 G2 E1 E2 E3 hl1 hl2
  go_wp2_with fail
  go_ret
  exact ⟨rfl, HB3.out⟩
set_option maxRecDepth 100000 in
set_option maxHeartbeats 1600000 in
theorem divides_ok (a b : Int) (w : World) (h : lookK 0 [a, b] = (0, 0)) (ha : -1000000000000000000 ≤ a ∧ a ≤ 1000000000000000000) (hb : -1000000000000000000 ≤ b ∧ b ≤ 1000000000000000000) :
    Calls Try.prog 4 #[.int .i64 a, .int .i64 b] w fun e w' => e = .returned (.bool true) ∧ Below w.heap.size w w' := by
  have L : ∀ (W : World) (g : Nat), g = W.heap.size → Hid (Calls Try.prog 11 #[.slice (some ⟨g, 0, none⟩) 2 2] (W.alloc (.cells #[.int .i64 a, .int .i64 b] 3)) (RetFault (W.alloc (.cells #[.int .i64 a, .int .i64 b] 3)) (lookK 0 [a, b]))) := fun W g hg => hg ▸ numbersFault_any _ 2 2 [a, b] _ rfl (by omega) (ints_new W [a, b] _)
  have CG := fun W => hide (gcd_any a b W)
  have CB := fun W => hide (bezout_any a b W)
  have CW := fun W => hide (begun_any W)
  rw [h] at L
  unfold RetGcd at CG
  unfold RetBez at CB
  rw [h] at CG CB
  have HAB := hide (And.intro ha hb)
  have CR := fun W => hide (refGcd_any a b W ha.1 ha.2 hb.1 hb.2)
  clear h ha hb
  go_enter Try.func4, Try.ntmps4
  go_wp2_with fail
  refine (L _ _ (by simp)).out.mono ?_
  rintro e w1 ⟨rfl, hb⟩
  simp only [fv]
  have HB := hide (below_new hb)
  clear hb
  go_wp2_with fail
  refine (CG _).out.mono ?_
  rintro e w2 ⟨d, rfl, hd, _, hb⟩
  obtain rfl := hd trivial
  simp only [fv]
  have F1 : FC w2 w1.heap.size 0 0 := by
    refine FC.below ?_ hb
    show (w1.heap.push _)[w1.heap.size]? = _
    simp
  have HB1 := hide (HB.out.trans ((below_new hb).mono HB.out.size))
  have hlt1 := F1.lt
  clear hb
  go_wp2_with fail
  refine (CB _).out.mono ?_
  rintro e w3 ⟨g, u, v, rfl, hd, _, hb⟩
  have KB := hide (hd trivial)
  obtain rfl := KB.out.gcd
  clear hd
  simp only [fv]
  have G1 := (F1.below ((Below.refl _ _).alloc (Nat.le_refl _) (.cells #[.int .i64 0, .int .i64 0] 24))).below hb
  have G2 := (FC.made w2 0 0).below hb
  have HB2 := hide (HB1.out.trans ((below_new hb).mono HB1.out.size))
  have hl1 := G1.lt
  have hl2 := G2.lt
  clear hb F1 hlt1
  go_wp2_with fail
  refine (CW _).out.mono ?_
  rintro e w4 ⟨rfl, hb⟩
  have E1 := ((G1.below ((Below.refl _ _).alloc (Nat.le_refl _) (.cells #[.int .i64 0, .int .i64 0] 24))).below hb)
  have E2 := ((G2.below ((Below.refl _ _).alloc (Nat.le_refl _) (.cells #[.int .i64 0, .int .i64 0] 24))).below hb)
  have E3 := (FC.made w3 0 0).below hb
  have HB3 := hide (HB2.out.trans ((below_new hb).mono HB2.out.size))
  obtain ⟨a0, a1, _, _⟩ := E1.cells
  obtain ⟨b0, b1, _, _⟩ := E2.cells
  obtain ⟨c0, c1, _, _⟩ := E3.cells
  clear hb G1 G2 E1 E2 E3 hl1 hl2
  go_wp2_with fail
  obtain ⟨G, hG⟩ : ∃ G : Nat, Int.gcd a b = G := ⟨_, rfl⟩
  have KG := hide hG
  rw [hG] at KB CR ⊢
  clear hG
  refine (CR _).out.mono ?_
  rintro e w5 ⟨rfl, rfl⟩
  have hGb : G ≤ 1000000000000000000 := gcd_small KG.out (by have := HAB.out; omega) (by have := HAB.out; omega)
  have CC := fun W => hide (combined_any u a v b W (by have := KB.out.us; omega) (by have := HAB.out; omega) (by have := KB.out.vs; omega) (by have := HAB.out; omega))
  rw [KB.out.eq] at CC
  have CBB := fun W => hide (b_any (G : Int) W (by omega) (by omega))
  go_wp2_with fail
  refine (CC _).out.mono ?_
  rintro e w6 ⟨g4, rfl, hg4, hi4, hb4⟩
  have HB4 := hide (HB3.out.trans (hb4.mono HB3.out.size))
  have HI4 := hide hi4
  clear hb4 hi4 hg4
  go_wp2_with fail
  refine (CBB _).out.mono ?_
  rintro e w7 ⟨g5, rfl, hg5, hi5, hb5⟩
  have HB5 := hide (HB4.out.trans (hb5.mono HB4.out.size))
  have HI45 := hide (HI4.out.below hb5)
  have HI5 := hide hi5
  clear hb5 hi5 hg5
  go_wp2_with fail
  refine (cmp_int g4 g5 _ _ w7 HI45.out HI5.out (lim_256 (by omega)) (lim_256 (by omega))).mono ?_
  rintro e w8 ⟨rfl, hb8⟩
  rw [show icmp (G : Int) (G : Int) = 0 from by unfold icmp; rw [if_neg (by omega), if_neg (by omega)]]
  have HB6 := hide (HB5.out.trans (hb8.mono HB5.out.size))
  clear hb8
  by_cases hb0 : b = 0
  · subst hb0
    obtain ⟨hv, hu⟩ := KB.out.zero rfl
    subst hv
    rcases Int.lt_trichotomy a 0 with h | h | h
    · rw [if_neg (by omega), if_pos h] at hu
      subst hu
      have q1 : decide (0 < a) = false := by simp; omega
      have q2 : decide (a < 0) = true := by simpa using h
      clear h
      go_wp2_with fail
      go_ret
      exact ⟨rfl, HB6.out⟩
    · subst h
      rw [if_pos rfl] at hu
      subst hu
      go_wp2_with fail
      go_ret
      exact ⟨rfl, HB6.out⟩
    · rw [if_neg (by omega), if_neg (by omega)] at hu
      subst hu
      have q1 : decide (0 < a) = true := by simpa using h
      clear h
      go_wp2_with fail
      go_ret
      exact ⟨rfl, HB6.out⟩
  · have q1 : (b == 0) = false := by simpa using hb0
    obtain ⟨u0, u1⟩ := KB.out.pos hb0
    rw [KG.out] at u1
    have CS := fun W => hide (size_any b W (by have := HAB.out; omega) (by have := HAB.out; omega))
    obtain ⟨B, hB⟩ : ∃ B, b.natAbs = B := ⟨_, rfl⟩
    rw [hB] at CS u1
    have hG0 : ¬ G = 0 := by
      have := Int.gcd_pos_of_ne_zero_right a hb0
      have := KG.out
      omega
    obtain ⟨s, hs⟩ : ∃ s, B / G = s := ⟨_, rfl⟩
    have e1 : (B : Int) / (G : Int) = (s : Int) := by rw [← hs]; rfl
    have e1' : (B : Int).tdiv (G : Int) = (s : Int) := by rw [Int.tdiv_eq_ediv_of_nonneg (by omega), e1]
    rw [hs] at u1
    have hsB : s ≤ B := by rw [← hs]; exact Nat.div_le_self _ _
    have e2 : IntKind.i64.wrap (s : Int) = s := by have := HAB.out; rw [IntKind.wrap_i64]; omega
    have e3 : wrap64 (s : Int) = s := by have := HAB.out; unfold wrap64; omega
    have q2 : decide (0 ≤ u) = true := by simpa using u0
    have q3 : decide (u < (s : Int)) = true := by simpa using u1
    clear u0 u1 hB hs hsB hb0 hGb
    go_wp2_with fail
    refine (CS _).out.mono ?_
    rintro e w9 ⟨rfl, rfl⟩
    go_wp2_with fail
    go_ret
    exact ⟨rfl, HB6.out⟩

theorem divides_any (a b : Int) (w : World) : Calls Try.prog 4 #[.int .i64 a, .int .i64 b] w fun e w' => e = .returned (.bool true) ∧ Below w.heap.size w w' := by
  rcases lookK_cases 0 [a, b] with ⟨h, hok⟩ | ⟨i, h⟩
  · exact divides_ok a b w h (ok_bounds (hok a (by simp))) (ok_bounds (hok b (by simp)))
  · exact divides_fault a b i w h
end Go.Proofs.Ytddnchjnbgdocaa
