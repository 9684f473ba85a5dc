/- The walks of Rat's SetFrac (a lower part above 0), den, Num and Denom, under a bound on the numbers. -/
import Derived.Test.YtojehmmkdkfkjaaGreatDoorKRatD
namespace Go.Proofs.YtojehmmkdkfkjaaGreatDoor
open Go.RowKit

/-- some Rat's struct -/
def RBlkAny (w : World) (g : Nat) : Prop := ∃ n1 v1 n2 v2, RBlk w g n1 v1 n2 v2
theorem RBlkAny.lt {w : World} {g : Nat} (h : RBlkAny w g) : g < w.heap.size := by obtain ⟨_, _, _, _, h⟩ := h; exact h.lt
theorem RBlkAny.below {w w' : World} {g : Nat} (h : RBlkAny w g) (k : Below w.heap.size w w') : RBlkAny w' g := by
  obtain ⟨a, b, c, d, h⟩ := h
  exact ⟨a, b, c, d, h.below k⟩
theorem RatAt.any {w : World} {g : Nat} {A B : Int} (h : RatAt w g A B) : RBlkAny w g := by
  obtain ⟨a, b, c, d, h, _⟩ := h
  exact ⟨a, b, c, d, h.blk⟩
theorem RatAt.lt {w : World} {g : Nat} {A B : Int} (h : RatAt w g A B) : g < w.heap.size := h.any.lt
theorem RatAt.num {w : World} {g : Nat} {A B : Int} (h : RatAt w g A B) : IntIn w g 0 A := by
  obtain ⟨a, b, c, d, h, _⟩ := h
  exact h.num
theorem RatAt.den {w : World} {g : Nat} {A B : Int} (h : RatAt w g A B) : IntIn w g 2 B := by
  obtain ⟨a, b, c, d, h, _⟩ := h
  exact h.den
theorem RatAt.pos {w : World} {g : Nat} {A B : Int} (h : RatAt w g A B) : 0 < B := by
  obtain ⟨a, b, c, d, _, h⟩ := h
  exact h

set_option maxRecDepth 100000 in
set_option maxHeartbeats 1600000 in
theorem setFrac_pos (g p q : Nat) (A B : Int) (w : World) (hz : RBlkAny w g) (hx : IntAt w p A) (hy : IntAt w q B) (hB : 0 < B) (hA : A.natAbs < lim) (hBl : B.natAbs < lim) :
    Calls Tryz.prog 21 #[.pointer (some ⟨g, 0, none⟩), .pointer (some ⟨p, 0, none⟩), .pointer (some ⟨q, 0, none⟩)] w (RetRat w g (A / (Int.gcd A B : Int)) (B / (Int.gcd A B : Int))) := by
  obtain ⟨Aq, nq, cq, y1, hn⟩ := hy.abs1 hBl (by omega)
  have q1 : ((nq : Int) == 0) = false := by simp; omega
  have q2 : decide ((nq : Int) = 0) = false := by simp; omega
  have q3 : decide (nq = 0) = false := by simp; omega
  have CS1 := hide (set_int w.heap.size p A (w.alloc (.cells #[.bool false, .slice none 0 0] 47)) (blk_newInt w) (hx.below (bel_new w _)) hA)
  have HY := hide hy
  have HZ := hide hz
  have HLM := hide (And.intro hB (And.intro hA hBl))
  obtain ⟨C, hC⟩ : ∃ C, A / (Int.gcd A B : Int) = C := ⟨_, rfl⟩
  obtain ⟨D, hD⟩ : ∃ D, B / (Int.gcd A B : Int) = D := ⟨_, rfl⟩
  rw [hC, hD]
  have HCD := hide (And.intro hC hD)
  clear hx hy hB hA hBl hz hn hC hD
  go_enter Tryz.func21, Tryz.ntmps21
  go_wp2_with fail
  refine CS1.out.mono ?_
  rintro e w1 ⟨rfl, h1, hg1⟩
  have hb1 : Below w.heap.size w w1 := below_of_grown (bel_new w _) hg1 (by simp) (Nat.le_refl _)
  have HI1 := hide h1
  have HB1 := hide hb1
  have CS2 := hide (set_int w1.heap.size q B (w1.alloc (.cells #[.bool false, .slice none 0 0] 47)) (blk_newInt w1) ((HY.out.below hb1).below (bel_new w1 _)) HLM.out.2.2)
  clear h1 hg1 hb1 CS1 y1
  go_wp2_with fail
  refine CS2.out.mono ?_
  rintro e w2 ⟨rfl, h2, hg2⟩
  have hb2 : Below w1.heap.size w1 w2 := below_of_grown (bel_new w1 _) hg2 (by simp) (Nat.le_refl _)
  have i1 := HI1.out.below hb2
  have hbw := HB1.out.trans (hb2.mono HB1.out.size)
  obtain ⟨n1, v1, a0, a1, hv1, hs1⟩ := i1.cells
  obtain ⟨n2, v2, b0, b1, hv2, hs2⟩ := h2.cells
  obtain ⟨A1, k1, c1, rfl, _, _, _, _⟩ := hv1.first HLM.out.2.1
  obtain ⟨A2, k2, c2, rfl, _, _, _, _⟩ := hv2.first HLM.out.2.2
  obtain ⟨x1, x2, x3, x4, hr⟩ := HZ.out.below hbw
  obtain ⟨z0, z1, z2, z3⟩ := hr.cells
  have f0 := hr.frozen 0
  have f1 := hr.frozen 1
  have f2 := hr.frozen 2
  have f3 := hr.frozen 3
  have hgl := HZ.out.lt
  have hn2 : n2 = false := by
    cases n2 with
    | false => rfl
    | true => have := hs2.1 rfl; have := HLM.out.1; omega
  subst hn2
  have hne : w1.heap.size ≠ g := by have := HB1.out.size; omega
  have hne1 : w.heap.size ≠ g := by omega
  have HF : Hid (RatIn ((((w2.setCell ⟨g, 0, none⟩ (.bool n1)).setCell ⟨g, 1, none⟩ (.slice A1 k1 c1)).setCell ⟨g, 2, none⟩ (.bool false)).setCell ⟨g, 3, none⟩ (.slice A2 k2 c2)) g n1 (.slice A1 k1 c1) false (.slice A2 k2 c2) A B ∧ w.grownBy ((((w2.setCell ⟨g, 0, none⟩ (.bool n1)).setCell ⟨g, 1, none⟩ (.slice A1 k1 c1)).setCell ⟨g, 2, none⟩ (.bool false)).setCell ⟨g, 3, none⟩ (.slice A2 k2 c2)) (some g)) := by
    have GR := grown_then (grown_then (grown_then (grown_set w2 g 0 (.bool n1)) (grown_set _ g 1 (.slice A1 k1 c1))) (grown_set _ g 2 (.bool false))) (grown_set _ g 3 (.slice A2 k2 c2))
    exact ⟨⟨(((hr.set0 n1).set1 _).set2 false).set3 _, hv1.kept (hr.words GR), hs1, hv2.kept (hr.words GR), hs2⟩, grown_after hbw GR⟩
  have hw1l : w1.heap.size < w2.heap.size := by have := h2.lt; omega
  clear h2 hg2 hb2 i1 hbw hv1 hs1 hv2 hs2 HI1 HB1 HY HZ CS2 hr hgl
  go_upto_region 6 with (fail)
  obtain ⟨W, hW⟩ : ∃ Z, (((w2.setCell ⟨g, 0, none⟩ (.bool n1)).setCell ⟨g, 1, none⟩ (.slice A1 k1 c1)).setCell ⟨g, 2, none⟩ (.bool false)).setCell ⟨g, 3, none⟩ (.slice A2 k2 c2) = Z := ⟨_, rfl⟩
  rw [hW] at HF
  (try rw [hW])
  have CN := hide (norm_pos g A B n1 _ _ W HF.out.1 HLM.out.1 HLM.out.2.1 HLM.out.2.2)
  rw [HCD.out.1, HCD.out.2] at CN
  have HG := hide HF.out.2
  clear hW HF a0 a1 b0 b1 z0 z1 z2 z3 f0 f1 f2 f3
  go_wp2_with fail
  refine CN.out.mono ?_
  rintro e w3 ⟨rfl, hr, hg⟩
  have HR := hide hr
  have HG3 := hide (grown_then HG.out hg)
  clear hr hg CN
  go_wp2_with fail
  go_ret
  exact ⟨rfl, HR.out, HG3.out⟩

set_option maxRecDepth 100000 in
set_option maxHeartbeats 800000 in
theorem den_any (g : Nat) (A B : Int) (w : World) (h : RatAt w g A B) (hBl : B.natAbs < lim) :
    Calls Tryz.prog 45 #[.pointer (some ⟨g, 0, none⟩)] w fun e w' => e = .returned (.pointer (some ⟨g, 2, none⟩)) ∧ w = w' := by
  obtain ⟨n1, v1, n2, v2, hr, hB⟩ := h
  obtain ⟨A2, k2, c2, rfl, _, hk, _, _⟩ := hr.b.first hBl
  obtain ⟨_, _, _, c3⟩ := hr.blk.cells
  have hk2 : k2 ≠ 0 := fun e => by have := hk.1 e; omega
  have q1 : ((k2 : Int) == 0) = false := by simp; omega
  have q2 : decide ((k2 : Int) = 0) = false := by simp; omega
  have q3 : decide (k2 = 0) = false := by simp; omega
  clear hr hB hBl hk hk2
  go_enter Tryz.func45, Tryz.ntmps45
  go_wp2
  go_ret
  exact ⟨rfl, rfl⟩

theorem num_any (g : Nat) (w : World) : Calls Tryz.prog 24 #[.pointer (some ⟨g, 0, none⟩)] w fun e w' => e = .returned (.pointer (some ⟨g, 0, none⟩)) ∧ w = w' := by
  go_enter Tryz.func24, Tryz.ntmps24
  go_wp2
  go_ret
  exact ⟨rfl, rfl⟩

set_option maxRecDepth 100000 in
set_option maxHeartbeats 800000 in
theorem denom_any (g : Nat) (A B : Int) (w : World) (h : RatAt w g A B) (hBl : B.natAbs < lim) :
    Calls Tryz.prog 26 #[.pointer (some ⟨g, 0, none⟩)] w (RetNew w B) := by
  have CD := hide (den_any g A B (w.alloc (.cells #[.bool false, .slice none 0 0] 47)) (h.below (bel_new w _)) hBl)
  have CS := hide (set_in 2 w.heap.size g B (w.alloc (.cells #[.bool false, .slice none 0 0] 47)) (blk_newInt w) (h.den.below (bel_new w _)) hBl)
  clear h hBl
  go_enter Tryz.func26, Tryz.ntmps26
  go_wp2_with fail
  refine CD.out.mono ?_
  rintro e w1 ⟨rfl, rfl⟩
  go_wp2_with fail
  refine CS.out.mono ?_
  rintro e w1 ⟨rfl, h1, hg1⟩
  have hb1 : Below w.heap.size w w1 := below_of_grown (bel_new w _) hg1 (by simp) (Nat.le_refl _)
  have H1 := hide (And.intro h1 hb1)
  clear h1 hg1 hb1 CS CD
  go_wp2_with fail
  go_ret
  exact ⟨_, rfl, Nat.le_refl _, H1.out.1, H1.out.2⟩
end Go.Proofs.YtojehmmkdkfkjaaGreatDoor
