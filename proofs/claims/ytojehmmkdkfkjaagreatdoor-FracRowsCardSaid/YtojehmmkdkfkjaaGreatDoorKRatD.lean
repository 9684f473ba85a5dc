/- The walks of Rat's norm and SetFrac, for a lower part above 0, under a bound on the numbers. -/
import Derived.Test.YtojehmmkdkfkjaaGreatDoorKRatC
import Derived.Test.YtojehmmkdkfkjaaGreatDoorKRefB
namespace Go.Proofs.YtojehmmkdkfkjaaGreatDoor
open Go.RowKit

theorem gcd_one_of {A B : Int} (h : B = 1) : A / (Int.gcd A B : Int) = A ∧ B / (Int.gcd A B : Int) = B := by
  subst h; simp
theorem RatIn.at_ {w : World} {g : Nat} {n1 n2 : Bool} {v1 v2 : Value} {A B A' B' : Int} (h : RatIn w g n1 v1 n2 v2 A B) (hB : 0 < B) (e1 : A = A') (e2 : B = B') : RatAt w g A' B' := by
  subst e1; subst e2; exact ⟨_, _, _, _, h, hB⟩
theorem grown_below {w w1 : World} {g : Nat} (h : Below w.heap.size w w1) : w.grownBy w1 (some g) := grown_of_below _ h
theorem natAbs_div {A : Int} {G : Nat} (h : (G : Int) ∣ A) : (A / (G : Int)).natAbs = A.natAbs / G := by
  rw [Int.natAbs_ediv_of_dvd h]; simp
theorem sign_div {A : Int} {G : Nat} (hG : 0 < G) (h : (G : Int) ∣ A) : A / (G : Int) < 0 ↔ A < 0 := by
  obtain ⟨x, rfl⟩ := h
  rw [Int.mul_ediv_cancel_left _ (by omega)]
  constructor
  · intro hx
    exact Int.mul_neg_of_pos_of_neg (by omega) hx
  · intro hx
    by_cases h0 : x < 0
    · exact h0
    · have := Int.mul_nonneg (show (0 : Int) ≤ (G : Int) by omega) (show 0 ≤ x by omega)
      omega
theorem ndiv_lim {x y L : Nat} (h : x < L) : x / y < L := Nat.lt_of_le_of_lt (Nat.div_le_self _ _) h

set_option maxRecDepth 100000 in
set_option maxHeartbeats 1600000 in
theorem norm_pos (g : Nat) (A B : Int) (n1 : Bool) (v1 v2 : Value) (w : World) (h : RatIn w g n1 v1 false v2 A B) (hB : 0 < B) (hA : A.natAbs < lim) (hBl : B.natAbs < lim) :
    Calls Tryz.prog 43 #[.pointer (some ⟨g, 0, none⟩)] w (RetRat w g (A / (Int.gcd A B : Int)) (B / (Int.gcd A B : Int))) := by
  obtain ⟨c0, c1, c2, c3⟩ := h.blk.cells
  have HH := hide h
  have HB0 := hide hB
  have HAL := hide hA
  have HBL := hide hBl
  obtain ⟨A1, k1, cp1, rfl, _, ha0, _, _⟩ := h.a.first hA
  obtain ⟨A2, k2, cp2, rfl, _, hb0, hb1, hb2⟩ := h.b.first hBl
  have hk2 : k2 ≠ 0 := fun e => by have := hb0.1 e; omega
  have q1 : ((k2 : Int) == 0) = false := by simp; omega
  have q2 : decide ((k2 : Int) = 0) = false := by simp; omega
  have q3 : decide (k2 = 0) = false := by simp; omega
  by_cases hA0 : A = 0
  · have hk1 : k1 = 0 := ha0.2 (by rw [hA0]; rfl)
    subst hk1
    subst hA0
    have CS := hide (setOne_in g 2 _ _ w h.blk.lt c2 c3 (h.blk.frozen 2) (h.blk.frozen 3))
    clear h hB hA hBl ha0 hb0 hb1 hb2 hk2
    go_enter Tryz.func43, Tryz.ntmps43
    go_wp2_with fail
    refine CS.out.mono ?_
    rintro e w2 ⟨rfl, w1, v, hb, hv, rfl⟩
    have F := HH.out.below hb
    have HF : Hid (RatAt ((w1.setCell ⟨g, 2 + 1, none⟩ v).setCell ⟨g, 2, none⟩ (.bool false)) g (0 / (Int.gcd 0 B : Int)) (B / (Int.gcd 0 B : Int)) ∧ w.grownBy ((w1.setCell ⟨g, 2 + 1, none⟩ v).setCell ⟨g, 2, none⟩ (.bool false)) (some g)) := by
      have G := grown_then (grown_set w1 g 3 v) (grown_set _ g 2 (.bool false))
      have e1 : (0 : Int) = 0 / (Int.gcd 0 B : Int) := by simp
      have e2 : (1 : Int) = B / (Int.gcd 0 B : Int) := by
        rw [Int.gcd_zero_left, show ((B.natAbs : Nat) : Int) = B by have := HB0.out; omega, Int.ediv_self (by have := HB0.out; omega)]
      refine ⟨RatIn.at_ (A := 0) (B := 1) (n1 := n1) (n2 := false) (v1 := .slice A1 0 cp1) (v2 := v) ⟨(F.blk.set3 v).set2 false, F.a.kept (F.blk.words G), F.sa, hv.kept (F.blk.words G), by simp⟩ (by omega) e1 e2, grown_after hb G⟩
    clear hv hb F CS
    go_wp2_with fail
    go_ret
    exact ⟨rfl, HF.out⟩
  · have hk1 : k1 ≠ 0 := fun e => by have := ha0.1 e; omega
    have q4 : ((k1 : Int) == 0) = false := by simp; omega
    have q5 : decide ((k1 : Int) = 0) = false := by simp; omega
    have q6 : decide (k1 = 0) = false := by simp; omega
    by_cases hB1 : B = 1
    · have hk : k2 = 1 := hb2 (by rw [hB1]; rfl)
      subst hk
      obtain ⟨ad, rfl, hcell⟩ := hb1 rfl
      rw [show ((B.natAbs : Nat) : Int) = 1 by rw [hB1]; rfl] at hcell
      have HE := hide (gcd_one_of (A := A) hB1)
      clear h hB hA hBl ha0 hb0 hb1 hb2 hk2 hA0 hk1 hB1 q1 q2 q3
      go_enter Tryz.func43, Tryz.ntmps43
      go_wp2_with fail
      go_ret
      exact ⟨rfl, HH.out.at_ HB0.out HE.out.1.symm HE.out.2.symm, grown_below (Below.refl _ _)⟩
    · have hB1' : B.natAbs ≠ 1 := by omega
      have CC := hide (fun W (k : Below w.heap.size w W) => common_any _ _ _ _ W (h.a.below k) (h.b.below k) hA hBl)
      have HG0 := hide (show 0 < Int.gcd A B from Int.gcd_pos_of_ne_zero_right _ (by omega))
      obtain ⟨G, hGG⟩ : ∃ G, Int.gcd A B = G := ⟨_, rfl⟩
      rw [hGG]
      have HGG := hide hGG
      have hgl := h.blk.lt
      have HLT := hide hgl
      have HN1 := hide (show Hid (k2 = 1 → ∃ ad, A2 = some ad ∧ w.cell? ad = some (.int .u32 ((B.natAbs : Nat) : Int))) from hide hb1)
      clear h hB hA hBl ha0 hb0 hb1 hb2 hk2 hA0 hk1 hB1 hgl hGG
      go_enter Tryz.func43, Tryz.ntmps43
      go_upto_region 9 with (fail)
      go_cut [66] (fun b wd => b = .bool false ∧ w = wd)
      case first => as_aux_lemma =>
        by_cases hk : k2 = 1
        · obtain ⟨ad, hA2, hcell⟩ := HN1.out.out hk
          subst hk
          subst hA2
          have q7 : (((B.natAbs : Nat) : Int) == 1) = false := by simp; omega
          have q8 : decide (((B.natAbs : Nat) : Int) = 1) = false := by simp; omega
          obtain ⟨x, hx⟩ : ∃ x, B.natAbs = x := ⟨_, rfl⟩
          rw [hx] at hcell q7 q8 hB1'
          clear hx CC HH q1 q2 q3
          go_wp2_with fail
          go_meet
          exact ⟨by simp, rfl⟩
        · have q7 : ((k2 : Int) == 1) = false := by simp; omega
          have q8 : decide ((k2 : Int) = 1) = false := by simp; omega
          have q9 : decide (k2 = 1) = false := by simp; omega
          clear CC HH
          go_wp2_with fail
          go_meet
          exact ⟨rfl, rfl⟩
      case rest =>
        obtain ⟨rfl, rfl⟩ := hcut
        have hp : g < w.heap.size := HLT.out
        go_upto_region 11 with (fail)
        go_region_held3 (fun w' => w'.cell? ⟨g, 1, none⟩ = some (.slice A1 k1 cp1) ∧ w'.cell? ⟨g, 3, none⟩ = some (.slice A2 k2 cp2)) (first | exact ⟨c1, c3⟩ | exact ⟨(bel_cell (by assumption) hp).trans c1, (bel_cell (by assumption) hp).trans c3⟩) (first | (go_at_call 64; refine (CC.out _ ((Below.refl _ _).drew)).mono ?_; rintro e w1 ⟨gv, rfl, hg, hb⟩))
        have hGG := HGG.out
        have hg' : NatAt w1 gv G := by rw [← hGG]; exact hg
        have hgl : G < lim := by
          rw [← hGG]
          exact Nat.lt_of_le_of_lt (Nat.gcd_le_right _ (by have := HB0.out; omega)) HBL.out
        have hG0 : 0 < G := by rw [← hGG]; exact HG0.out
        have hBW : Below w.heap.size w w1 := (Below.refl _ _).drew.trans hb
        have HW1 := hide hBW
        have HG1 := hide hg'
        have HH1 := hide (HH.out.below hBW)
        have HGL := hide hgl
        have HGP := hide hG0
        have hdA : (G : Int) ∣ A := by rw [← hGG]; exact Int.gcd_dvd_left ..
        have hdB : (G : Int) ∣ B := by rw [← hGG]; exact Int.gcd_dvd_right ..
        have HDV := hide (And.intro hdA hdB)
        obtain ⟨A3, k3, cp3, rfl, _, _, hg1, hg2⟩ := hg'.first hgl
        rename_i hS
        clear hS hBW hg hb hg' hgl hG0 hdA hdB hGG HGG HG0 CC c0 c1 c2 c3
        by_cases hG : G = 1
        · have hk : k3 = 1 := hg2 hG
          subst hk
          obtain ⟨ad, rfl, hcell⟩ := hg1 rfl
          subst hG
          have hcell' : w1.cell? ad = some (.int .u32 1) := hcell
          clear hg1 hg2 hcell
          go_wp2_with fail
          go_ret
          exact ⟨rfl, HH1.out.at_ HB0.out (show A = A / ((1 : Nat) : Int) by simp) (show B = B / ((1 : Nat) : Int) by simp), grown_below HW1.out⟩
        · have HN3 := hide (show Hid (k3 = 1 → ∃ ad, A3 = some ad ∧ w1.cell? ad = some (.int .u32 ((G : Nat) : Int))) from hide hg1)
          have hG' : G ≠ 1 := hG
          clear hg1 hg2 hG
          go_upto_region 12 with (fail)
          go_cut [87] (fun b wd => b = .bool false ∧ w1 = wd)
          case first => as_aux_lemma =>
            by_cases hk : k3 = 1
            · obtain ⟨ad, hA3, hcell⟩ := HN3.out.out hk
              subst hk
              subst hA3
              have q7 : (((G : Nat) : Int) == 1) = false := by simp; omega
              have q8 : decide (((G : Nat) : Int) = 1) = false := by simp; omega
              clear q1 q2 q3
              go_wp2_with fail
              go_meet
              exact ⟨by simp, rfl⟩
            · have q7 : ((k3 : Int) == 1) = false := by simp; omega
              have q8 : decide ((k3 : Int) = 1) = false := by simp; omega
              have q9 : decide (k3 = 1) = false := by simp; omega
              go_wp2_with fail
              go_meet
              exact ⟨rfl, rfl⟩
          case rest =>
            obtain ⟨rfl, rfl⟩ := hcut
            clear HN3 hG'
            obtain ⟨c0, c1, c2, c3⟩ := HH1.out.blk.cells
            have C1 := hide (div_any _ _ _ _ w1 HH1.out.a HG1.out HAL.out HGL.out HGP.out)
            go_wp2_with fail
            refine C1.out.mono ?_
            rintro e w4 ⟨p1, p2, rfl, hp1, hp2, hb⟩
            obtain ⟨pA, pk, pc, rfl, _, _, _, _⟩ := hp1.first (ndiv_lim HAL.out)
            have HP := hide hp1
            have HH2 := hide (HH1.out.below hb)
            have HG2 := hide (HG1.out.below hb)
            have HW2 := hide (HW1.out.trans (hb.mono HW1.out.size))
            clear hp1 hp2 hb C1 HH1 HG1 HW1 c0 c1 c2 c3
            obtain ⟨c0, c1, c2, c3⟩ := HH2.out.blk.cells
            have C2 := hide (div_any _ _ _ _ w4 HH2.out.b HG2.out HBL.out HGL.out HGP.out)
            go_wp2_with fail
            refine C2.out.mono ?_
            rintro e w5 ⟨r1, r2, rfl, hr1, hr2, hb⟩
            obtain ⟨rA, rk, rc, rfl, _, _, _, _⟩ := hr1.first (ndiv_lim HBL.out)
            have F := HH2.out.below hb
            have f1 := F.blk.frozen 1
            have f3 := F.blk.frozen 3
            have HF : Hid (RatAt ((w5.setCell ⟨g, 1, none⟩ (.slice pA pk pc)).setCell ⟨g, 3, none⟩ (.slice rA rk rc)) g (A / (G : Int)) (B / (G : Int)) ∧ w.grownBy ((w5.setCell ⟨g, 1, none⟩ (.slice pA pk pc)).setCell ⟨g, 3, none⟩ (.slice rA rk rc)) (some g)) := by
              have GR := grown_then (grown_set w5 g 1 (.slice pA pk pc)) (grown_set _ g 3 (.slice rA rk rc))
              have hBp : 0 < B / (G : Int) := by
                obtain ⟨x, hx⟩ := HDV.out.2
                have h1 := HB0.out
                have h2 := HGP.out
                rw [hx, Int.mul_ediv_cancel_left _ (by omega)]
                rw [hx] at h1
                exact Int.pos_of_mul_pos_right h1 (by omega)
              refine ⟨⟨n1, .slice pA pk pc, false, .slice rA rk rc, ⟨(F.blk.set1 _).set3 _, ?_, ?_, ?_, ?_⟩, hBp⟩, grown_after (HW2.out.trans (hb.mono HW2.out.size)) GR⟩
              · rw [natAbs_div HDV.out.1]; exact (HP.out.below hb).kept (F.blk.words GR)
              · rw [sign_div HGP.out HDV.out.1]; exact F.sa
              · rw [natAbs_div HDV.out.2]; exact hr1.kept (F.blk.words GR)
              · constructor
                · intro h; cases h
                · intro h; omega
            obtain ⟨d0, d1, d2, d3⟩ := F.blk.cells
            clear hr1 hr2 hb C2 HH2 HG2 HW2 c0 c1 c2 c3 F
            go_wp2_with fail
            go_ret
            exact ⟨rfl, HF.out⟩
end Go.Proofs.YtojehmmkdkfkjaaGreatDoor
