/- The walk of the answers' Walked. -/
import Derived.Test.YticgnjapgbjfiaaDoorNodeW
namespace Go.Proofs.YticgnjapgbjfiaaDoor
open Go.RowKit

theorem icmp_le {X Y : Int} (h : ¬ Y < X) : ∃ z, icmp X Y = z ∧ decide (0 < z) = false := by
  unfold icmp
  by_cases h1 : X < Y
  · exact ⟨-1, if_pos h1, by decide⟩
  · exact ⟨0, by rw [if_neg h1, if_neg h], by decide⟩
theorem icmp_gt {X Y : Int} (h : Y < X) : icmp X Y = 1 := by unfold icmp; rw [if_neg (by omega), if_pos h]
/-- Walked's word on the text of a way -/
def RetWalk (w : World) (l : List Bool) : Ending → World → Prop := fun e w' => ((FitTo l l.length ∧ ∃ g1 g2 : Nat, e = .returned (.tuple #[.pointer (some ⟨g1, 0, none⟩), .pointer (some ⟨g2, 0, none⟩), .int .i64 (-1)]) ∧ Own w w' [(g1, ((node l).1 : Int)), (g2, ((node l).2 : Int))]) ∨ ∃ i : Nat, i < l.length ∧ FitTo l i ∧ ¬ Fits (Mid.one.go (l.take (i + 1))) ∧ e = .returned (.tuple #[.pointer none, .pointer none, .int .i64 i])) ∧ Below w.heap.size w w'

set_option maxRecDepth 100000 in
set_option maxHeartbeats 12800000 in
theorem walked_any (p : ByteArray) (l : List Bool) (w : World) (hp : IsWay p l) (hl : l.length ≤ 20000) : Calls Tryd.prog 42 #[.string p] w (RetWalk w l) := by
  have HP1 := hide hp.1
  have HP2 := hide hp.2
  have hsz : p.size ≤ 20000 := by rw [HP1.out]; exact hl
  clear hp hl
  have O0 := hide (Own.start w)
  go_enter Tryd.func42, Tryd.ntmps42
  go_wp2_with fail
  refine (b_own O0.out 0 (by omega) (by omega)).mono ?_
  rintro e w1 ⟨ga, rfl, O⟩
  have O1 := hide O
  clear O
  go_wp2_with fail
  refine (b_own O1.out 1 (by omega) (by omega)).mono ?_
  rintro e w2 ⟨gb, rfl, O⟩
  have O2 := hide O
  clear O
  go_wp2_with fail
  refine (b_own O2.out 1 (by omega) (by omega)).mono ?_
  rintro e w3 ⟨gc, rfl, O⟩
  have O3 := hide O
  clear O
  go_wp2_with fail
  refine (b_own O3.out 0 (by omega) (by omega)).mono ?_
  rintro e w4 ⟨gd, rfl, O⟩
  have O4 := hide (O.sub [3, 2, 1, 0] rfl (by decide))
  clear O O0 O1 O2 O3
  go_wp2_with fail
  go_loopg [5, 6, 7, 8, 9] p.size (fun J av bv cv dv iv wr => ∃ (i ga gb gc gd p1 q r s : Nat), J = p.size - i ∧ iv = .int .i64 i ∧ i ≤ p.size ∧ av = .pointer (some ⟨ga, 0, none⟩) ∧ bv = .pointer (some ⟨gb, 0, none⟩) ∧ cv = .pointer (some ⟨gc, 0, none⟩) ∧ dv = .pointer (some ⟨gd, 0, none⟩) ∧ Mid.one.go (l.take i) = ⟨p1, q, r, s⟩ ∧ Hid (FitTo l i) ∧ Hid (Own w wr [(ga, (p1 : Int)), (gb, (q : Int)), (gc, (r : Int)), (gd, (s : Int))]))
  case atStart => exact ⟨0, ga, gb, gc, gd, 0, 1, 1, 0, by omega, rfl, by omega, rfl, rfl, rfl, rfl, rfl, FitTo.zero l, O4⟩
  case round =>
    clear O4
    obtain ⟨i, ga, gb, gc, gd, p', q, r, s, hJ, rfl, hi, rfl, rfl, rfl, rfl, hmid, HFT, HO⟩ := hrel
    have hfit := HFT.out i (Nat.le_refl _)
    rw [hmid] at hfit
    unfold Fits Mid.up Mid.down at hfit
    have hfit : p' + r ≤ 1000000000000000000 ∧ q + s ≤ 1000000000000000000 := hfit
    by_cases hil : i < p.size
    · obtain ⟨x, hx⟩ : ∃ x, l[i]? = some x := ⟨l[i]'(by rw [← HP1.out]; exact hil), List.getElem?_eq_getElem (by rw [← HP1.out]; exact hil)⟩
      have q1 : decide ((i : Int) < (p.size : Int)) = true := by rw [decide_eq_true_eq]; omega
      have s1 : (i : Int) < (p.size : Int) := by omega
      cases x
      · have hx0 : l[i]? = some false := hx
        have e0 := HP2.out i false (by omega) hx0
        rw [if_neg (by decide)] at e0
        have hgt := go_take hx0
        have hst : (Mid.one.go (l.take i)).step false = ⟨p', q, p' + r, q + s⟩ := by rw [hmid]; rfl
        rw [hst] at hgt
        have HGT := hide hgt
        obtain ⟨P, hP⟩ : ∃ P, p' + r = P := ⟨_, rfl⟩
        obtain ⟨Q, hQ⟩ : ∃ Q, q + s = Q := ⟨_, rfl⟩
        rw [hP] at HGT hfit
        rw [hQ] at HGT hfit
        obtain ⟨hf1, hf2⟩ := hfit
        have hP2 : (p' : Int) + (r : Int) = (P : Int) := by omega
        have hQ2 : (q : Int) + (s : Int) = (Q : Int) := by omega
        obtain ⟨X, hX⟩ : ∃ X, p' + P = X := ⟨_, rfl⟩
        obtain ⟨Y, hY⟩ : ∃ Y, q + Q = Y := ⟨_, rfl⟩
        have HUD : Hid ((Mid.one.go (l.take (i + 1))).up = X ∧ (Mid.one.go (l.take (i + 1))).down = Y) := by
          unfold Hid
          rw [HGT.out]
          exact ⟨hX, hY⟩
        have hX2 : (p' : Int) + (P : Int) = (X : Int) := by omega
        have hY2 : (q : Int) + (Q : Int) = (Y : Int) := by omega
        have HL : Hid ((p' : Int).natAbs < lim ∧ (q : Int).natAbs < lim ∧ (r : Int).natAbs < lim ∧ (s : Int).natAbs < lim ∧ (P : Int).natAbs < lim ∧ (Q : Int).natAbs < lim ∧ (X : Int).natAbs < lim ∧ (Y : Int).natAbs < lim) := ⟨big18 (by omega), big18 (by omega), big18 (by omega), big18 (by omega), big18 (by omega), big18 (by omega), big18 (by omega), big18 (by omega)⟩
        have HM : Hid ((1000000000000000000 : Int).natAbs < lim) := big18 (by decide)
        have HE := hide (And.intro hP2 (And.intro hQ2 (And.intro hX2 hY2)))
        have HXY : Hid (X ≤ 2000000000000000000 ∧ Y ≤ 2000000000000000000) := by unfold Hid; omega
        clear hst hgt hX hY hP hQ hx0 hP2 hQ2 hX2 hY2 hf1 hf2
        go_wp2_with fail
        refine (add_own HO.out.new 0 1 3 rfl rfl rfl HL.out.1 HL.out.2.2.1 (by rw [HE.out.1]; exact HL.out.2.2.2.2.1)).mono ?_
        rintro e w1 ⟨rfl, O⟩
        simp only [List.set] at O
        rw [HE.out.1] at O
        have O1 := hide O
        clear O
        go_wp2_with fail
        refine (add_own O1.out.new 0 3 5 rfl rfl rfl HL.out.2.1 HL.out.2.2.2.1 (by rw [HE.out.2.1]; exact HL.out.2.2.2.2.2.1)).mono ?_
        rintro e w2 ⟨rfl, O⟩
        simp only [List.set] at O
        rw [HE.out.2.1] at O
        have O2 := hide (O.sub [2, 3, 1, 0] rfl (by decide))
        clear O O1
        go_wp2_with fail
        refine (b_own O2.out 1000000000000000000 (by omega) (by omega)).mono ?_
        rintro e w3 ⟨gm, rfl, O⟩
        have O3 := hide O
        clear O O2
        go_wp2_with fail
        refine (add_own O3.out.new 0 2 4 rfl rfl rfl HL.out.1 HL.out.2.2.2.2.1 (by rw [HE.out.2.2.1]; exact HL.out.2.2.2.2.2.2.1)).mono ?_
        rintro e w4 ⟨rfl, O⟩
        simp only [List.set] at O
        rw [HE.out.2.2.1] at O
        have C1 := hide (cmp_own O 0 1 rfl rfl HL.out.2.2.2.2.2.2.1 HM.out)
        clear O
        by_cases hXb : (1000000000000000000 : Int) < (X : Int)
        · have hnf : ¬ Fits (Mid.one.go (l.take (i + 1))) := fun h => by
            have h1 := h.1
            rw [HUD.out.1] at h1
            omega
          have HNF := hide hnf
          rw [show icmp (X : Int) 1000000000000000000 = 1 from icmp_gt hXb] at C1
          clear hXb
          clear hnf
          go_wp2_with fail
          refine C1.out.mono ?_
          rintro e w5 ⟨rfl, O⟩
          have HB := hide O.bel
          clear O C1 O3
          go_wp2_with fail
          go_ret3
          exact ⟨.inr ⟨i, by rw [← HP1.out]; exact hil, HFT.out, HNF.out, rfl⟩, HB.out⟩
        · obtain ⟨z, hz, q5⟩ := icmp_le hXb
          rw [hz] at C1
          have HXB := hide hXb
          clear hz hXb
          go_wp2_with fail
          refine C1.out.mono ?_
          rintro e w5 ⟨rfl, O⟩
          have O5 := hide O
          clear O C1 O3
          go_wp2_with fail
          refine (add_own O5.out.new 0 4 6 rfl rfl rfl HL.out.2.1 HL.out.2.2.2.2.2.1 (by rw [HE.out.2.2.2]; exact HL.out.2.2.2.2.2.2.2)).mono ?_
          rintro e w6 ⟨rfl, O⟩
          simp only [List.set] at O
          rw [HE.out.2.2.2] at O
          have C2 := hide (cmp_own O 0 2 rfl rfl HL.out.2.2.2.2.2.2.2 HM.out)
          clear O
          by_cases hYb : (1000000000000000000 : Int) < (Y : Int)
          · have hnf : ¬ Fits (Mid.one.go (l.take (i + 1))) := fun h => by
              have h1 := h.2
              rw [HUD.out.2] at h1
              omega
            have HNF := hide hnf
            rw [show icmp (Y : Int) 1000000000000000000 = 1 from icmp_gt hYb] at C2
            clear hYb
            clear hnf
            go_wp2_with fail
            refine C2.out.mono ?_
            rintro e w7 ⟨rfl, O⟩
            have HB := hide O.bel
            clear O C2 O5
            go_wp2_with fail
            go_ret3
            exact ⟨.inr ⟨i, by rw [← HP1.out]; exact hil, HFT.out, HNF.out, rfl⟩, HB.out⟩
          · obtain ⟨z2, hz2, q6⟩ := icmp_le hYb
            rw [hz2] at C2
            have HFT2 : Hid (FitTo l (i + 1)) := HFT.out.next (by
              refine ⟨?_, ?_⟩
              · rw [HUD.out.1]; have := HXB.out; omega
              · rw [HUD.out.2]; omega)
            clear hz2 hYb
            go_wp2_with fail
            refine C2.out.mono ?_
            rintro e w7 ⟨rfl, O⟩
            have O7 := hide (O.sub [3, 4, 5, 6] rfl (by decide))
            clear O C2 O5
            go_wp2_with fail
            go_roundg (p.size - (i + 1))
            case measure => omega
            case rel => exact ⟨i + 1, _, _, _, _, p', q, P, Q, rfl, by simp, by omega, rfl, rfl, rfl, rfl, HGT.out, HFT2, O7⟩
      · have hx0 : l[i]? = some true := hx
        have e0 := HP2.out i true (by omega) hx0
        rw [if_pos rfl] at e0
        have hgt := go_take hx0
        have hst : (Mid.one.go (l.take i)).step true = ⟨p' + r, q + s, r, s⟩ := by rw [hmid]; rfl
        rw [hst] at hgt
        have HGT := hide hgt
        obtain ⟨P, hP⟩ : ∃ P, p' + r = P := ⟨_, rfl⟩
        obtain ⟨Q, hQ⟩ : ∃ Q, q + s = Q := ⟨_, rfl⟩
        rw [hP] at HGT hfit
        rw [hQ] at HGT hfit
        obtain ⟨hf1, hf2⟩ := hfit
        have hP2 : (p' : Int) + (r : Int) = (P : Int) := by omega
        have hQ2 : (q : Int) + (s : Int) = (Q : Int) := by omega
        obtain ⟨X, hX⟩ : ∃ X, P + r = X := ⟨_, rfl⟩
        obtain ⟨Y, hY⟩ : ∃ Y, Q + s = Y := ⟨_, rfl⟩
        have HUD : Hid ((Mid.one.go (l.take (i + 1))).up = X ∧ (Mid.one.go (l.take (i + 1))).down = Y) := by
          unfold Hid
          rw [HGT.out]
          exact ⟨hX, hY⟩
        have hX2 : (P : Int) + (r : Int) = (X : Int) := by omega
        have hY2 : (Q : Int) + (s : Int) = (Y : Int) := by omega
        have HL : Hid ((p' : Int).natAbs < lim ∧ (q : Int).natAbs < lim ∧ (r : Int).natAbs < lim ∧ (s : Int).natAbs < lim ∧ (P : Int).natAbs < lim ∧ (Q : Int).natAbs < lim ∧ (X : Int).natAbs < lim ∧ (Y : Int).natAbs < lim) := ⟨big18 (by omega), big18 (by omega), big18 (by omega), big18 (by omega), big18 (by omega), big18 (by omega), big18 (by omega), big18 (by omega)⟩
        have HM : Hid ((1000000000000000000 : Int).natAbs < lim) := big18 (by decide)
        have HE := hide (And.intro hP2 (And.intro hQ2 (And.intro hX2 hY2)))
        have HXY : Hid (X ≤ 2000000000000000000 ∧ Y ≤ 2000000000000000000) := by unfold Hid; omega
        clear hst hgt hX hY hP hQ hx0 hP2 hQ2 hX2 hY2 hf1 hf2
        go_wp2_with fail
        refine (add_own HO.out.new 0 1 3 rfl rfl rfl HL.out.1 HL.out.2.2.1 (by rw [HE.out.1]; exact HL.out.2.2.2.2.1)).mono ?_
        rintro e w1 ⟨rfl, O⟩
        simp only [List.set] at O
        rw [HE.out.1] at O
        have O1 := hide O
        clear O
        go_wp2_with fail
        refine (add_own O1.out.new 0 3 5 rfl rfl rfl HL.out.2.1 HL.out.2.2.2.1 (by rw [HE.out.2.1]; exact HL.out.2.2.2.2.2.1)).mono ?_
        rintro e w2 ⟨rfl, O⟩
        simp only [List.set] at O
        rw [HE.out.2.1] at O
        have O2 := hide (O.sub [1, 0, 4, 5] rfl (by decide))
        clear O O1
        go_wp2_with fail
        refine (b_own O2.out 1000000000000000000 (by omega) (by omega)).mono ?_
        rintro e w3 ⟨gm, rfl, O⟩
        have O3 := hide O
        clear O O2
        go_wp2_with fail
        refine (add_own O3.out.new 0 2 4 rfl rfl rfl HL.out.2.2.2.2.1 HL.out.2.2.1 (by rw [HE.out.2.2.1]; exact HL.out.2.2.2.2.2.2.1)).mono ?_
        rintro e w4 ⟨rfl, O⟩
        simp only [List.set] at O
        rw [HE.out.2.2.1] at O
        have C1 := hide (cmp_own O 0 1 rfl rfl HL.out.2.2.2.2.2.2.1 HM.out)
        clear O
        by_cases hXb : (1000000000000000000 : Int) < (X : Int)
        · have hnf : ¬ Fits (Mid.one.go (l.take (i + 1))) := fun h => by
            have h1 := h.1
            rw [HUD.out.1] at h1
            omega
          have HNF := hide hnf
          rw [show icmp (X : Int) 1000000000000000000 = 1 from icmp_gt hXb] at C1
          clear hXb
          clear hnf
          go_wp2_with fail
          refine C1.out.mono ?_
          rintro e w5 ⟨rfl, O⟩
          have HB := hide O.bel
          clear O C1 O3
          go_wp2_with fail
          go_ret3
          exact ⟨.inr ⟨i, by rw [← HP1.out]; exact hil, HFT.out, HNF.out, rfl⟩, HB.out⟩
        · obtain ⟨z, hz, q5⟩ := icmp_le hXb
          rw [hz] at C1
          have HXB := hide hXb
          clear hz hXb
          go_wp2_with fail
          refine C1.out.mono ?_
          rintro e w5 ⟨rfl, O⟩
          have O5 := hide O
          clear O C1 O3
          go_wp2_with fail
          refine (add_own O5.out.new 0 4 6 rfl rfl rfl HL.out.2.2.2.2.2.1 HL.out.2.2.2.1 (by rw [HE.out.2.2.2]; exact HL.out.2.2.2.2.2.2.2)).mono ?_
          rintro e w6 ⟨rfl, O⟩
          simp only [List.set] at O
          rw [HE.out.2.2.2] at O
          have C2 := hide (cmp_own O 0 2 rfl rfl HL.out.2.2.2.2.2.2.2 HM.out)
          clear O
          by_cases hYb : (1000000000000000000 : Int) < (Y : Int)
          · have hnf : ¬ Fits (Mid.one.go (l.take (i + 1))) := fun h => by
              have h1 := h.2
              rw [HUD.out.2] at h1
              omega
            have HNF := hide hnf
            rw [show icmp (Y : Int) 1000000000000000000 = 1 from icmp_gt hYb] at C2
            clear hYb
            clear hnf
            go_wp2_with fail
            refine C2.out.mono ?_
            rintro e w7 ⟨rfl, O⟩
            have HB := hide O.bel
            clear O C2 O5
            go_wp2_with fail
            go_ret3
            exact ⟨.inr ⟨i, by rw [← HP1.out]; exact hil, HFT.out, HNF.out, rfl⟩, HB.out⟩
          · obtain ⟨z2, hz2, q6⟩ := icmp_le hYb
            rw [hz2] at C2
            have HFT2 : Hid (FitTo l (i + 1)) := HFT.out.next (by
              refine ⟨?_, ?_⟩
              · rw [HUD.out.1]; have := HXB.out; omega
              · rw [HUD.out.2]; omega)
            clear hz2 hYb
            go_wp2_with fail
            refine C2.out.mono ?_
            rintro e w7 ⟨rfl, O⟩
            have O7 := hide (O.sub [3, 4, 5, 6] rfl (by decide))
            clear O C2 O5
            go_wp2_with fail
            go_roundg (p.size - (i + 1))
            case measure => omega
            case rel => exact ⟨i + 1, _, _, _, _, P, Q, r, s, rfl, by simp, by omega, rfl, rfl, rfl, rfl, HGT.out, HFT2, O7⟩
    · obtain rfl : i = p.size := by omega
      have q1 : decide ((p.size : Int) < (p.size : Int)) = false := by simp
      rw [List.take_of_length_le (by rw [HP1.out]; exact Nat.le_refl _)] at hmid
      have hn := one_node l
      rw [hmid] at hn
      unfold Mid.up Mid.down at hn
      have hn1 : p' + r = (node l).1 := hn.1
      have hn2 : q + s = (node l).2 := hn.2
      obtain ⟨N1, hN1⟩ : ∃ N, (node l).1 = N := ⟨_, rfl⟩
      obtain ⟨N2, hN2⟩ : ∃ N, (node l).2 = N := ⟨_, rfl⟩
      have HE := hide (And.intro hN1 hN2)
      rw [hN1] at hn1
      rw [hN2] at hn2
      have hP2 : (p' : Int) + (r : Int) = (N1 : Int) := by omega
      have hQ2 : (q : Int) + (s : Int) = (N2 : Int) := by omega
      have HH := hide (And.intro hP2 hQ2)
      have HL : Hid ((p' : Int).natAbs < lim ∧ (q : Int).natAbs < lim ∧ (r : Int).natAbs < lim ∧ (s : Int).natAbs < lim ∧ (N1 : Int).natAbs < lim ∧ (N2 : Int).natAbs < lim) := ⟨big18 (by omega), big18 (by omega), big18 (by omega), big18 (by omega), big18 (by omega), big18 (by omega)⟩
      clear hn hn1 hn2 hN1 hN2 hmid hP2 hQ2 hfit
      go_wp2_with fail
      refine (add_own HO.out 0 0 2 rfl rfl rfl HL.out.1 HL.out.2.2.1 (by rw [HH.out.1]; exact HL.out.2.2.2.2.1)).mono ?_
      rintro e w5 ⟨rfl, O⟩
      simp only [List.set] at O
      rw [HH.out.1] at O
      have O5 := hide O
      clear O HO
      go_wp2_with fail
      refine (add_own O5.out 1 1 3 rfl rfl rfl HL.out.2.1 HL.out.2.2.2.1 (by rw [HH.out.2]; exact HL.out.2.2.2.2.2)).mono ?_
      rintro e w6 ⟨rfl, O⟩
      simp only [List.set] at O
      rw [HH.out.2] at O
      have O6 := hide (O.sub [0, 1] rfl (by decide))
      clear O O5
      go_wp2_with fail
      go_ret3
      exact ⟨.inl ⟨by rw [← HP1.out]; exact HFT.out, ga, gb, rfl, by rw [HE.out.1, HE.out.2]; exact O6.out⟩, O6.out.bel⟩
end Go.Proofs.YticgnjapgbjfiaaDoor
