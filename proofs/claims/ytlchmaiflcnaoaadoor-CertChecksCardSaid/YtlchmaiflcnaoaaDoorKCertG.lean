/- The walk of cert.grow at a number whose least root is known, and of the law's examples: Make(7) and a certificate of 7. -/
import Derived.Test.YtlchmaiflcnaoaaDoorKCertF
import Derived.Test.YtlchmaiflcnaoaaDoorKPartsW
import Derived.Test.YtlchmaiflcnaoaaDoorKFact
namespace Go.Proofs.YtlchmaiflcnaoaaDoor
open Go.RowKit

theorem CB.put {w : World} {g : Nat} {n r : Int} {s : Value} (h : CB w g n r s) (n' r' : Int) (s' : Value) : CB (((w.setCell ⟨g, 0, none⟩ (.int .i64 n')).setCell ⟨g, 1, none⟩ (.int .i64 r')).setCell ⟨g, 2, none⟩ s') g n' r' s' := by
  unfold CB at h ⊢
  simp [World.setCell, Array.getElem?_modify, h]
theorem CB.set1 {w : World} {g : Nat} {n r : Int} {s : Value} (h : CB w g n r s) (r' : Int) : CB (w.setCell ⟨g, 1, none⟩ (.int .i64 r')) g n r' s := by
  unfold CB at h ⊢
  simp [World.setCell, Array.getElem?_modify, h]
theorem CB.set2 {w : World} {g : Nat} {n r : Int} {s : Value} (h : CB w g n r s) (s' : Value) : CB (w.setCell ⟨g, 2, none⟩ s') g n r s' := by
  unfold CB at h ⊢
  simp [World.setCell, Array.getElem?_modify, h]
theorem CB.frozen {w : World} {g : Nat} {n r : Int} {s : Value} (h : CB w g n r s) (k : Nat) : w.frozen? ⟨g, k, none⟩ = false := by
  unfold CB at h
  simp [World.frozen?, h]
theorem bel_put {w W : World} {B g : Nat} (h : Below B w W) (hg : B ≤ g) (a b c : Value) : Below B w (((W.setCell ⟨g, 0, none⟩ a).setCell ⟨g, 1, none⟩ b).setCell ⟨g, 2, none⟩ c) :=
  ((h.setCell (p := ⟨g, 0, none⟩) hg a).setCell (p := ⟨g, 1, none⟩) hg b).setCell (p := ⟨g, 2, none⟩) hg c

theorem CO.set_other {w : World} {base g k : Nat} {v : Value} {L : List (Tree × Value)} (h : CO w base v L) (ha : v.ownBlock ≠ some g) (x : Value) : CO (w.setCell ⟨g, k, none⟩ x) base v L := by
  refine ⟨h.1, ?_⟩
  rcases h.2 with h2 | ⟨g', cap, cur, e, hg, hh, hr⟩
  · exact .inl h2
  · refine .inr ⟨g', cap, cur, e, hg, (Below.heap_setCell _ ⟨g, k, none⟩ _ g' (fun e2 => ha ?_)).trans hh, hr⟩
    rw [e, e2]
    rfl
/-- what grow leaves -/
def RetGrow (w : World) (n : Nat) : Ending → World → Prop := fun e w' => ∃ (r : Int) (A : Option Addr) (k c : Nat), e = .returned (.agg #[.int .i64 (n : Nat), .int .i64 r, .slice A k c]) ∧ Below w.heap.size w w'

set_option maxRecDepth 100000 in
set_option maxHeartbeats 1600000 in
theorem grow_two (w : World) : Calls Tryd.prog 20 #[.int .i64 2] w (RetGrow w 2) := by
  have C0 := hide (CB.made w 0 0 (.slice none 0 0))
  have HB := hide (bel_o w (.cells #[.int .i64 2, .int .i64 0, .slice none 0 0] 24))
  have C2 := hide (CB.made w 2 0 (.slice none 0 0))
  have z0 := C0.out.frozen 0
  have z1 := C0.out.frozen 1
  have z2 := C0.out.frozen 2
  obtain ⟨c0, c1, c2⟩ := C0.out.cells
  go_enter Tryd.func20, Tryd.ntmps20
  go_wp2_with fail
  go_step3
  go_wp2_with fail
  obtain ⟨G0, G1, G2⟩ := C2.out.cells
  exact bodyPost_ret (v := .agg #[.int .i64 2, .int .i64 0, .slice none 0 0]) (by simp [results, Tryd.results20, go_sem, G0, G1, G2]) rfl ⟨0, none, 0, 0, rfl, HB.out⟩

/-- block g holds a prime and how often it is there -/
def PB (w : World) (g : Nat) (p t : Nat) : Prop := w.heap[g]? = some (.cells #[.int .i64 (p : Nat), .int .i64 (t : Nat)] 64 (0, 0))
theorem PB.made (w : World) (p t : Nat) : PB (w.alloc (.cells #[.int .i64 (p : Nat), .int .i64 (t : Nat)] 64)) w.heap.size p t := by
  show (w.heap.push _)[w.heap.size]? = _
  simp
theorem PB.lt {w : World} {g p t : Nat} (h : PB w g p t) : g < w.heap.size := heap_lt h
theorem PB.below {w w' : World} {g p t : Nat} (h : PB w g p t) (k : Below w.heap.size w w') : PB w' g p t := (k.block g h.lt).trans h
theorem PB.cells {w : World} {g p t : Nat} (h : PB w g p t) : w.cell? ⟨g, 0, none⟩ = some (.int .i64 (p : Nat)) ∧ w.cell? ⟨g, 1, none⟩ = some (.int .i64 (t : Nat)) := by
  unfold PB at h
  exact ⟨by simp [World.cell?, h], by simp [World.cell?, h]⟩
theorem PB.grown {w w' : World} {g p t : Nat} {u : Option Nat} (h : PB w g p t) (hg : w.grownBy w' u) (hne : some g ≠ u) : PB w' g p t := (hg.block g h.lt hne).trans h

set_option maxRecDepth 100000 in
set_option maxHeartbeats 6400000 in
theorem grow_any (n E R : Nat) (ps : List (Nat × Nat)) (h1 : 2 < n) (h2 : n ≤ 1000000) (hE : n = E + 1) (hR : 2 ≤ R) (hRn : R < n) (hps : ∀ x ∈ ps, 2 ≤ x.1) (hpl : ps.length ≤ 100)
    (hP : ∀ W, TabW W → Calls Tryd.prog 36 #[.int .i64 (E : Nat)] W fun e w' => ∃ v, e = .returned v ∧ PRow w' W.heap.size v ps ∧ Below W.heap.size W w')
    (hR1 : ∀ g, 2 ≤ g → g < R → ∃ x ∈ ps, g ^ (E / x.1) % n = 1) (hR2 : ∀ x ∈ ps, R ^ (E / x.1) % n ≠ 1)
    (hG : ∀ x ∈ ps, ∀ W, TabW W → Calls Tryd.prog 20 #[.int .i64 (x.1 : Nat)] W (RetGrow W x.1)) (w : World) (hT : TabW w) :
    Calls Tryd.prog 20 #[.int .i64 (n : Nat)] w (RetGrow w n) := by
  obtain ⟨i0, hi, hz0, hz1, hz2⟩ := cinfo_parts
  have HI := hide (And.intro hi (And.intro hz0 (And.intro hz1 hz2)))
  have HTW := hide (fun W (k : Below w.heap.size w W) => hT.below k)
  have BW := hide (bel_o w (.cells #[.int .i64 0, .int .i64 0, .slice none 0 0] 24))
  have C0 := hide (CB.made w 0 0 (.slice none 0 0))
  have hs0 := hide (show (w.alloc (.cells #[.int .i64 0, .int .i64 0, .slice none 0 0] 24)).heap.size = w.heap.size + 1 by simp)
  have CP := hide (hP _ (HTW.out _ BW.out))
  have HR1 := hide hR1
  have HR2 := hide hR2
  have HG := hide hG
  have HPS := hide hps
  have HPL := hide hpl
  have CR := fun (g e : Nat) (hg : g ≤ 1000000) (he : e ≤ 1000000) W => hide (raise_any (g : Nat) (n : Nat) e W (by omega) (by omega) (by omega) (by omega) (by omega))
  simp only [powX] at CR
  have HCR := hide CR
  have q1 : decide ((n : Int) = 2) = false := by rw [decide_eq_false_iff_not]; omega
  have q1' : ((n : Int) == 2) = false := by simp; omega
  have hE2 : E ≤ 1000000 := by omega
  have HE := hide hE2
  have HRN := hide (And.intro hR (show R ≤ 1000000 by omega))
  have hw3 := hide (show IntKind.i64.wrap ((n : Int) - 1) = (E : Int) ∧ wrap64 ((n : Int) - 1) = (E : Int) by rw [IntKind.wrap_i64]; unfold wrap64; omega)
  clear CR hR1 hR2 hG hps hpl hP hT hi hz0 hz1 hz2 h1 h2 hE hR hRn hE2
  have w3 := hw3.out.1
  have w3' := hw3.out.2
  go_enter Tryd.func20, Tryd.ntmps20
  go_wp2_with fail
  go_step3
  go_wp2_with fail
  refine CP.out.mono ?_
  rintro e w1 ⟨v, rfl, hv, hb⟩
  obtain ⟨W0, hW0⟩ : ∃ Z, w.alloc (.cells #[.int .i64 0, .int .i64 0, .slice none 0 0] 24) = Z := ⟨_, rfl⟩
  rw [hW0] at C0 BW hb hs0
  have B1 := hide hb
  have HD := hide (fun W (k : Below W0.heap.size W0 W) => show CB W w.heap.size 0 0 (.slice none 0 0) ∧ Below w.heap.size w W from ⟨C0.out.below k, BW.out.trans (k.mono BW.out.size)⟩)
  have V1 := hide hv.read
  clear C0 BW CP hv hb q1 q1' w3 w3' hW0
  obtain ⟨vA, vc, hvv⟩ := V1.out.form
  subst hvv
  obtain ⟨N, hN⟩ : ∃ N, ps.length = N := ⟨_, rfl⟩
  have HN := hide hN
  have hNl : N ≤ 100 := by rw [← hN]; exact HPL.out
  rw [hN] at V1
  rw [hN]
  have C4 := hide (CB.made w1 (n : Nat) 0 (.slice none 0 0))
  have hbo := bel_o w1 (.cells #[.int .i64 (n : Nat), .int .i64 0, .slice none 0 0] 24)
  have B4 := hide (B1.out.trans (hbo.mono B1.out.size))
  have V4 := hide hbo
  have HVV := hide (fun W (k : Below w1.heap.size w1 W) => V1.out.below k)
  have hlt := B1.out.size
  clear hN hbo B1 V1
  go_wp2_with fail
  obtain ⟨W4, hW⟩ : ∃ Z, w1.alloc (.cells #[.int .i64 (n : Nat), .int .i64 0, .slice none 0 0] 24) = Z := ⟨_, rfl⟩
  rw [hW] at C4 B4 V4
  (try rw [hW])
  obtain ⟨g4, hg4⟩ : ∃ g, w1.heap.size = g := ⟨_, rfl⟩
  rw [hg4] at C4
  have HG4 := hide (Nat.le_of_eq hg4)
  (try rw [hg4])
  clear hW hg4 hs0
  have HLT := hide hlt
  clear hlt
  go_step3
  go_wp2_with fail
  go_loopg [5] (R + 1 - 2) (fun M gv wr => ∃ g : Nat, M = R + 1 - g ∧ gv = .int .i64 (g : Nat) ∧ 2 ≤ g ∧ g ≤ R + 1 ∧ Hid (CB wr g4 (n : Nat) (if g ≤ R then 0 else (R : Nat)) (.slice none 0 0)) ∧ Hid (Below W0.heap.size W0 wr) ∧ Hid (Below w1.heap.size w1 wr))
  case atStart => exact ⟨2, rfl, rfl, by omega, by have := HRN.out.1; omega, by rw [if_pos HRN.out.1]; exact C4, B4, V4⟩
  case round =>
    clear C4 B4 V4
    obtain ⟨g, rfl, rfl, hg2, hgR, HC, HB, HV⟩ := hrel
    obtain ⟨wo, rfl⟩ : ∃ Z : World, Z = wr := ⟨_, rfl⟩
    by_cases hgr : g ≤ R
    · as_aux_lemma =>
      rw [if_pos hgr] at HC
      obtain ⟨c0, c1, c2⟩ := HC.out.cells
      go_wp2_with fail
      clear c0 c1 c2
      go_loopg [25] N (fun M iv wr => ∃ i : Nat, M = N - i ∧ iv = .int .i64 (i : Nat) ∧ i ≤ N ∧ Hid (∀ (j : Nat) (x : Nat × Nat), j < i → ps[j]? = some x → g ^ (E / x.1) % n ≠ 1) ∧ Hid (CB wr g4 (n : Nat) 0 (.slice none 0 0)) ∧ Hid (Below W0.heap.size W0 wr) ∧ Hid (Below w1.heap.size w1 wr))
      case atStart => exact ⟨0, rfl, rfl, by omega, hide (fun j x h => by omega), HC, HB, HV⟩
      case round =>
        clear HC HB HV
        obtain ⟨i, rfl, rfl, hi, HJ, HC, HB, HV⟩ := hrel
        obtain ⟨wi, rfl⟩ : ∃ Z : World, Z = wr := ⟨_, rfl⟩
        by_cases hin : i < N
        · as_aux_lemma =>
          obtain ⟨gp, cp, x, hv, hgp, hx, d0, d1⟩ := (HVV.out wi HV.out).at_ (j := i) (by rw [HN.out]; exact hin)
          obtain ⟨pp, pt⟩ := x
          injection hv with hv1 hv2 hv3
          subst hv1 hv3
          clear hv2
          have hpp := HPS.out _ (List.mem_of_getElem? hx)
          have HX := hide hx
          simp only at d0 d1 hpp
          have b1 : (0 : Int) ≤ (i : Int) := by omega
          have b2 : (i : Int) < (N : Int) := by omega
          have hw2 := hide (show IntKind.i64.wrap ((i : Int) + 1) = (i : Int) + 1 ∧ wrap64 ((i : Int) + 1) = (i : Int) + 1 by rw [IntKind.wrap_i64]; unfold wrap64; omega)
          have hw4 := hide (show IntKind.i64.wrap ((g : Int) + 1) = (g : Int) + 1 ∧ wrap64 ((g : Int) + 1) = (g : Int) + 1 by have := HRN.out.2; rw [IntKind.wrap_i64]; unfold wrap64; omega)
          have z0 : ¬ (pp : Int) = 0 := by omega
          have z1 : ¬ pp = 0 := by omega
          have e3 : (E : Int).tdiv (pp : Int) = ((E / pp : Nat) : Int) := by rw [Int.tdiv_eq_ediv_of_nonneg (by omega)]; simp
          have e4 : (E : Int) / (pp : Int) = ((E / pp : Nat) : Int) := by simp
          have hd : E / pp ≤ E := Nat.div_le_self _ _
          obtain ⟨d, hdd⟩ : ∃ d, E / pp = d := ⟨_, rfl⟩
          have CR := fun W => HCR.out g d (by have := HRN.out.2; omega) (by have := HE.out; omega) W
          have hw5 := hide (show IntKind.i64.wrap (d : Int) = (d : Int) ∧ wrap64 (d : Int) = (d : Int) by have := HE.out; rw [IntKind.wrap_i64]; unfold wrap64; omega)
          rw [hdd] at e3 e4
          have HDD := hide hdd
          have hbo := bel_o wi (.cells #[.int .i64 (pp : Nat), .int .i64 (pt : Nat)] 64)
          have C5 := hide (HC.out.below hbo)
          have B5 := hide (HB.out.trans (hbo.mono HB.out.size))
          have V5 := hide (HV.out.trans (hbo.mono HV.out.size))
          have P5 := hide (PB.made wi pp pt)
          clear hx hpp hd hdd hbo hgp HC HD HB HV
          go_upto_region 11 with (fail)
          obtain ⟨W5, hW⟩ : ∃ Z, wi.alloc (.cells #[.int .i64 (pp : Nat), .int .i64 (pt : Nat)] 64) = Z := ⟨_, rfl⟩
          rw [hW] at C5 B5 V5 P5
          (try rw [hW])
          obtain ⟨g7, hg7⟩ : ∃ g, wi.heap.size = g := ⟨_, rfl⟩
          rw [hg7] at P5
          (try rw [hg7])
          clear hW hg7 d0 d1 b1 b2
          obtain ⟨p0, p1⟩ := P5.out.cells
          have w3 := hw3.out.1
          have w3' := hw3.out.2
          have w5 := hw5.out.1
          have w5' := hw5.out.2
          go_wp2_with fail
          (try simp only [w3, w3', e3, e4, w5, w5'])
          clear w3 w3' w5 w5' e3 e4 p0 p1
          refine (CR _).out.mono ?_
          rintro e w6 ⟨rfl, j6, rfl⟩
          have C6 := hide (C5.out.below (below_drewN (Below.refl _ _) j6))
          have B6 := hide (below_drewN B5.out j6)
          have V6 := hide (below_drewN V5.out j6)
          obtain ⟨X, hX⟩ : ∃ X, g ^ d % n = X := ⟨_, rfl⟩
          rw [hX]
          by_cases hX1 : X = 1
          · have r1 : ((X : Int) == 1) = true := by rw [(natb X).1]; simpa using hX1
            have r1' : decide ((X : Int) = 1) = true := by rw [(natb X).2.1]; simpa using hX1
            have hne : g ≠ R := fun e => HR2.out _ (List.mem_of_getElem? HX.out) (by show R ^ (E / pp) % n = 1; rw [HDD.out, ← e, hX]; exact hX1)
            clear hX hX1 HX HDD
            have w4 := hw4.out.1
            have w4' := hw4.out.2
            go_wp2_with fail
            (try simp only [w4, w4'])
            clear w4 w4' hw4 hw2 hw5 r1 r1'
            go_roundg (R + 1 - (g + 1))
            case measure => omega
            case rel => exact ⟨g + 1, rfl, rfl, by omega, by omega, by rw [if_pos (by omega)]; exact C6, B6, V6⟩
          · have r1 : ((X : Int) == 1) = false := by rw [(natb X).1]; simpa using hX1
            have r1' : decide ((X : Int) = 1) = false := by rw [(natb X).2.1]; simpa using hX1
            have HJ2 : Hid (∀ (j : Nat) (x : Nat × Nat), j < i + 1 → ps[j]? = some x → g ^ (E / x.1) % n ≠ 1) := hide (fun j x h hx => by
              by_cases hj : j < i
              · exact HJ.out j x hj hx
              · obtain rfl : j = i := by omega
                rw [HX.out] at hx
                injection hx with hx
                subst hx
                show g ^ (E / pp) % n ≠ 1
                rw [HDD.out, hX]
                exact hX1)
            clear hX hX1 HX HDD HJ
            have w2 := hw2.out.1
            have w2' := hw2.out.2
            go_wp2_with fail
            (try simp only [w2, w2'])
            clear w2 w2' hw4 hw2 hw5 r1 r1'
            go_roundg (N - (i + 1))
            case measure => omega
            case rel => exact ⟨i + 1, rfl, rfl, by omega, HJ2, C6, B6, V6⟩
        · as_aux_lemma =>
          have hiN : N = i := by omega
          subst hiN
          have hgR2 : g = R := by
            refine Classical.byContradiction fun hne => ?_
            obtain ⟨x, hx, hx1⟩ := HR1.out g hg2 (by omega)
            obtain ⟨j, hj⟩ := List.getElem?_of_mem hx
            exact HJ.out j x (by have := (List.getElem?_eq_some_iff.1 hj).1; rw [HN.out] at this; exact this) hj hx1
          subst hgR2
          have C6 := hide (HC.out.set1 (g : Nat))
          have hlt := HLT.out
          have B6 := hide (HB.out.setCell (p := ⟨g4, 1, none⟩) (Nat.le_trans hlt HG4.out) (.int .i64 (g : Nat)))
          have V6 := hide (HV.out.setCell (p := ⟨g4, 1, none⟩) HG4.out (.int .i64 (g : Nat)))
          obtain ⟨c0, c1, c2⟩ := HC.out.cells
          have f1 := HC.out.frozen 1
          have hw4 := hide (show IntKind.i64.wrap ((g : Int) + 1) = (g : Int) + 1 ∧ wrap64 ((g : Int) + 1) = (g : Int) + 1 by have := HRN.out.2; rw [IntKind.wrap_i64]; unfold wrap64; omega)
          clear hlt HC HB HV hgr
          have w4 := hw4.out.1
          have w4' := hw4.out.2
          go_wp2_with fail
          (try simp only [w4, w4'])
          clear w4 w4' hw4
          go_roundg (g + 1 - (g + 1))
          case measure => omega
          case rel => exact ⟨g + 1, rfl, rfl, by omega, by omega, by rw [if_neg (by omega)]; exact C6, B6, V6⟩
    · as_aux_lemma =>
      rw [if_neg hgr] at HC
      obtain ⟨c0, c1, c2⟩ := HC.out.cells
      have hRp : ¬ (R : Int) = 0 := by have := HRN.out.1; omega
      have r1 : ((R : Int) == 0) = false := by simpa using hRp
      have r1' : decide ((R : Int) = 0) = false := by simpa using hRp
      have HL0 := hide (CO.nil wo w1.heap.size)
      clear hRp hgr hg2 hgR
      go_wp2_with fail
      clear r1 r1' c0 c1 c2
      go_loopw [43] (fun iv wr => ∃ (i : Nat) (sA : Option Addr) (sn sc : Nat) (LL : List (Tree × Value)), iv = .int .i64 (i : Nat) ∧ i ≤ N ∧ sn = i ∧ LL.length = i ∧ Hid (CO wr w1.heap.size (.slice sA sn sc) LL) ∧ Hid (CB wr g4 (n : Nat) (R : Nat) (.slice sA sn sc)) ∧ Hid (Below W0.heap.size W0 wr) ∧ Hid (Below w1.heap.size w1 wr) ∧ Hid ((Value.slice sA sn sc).ownBlock ≠ some g4)) (fun iv _ => N - (intOf iv).toNat)
      case atStart => exact ⟨0, none, 0, 0, [], rfl, by omega, rfl, rfl, HL0, HC, HB, HV, hide (by simp [Value.ownBlock])⟩
      case round =>
        clear HL0 HC HB HV
        obtain ⟨i, sA, sn, sc, LL, rfl, hi, rfl, hLL, HO, HC, HB, HV, HNG⟩ := hrel
        obtain ⟨wi, rfl⟩ : ∃ Z : World, Z = wr := ⟨_, rfl⟩
        by_cases hin : sn < N
        · as_aux_lemma =>
          obtain ⟨gp, cp, x, hv, hgp, hx, d0, d1⟩ := (HVV.out wi HV.out).at_ (j := sn) (by rw [HN.out]; exact hin)
          obtain ⟨pp, pt⟩ := x
          injection hv with hv1 hv2 hv3
          subst hv1 hv3
          clear hv2
          have CG := fun W (h : TabW W) => hide (HG.out _ (List.mem_of_getElem? hx) W h)
          unfold RetGrow at CG
          simp only at d0 d1 CG
          have b1 : (0 : Int) ≤ (sn : Int) := by omega
          have b2 : (sn : Int) < (N : Int) := by omega
          have hw2 := hide (show IntKind.i64.wrap ((sn : Int) + 1) = (sn : Int) + 1 ∧ wrap64 ((sn : Int) + 1) = (sn : Int) + 1 by rw [IntKind.wrap_i64]; unfold wrap64; omega)
          have HSB := hide (show sn ≤ 100 by omega)
          have HSN := hide hLL
          have hbo := bel_o wi (.cells #[.int .i64 (pp : Nat), .int .i64 (pt : Nat)] 64)
          have CB5 := hide (HC.out.below hbo)
          have CO5 := hide (HO.out.below hbo)
          have HB5 := hide (HB.out.trans (hbo.mono HB.out.size))
          have HV5 := hide (HV.out.trans (hbo.mono HV.out.size))
          have PB5 := hide (PB.made wi pp pt)
          have NG : Hid ((Value.slice sA sn sc).ownBlock ≠ some g4 ∧ (Value.slice sA sn sc).ownBlock ≠ some wi.heap.size) := hide ⟨HNG.out, fun e => by have := (HO.out.own _ e).2; omega⟩
          clear hx hbo hgp HC HO HB HV HNG hi hLL
          go_upto_region 17 with (fail)
          obtain ⟨W5, hW⟩ : ∃ Z, wi.alloc (.cells #[.int .i64 (pp : Nat), .int .i64 (pt : Nat)] 64) = Z := ⟨_, rfl⟩
          rw [hW] at CB5 CO5 HB5 HV5 PB5
          (try rw [hW])
          obtain ⟨g9, hg9⟩ : ∃ g, wi.heap.size = g := ⟨_, rfl⟩
          rw [hg9] at PB5 NG
          (try rw [hg9])
          clear hW hg9 d0 d1 b1 b2
          have HT5 := hide (HTW.out _ (HD.out _ HB5.out).2)
          have KS := fun W (h1 : CB W g4 (n : Nat) (R : Nat) (.slice sA sn sc)) (h2 : PB W g9 pp pt) => (show (((W.cell? ⟨g4, 0, none⟩ = some (.int .i64 (n : Nat)) ∧ W.cell? ⟨g4, 1, none⟩ = some (.int .i64 (R : Nat)) ∧ W.cell? ⟨g4, 2, none⟩ = some (.slice sA sn sc)) ∧ W.frozen? ⟨g4, 2, none⟩ = false) ∧ W.cell? ⟨g9, 0, none⟩ = some (.int .i64 (pp : Nat))) from ⟨⟨h1.cells, h1.frozen 2⟩, h2.cells.1⟩)
          refine wp_region_P (fun W => ((W.cell? ⟨g4, 0, none⟩ = some (.int .i64 (n : Nat)) ∧ W.cell? ⟨g4, 1, none⟩ = some (.int .i64 (R : Nat)) ∧ W.cell? ⟨g4, 2, none⟩ = some (.slice sA sn sc)) ∧ W.frozen? ⟨g4, 2, none⟩ = false) ∧ W.cell? ⟨g9, 0, none⟩ = some (.int .i64 (pp : Nat))) 8 (by rfl) ((KS _ (CB5.out.below (below_drewN (Below.refl _ _) 1)) (PB5.out.below (below_drewN (Below.refl _ _) 1)))) ?_
          intro hS
          refine wpAnyP_take 0 47 [0, 8] (v := ?_) rfl (by kernel_rfl) (by kernel_rfl) (by kernel_rfl) (by kernel_rfl) (by kernel_rfl) (by kernel_rfl) (by rfl) (fun _ _ _ h => h) (Or.inl ⟨by rfl, ?_⟩) hS ?_; rotate_left
          · (intro w hSw; (try dsimp only at hSw); go_simp; (try with_reducible rfl))
          (try simp only [List.setIfInBounds_toArray, List.set_cons_zero, List.set_cons_succ])
          refine wpAnyP_take 1 48 [1, 8] (v := ?_) rfl (by kernel_rfl) (by kernel_rfl) (by kernel_rfl) (by kernel_rfl) (by kernel_rfl) (by kernel_rfl) (by rfl) (fun _ _ _ h => h) (Or.inl ⟨by rfl, ?_⟩) hS ?_; rotate_left
          · (intro w hSw; (try dsimp only at hSw); go_simp; (try with_reducible rfl))
          (try simp only [List.setIfInBounds_toArray, List.set_cons_zero, List.set_cons_succ])
          refine wpAnyP_take 2 49 [2, 8] (v := ?_) rfl (by kernel_rfl) (by kernel_rfl) (by kernel_rfl) (by kernel_rfl) (by kernel_rfl) (by kernel_rfl) (by rfl) (fun _ _ _ h => h) (Or.inl ⟨by rfl, ?_⟩) hS ?_; rotate_left
          · (intro w hSw; (try dsimp only at hSw); go_simp; (try with_reducible rfl))
          (try simp only [List.setIfInBounds_toArray, List.set_cons_zero, List.set_cons_succ])
          refine wpAnyP_take 3 50 [3, 8] (v := ?_) rfl (by kernel_rfl) (by kernel_rfl) (by kernel_rfl) (by kernel_rfl) (by kernel_rfl) (by kernel_rfl) (by rfl) (fun _ _ _ h => h) (Or.inl ⟨by rfl, ?_⟩) hS ?_; rotate_left
          · (intro w hSw; (try dsimp only at hSw); go_simp; (try with_reducible rfl))
          (try simp only [List.setIfInBounds_toArray, List.set_cons_zero, List.set_cons_succ])
          refine wpAnyP_one 4 rfl (by kernel_rfl) (fun K hK => ?_)
          go_simp
          refine (CG _ (HT5.out.drewN 1)).out.mono ?_
          rintro e w6 ⟨yr, yA, yn, yc, rfl, hb⟩
          have CB6 := hide ((CB5.out.below (below_drewN (Below.refl _ _) 1)).below hb)
          have PB6 := hide ((PB5.out.below (below_drewN (Below.refl _ _) 1)).below hb)
          have CO6 := hide ((CO5.out.below (below_drewN (Below.refl _ _) 1)).below hb)
          have HB6 := hide ((below_drewN HB5.out 1).trans (hb.mono HB5.out.size))
          have HV6 := hide ((below_drewN HV5.out 1).trans (hb.mono HV5.out.size))
          clear hb hS
          have hS := KS _ CB6.out PB6.out
          refine hK.out _ _ (fun _ => hS) ?_
          clear hK K
          (try simp only [Act.put, List.setIfInBounds_toArray, List.set_cons_zero, List.set_cons_succ])
          refine wpAnyP_one 5 rfl (by kernel_rfl) (fun K hK => ?_)
          go_simp
          have hbo := bel_o w6 (.cells #[.int .i64 (pp : Nat), .int .i64 yr, .slice yA yn yc] 24)
          have CB7 := hide (CB6.out.below hbo)
          have PB7 := hide (PB6.out.below hbo)
          have CO7 := hide (CO6.out.below hbo)
          have HB7 := hide (HB6.out.trans (hbo.mono HB6.out.size))
          have HV7 := hide (HV6.out.trans (hbo.mono HV6.out.size))
          clear hbo hS
          have hS := KS _ CB7.out PB7.out
          refine hK.out _ _ (fun _ => hS) ?_
          clear hK K
          (try simp only [Act.put, List.setIfInBounds_toArray, List.set_cons_zero, List.set_cons_succ])
          refine wpAnyP_one 6 rfl (by kernel_rfl) (fun K hK => ?_)
          rw [if_pos (by rfl)]
          refine wp_append_lies _ _ _ 22 (by rfl) w1.heap.size 24 i0 (.agg #[.int .i64 0, .int .i64 0, .slice none 0 0]) 3 40 Tryd.underlying22 HI.out.1 HI.out.2.1 HI.out.2.2.1 HI.out.2.2.2 rfl (by decide) (.slice sA sn sc) sn (LL.flatMap encC) (by rfl) (by have := CO7.out; unfold CO at this; rw [HSN.out] at this; exact this) ⟨w6.heap.size, 0, none⟩ 1 1 [.int .i64 (pp : Nat), .int .i64 yr, .slice yA yn yc] (by rfl) rfl (World.news_of_block (heap_alloc_new w6 _)) ?c2 (by decide) ?c3 ?c4 ?c5 (w6.heap.size + 1) (by simp) ?_
          case c2 => intro u hu; simp at hu; rcases hu with rfl | rfl | rfl <;> rfl
          case c3 => have := HSB.out; simp only [maxLen]; omega
          case c4 => have := HSB.out; omega
          case c5 => exact HV7.out.size
          intro g8 cap8 W8 hown8 hg8 hat8 hlt8
          have CB8 := hide (CB7.out.grown hg8 (fun e => NG.out.1 e.symm))
          have PB8 := hide (PB7.out.grown hg8 (fun e => NG.out.2 e.symm))
          have CO8 : Hid (CO W8 w1.heap.size (.slice (some ⟨g8, 0, none⟩) (sn + 1) cap8) (LL ++ [(Tree.mk (pp : Nat) yr [], .slice yA yn yc)])) := hide (CO.grow (by rw [HSN.out]; exact hown8))
          have HB8 := hide (HB7.out.grown hg8 HB7.out.size (fun k e => Nat.le_trans HLT.out (CO7.out.own k e).1))
          have HV8 := hide (HV7.out.grown hg8 HV7.out.size (fun k e => (CO7.out.own k e).1))
          have NG8 : Hid ((Value.slice (some ⟨g8, 0, none⟩) (sn + 1) cap8).ownBlock ≠ some g4) := hide (not_own NG.out.1 hat8 (by have := CB6.out.lt; omega))
          clear hown8 hg8 hat8 hlt8 hS
          have hS := KS _ CB8.out PB8.out
          refine hK.out _ _ (fun _ => hS) ?_
          clear hK K
          (try simp only [Act.put, List.setIfInBounds_toArray])
          refine wpAnyP_take 7 54 [7, 8] (v := ?_) rfl (by kernel_rfl) (by kernel_rfl) (by kernel_rfl) (by kernel_rfl) (by kernel_rfl) (by kernel_rfl) (by rfl) (fun _ _ _ h => h) (Or.inl ⟨by rfl, ?_⟩) hS ?_; rotate_left
          · (intro w hSw; (try dsimp only at hSw); go_simp; (try with_reducible rfl))
          (try simp only [List.setIfInBounds_toArray, List.set_cons_zero, List.set_cons_succ])
          refine wpAnyP_one 8 rfl (by kernel_rfl) (fun K hK => ?_)
          go_simp
          refine hK.out _ _ (fun h => by simp at h) ?_
          clear hK K
          (try simp only [Act.put, List.setIfInBounds_toArray])
          refine wpAnyP_done (by kernel_rfl) ?_ _
          have CB9 := hide (CB8.out.set2 (.slice (some ⟨g8, 0, none⟩) (sn + 1) cap8))
          have CO9 := hide (CO8.out.set_other (k := 2) NG8.out (.slice (some ⟨g8, 0, none⟩) (sn + 1) cap8))
          have HB9 := hide (HB8.out.setCell (p := ⟨g4, 2, none⟩) (Nat.le_trans HLT.out HG4.out) (.slice (some ⟨g8, 0, none⟩) (sn + 1) cap8))
          have HV9 := hide (HV8.out.setCell (p := ⟨g4, 2, none⟩) HG4.out (.slice (some ⟨g8, 0, none⟩) (sn + 1) cap8))
          have hl9 : (LL ++ [(Tree.mk (pp : Nat) yr [], Value.slice yA yn yc)]).length = sn + 1 := by rw [List.length_append, HSN.out]; rfl
          clear hS CB8 CO8 HB8 HV8 CB7 CO7 HB7 HV7 CB6 CO6 HB6 HV6 PB6 PB7 PB8
          have w2 := hw2.out.1
          have w2' := hw2.out.2
          go_wp2_with fail
          (try simp only [w2, w2'])
          clear w2 w2' hw2
          exact ⟨⟨sn + 1, some ⟨g8, 0, none⟩, sn + 1, cap8, _, rfl, by omega, rfl, hl9, CO9, CB9, HB9, HV9, NG8⟩, by simp [intOf]; omega⟩
        · as_aux_lemma =>
          have hiN : N = sn := by omega
          subst hiN
          obtain ⟨c0, c1, c2⟩ := HC.out.cells
          obtain ⟨hD, hB⟩ := HD.out wi HB.out
          have z0 := hD.frozen 0
          have z1 := hD.frozen 1
          have z2 := hD.frozen 2
          obtain ⟨d0, d1, d2⟩ := hD.cells
          have hbp := hide (bel_put hB (Nat.le_refl w.heap.size) (.int .i64 (n : Nat)) (.int .i64 (R : Nat)) (.slice sA N sc))
          have hcp := hide (hD.put (n : Nat) (R : Nat) (.slice sA N sc))
          clear hD hB HC HO HB HV HNG
          go_wp2_with fail
          obtain ⟨G0, G1, G2⟩ := hcp.out.cells
          exact bodyPost_ret (v := .agg #[.int .i64 (n : Nat), .int .i64 (R : Nat), .slice sA N sc]) (by simp [results, Tryd.results20, go_sem, G0, G1, G2]) rfl ⟨(R : Nat), sA, N, sc, rfl, hbp.out⟩
end Go.Proofs.YtlchmaiflcnaoaaDoor
