/- The walk of arithmeticabig's Int.GCD, of two numbers above 0, the first factor wanted and the second one not. -/
import Derived.Test.YticgnjapgbjfiaaDoorIntF
import Derived.Test.YticgnjapgbjfiaaDoorArith
import Derived.Deep.LoopGhost
namespace Go.Proofs.YticgnjapgbjfiaaDoor
open Go.RowKit

/-- what GCD says -/
def RetGCD (w : World) (g u : Nat) (A B : Int) : Ending → World → Prop := fun e w' => ∃ s : Int, e = .returned (.pointer (some ⟨g, 0, none⟩)) ∧ IntAt w' g (Int.gcd A B : Int) ∧ IntAt w' u s ∧ B ∣ (Int.gcd A B : Int) - s * A ∧ s.natAbs ≤ max 1 B.natAbs ∧ Touch w w' [g, u]

theorem IntAt.abs1 {w : World} {g : Nat} {X : Int} (h : IntAt w g X) (hl : X.natAbs < lim) (h0 : X ≠ 0) : ∃ (A : Option Addr) (n c : Nat), w.cell? ⟨g, 1, none⟩ = some (.slice A n c) ∧ 0 < n := by
  obtain ⟨n, v, _, h1, hv, _⟩ := h.cells
  obtain ⟨A, k, c, l, rfl, hw, hn, hlv, _⟩ := hv.open_ hl
  refine ⟨A, k, c, h1, ?_⟩
  have := len_zero hw.len hn hlv
  by_cases hk : k = 0
  · have := this.1 hk; omega
  · omega
theorem IntAt.abs0 {w : World} {g : Nat} {X : Int} (h : IntAt w g X) (hl : X.natAbs < lim) (h0 : X = 0) : ∃ (A : Option Addr) (c : Nat), w.cell? ⟨g, 1, none⟩ = some (.slice A 0 c) := by
  obtain ⟨n, v, _, h1, hv, _⟩ := h.cells
  obtain ⟨A, k, c, l, rfl, hw, hn, hlv, _⟩ := hv.open_ hl
  have := (len_zero hw.len hn hlv).2 (by omega)
  subst this
  exact ⟨A, c, h1⟩

/-- an Int block of the call's own -/
theorem IntAt.more {w w1 w' : World} {g : Nat} {X : Int} (h : IntAt w g X) (k : Below w.heap.size w w1) (k2 : Below w1.heap.size w1 w') : IntAt w' g X := (h.below k).below k2

theorem ext_bounds {A B p q u v : Int} {L : Nat} (h : Ar.Ext A B p q u v) (hl : (A.natAbs + B.natAbs + 2) * (A.natAbs + B.natAbs + 2) < L) :
    p.natAbs < L ∧ q.natAbs < L ∧ u.natAbs < L ∧ v.natAbs < L ∧ (A * u).natAbs + p.natAbs + 1 < L := by
  have h1 := h.ale
  have h2 := h.ble
  have h3 := h.ule
  have h4 := h.vle
  have h5 : A.natAbs + B.natAbs + 2 ≤ (A.natAbs + B.natAbs + 2) * (A.natAbs + B.natAbs + 2) := Nat.le_mul_of_pos_left _ (by omega)
  have h6 : (A * u).natAbs ≤ A.natAbs * (B.natAbs + 1) := by rw [Int.natAbs_mul]; exact Nat.mul_le_mul_left _ (by omega)
  have h7 : A.natAbs * (B.natAbs + 1) + (A.natAbs + B.natAbs + 2) ≤ (A.natAbs + B.natAbs + 2) * (A.natAbs + B.natAbs + 2) := by
    generalize A.natAbs = x
    generalize B.natAbs = y
    have : (x + y + 2) * (x + y + 2) = x * (y + 1) + (x + y + 2) + (x * x + y * x + 2 * x + (y + 1) * (y + 2)) := by grind
    omega
  omega

set_option maxRecDepth 100000 in
set_option maxHeartbeats 3200000 in
theorem gcd_int (g u a b : Nat) (A B : Int) (w : World) (hz : IntBlk w g) (hu : IntBlk w u) (hgu : g ≠ u) (ha : IntAt w a A) (hb : IntAt w b B) (hA : 0 < A) (hB : 0 < B) (hl : (A.natAbs + B.natAbs + 2) * (A.natAbs + B.natAbs + 2) < lim) :
    Calls Tryd.prog 120 #[.pointer (some ⟨g, 0, none⟩), .pointer (some ⟨u, 0, none⟩), .pointer none, .pointer (some ⟨a, 0, none⟩), .pointer (some ⟨b, 0, none⟩)] w (RetGCD w g u A B) := by
  have E0 := hide (Ar.Ext.start A B)
  obtain ⟨l1, l2, _, _, _⟩ := ext_bounds E0.out hl
  obtain ⟨Aa, na, ca, a1, na0⟩ := ha.abs1 l1 (by omega)
  obtain ⟨Ab, nb, cb, b1, nb0⟩ := hb.abs1 l2 (by omega)
  have an := ha.neg0
  have bn := hb.neg0
  rw [show decide (A < 0) = false from by simp; omega] at an
  rw [show decide (B < 0) = false from by simp; omega] at bn
  have t1 : ((na : Int) == 0) = false := by simp; omega
  have t2 : ((nb : Int) == 0) = false := by simp; omega
  have HA := hide ha
  have HB := hide hb
  have HZ := hide hz
  have HU := hide hu
  have HGU := hide hgu
  have HL := hide hl
  have L1 : Hid (A.natAbs < lim ∧ B.natAbs < lim) := ⟨l1, l2⟩
  have HP : Hid (0 < A ∧ 0 < B) := ⟨hA, hB⟩
  have hal := ha.lt
  have hbl := hb.lt
  clear ha hb hz hu hgu hl l1 l2 hA hB na0 nb0
  have N1 := fun W => hide (newInt_any 1 W (by omega) (by omega))
  have N0 := fun W => hide (newInt_any 0 W (by omega) (by omega))
  have hB0 : Below w.heap.size w (w.alloc (.cells #[.bool false, .slice none 0 0] 69)) := (Below.refl _ _).alloc (Nat.le_refl _) _
  have CA := hide (abs_int w.heap.size a A _ (blk_newInt w) (HA.out.below hB0) L1.out.1)
  have HB0 := hide hB0
  clear hB0
  go_enter Tryd.func120, Tryd.ntmps120
  go_wp2_with fail
  refine CA.out.mono ?_
  rintro e w1 ⟨rfl, hi, hg⟩
  have B1 := hide (below_of_grown HB0.out hg HB0.out.size (Nat.le_refl _))
  have P1 := hide hi
  have hB1 : Below w1.heap.size w1 (w1.alloc (.cells #[.bool false, .slice none 0 0] 69)) := (Below.refl _ _).alloc (Nat.le_refl _) _
  have CB := hide (abs_int w1.heap.size b B _ (blk_newInt w1) ((HB.out.below B1.out).below hB1) L1.out.2)
  have HB1 := hide hB1
  clear hi hg hB1
  go_wp2_with fail
  refine CB.out.mono ?_
  rintro e w2 ⟨rfl, hi, hg⟩
  have B2 := hide (below_of_grown (B1.out.trans (HB1.out.mono B1.out.size)) hg (Nat.le_trans B1.out.size HB1.out.size) B1.out.size)
  have P2 := hide ((P1.out.below HB1.out).grown hg (blk_newInt w1) (by have := P1.out.lt; omega))
  have Q2 := hide hi
  clear hi hg
  go_wp2_with fail
  refine (N1 _).out.mono ?_
  rintro e w3 ⟨s, rfl, hs, hi, hb⟩
  have B3 := hide (B2.out.trans (hb.mono B2.out.size))
  have P3 := hide (P2.out.below hb)
  have Q3 := hide (Q2.out.below hb)
  have S3 := hide hi
  have hs3 : w.heap.size ≤ s := Nat.le_trans B2.out.size hs
  clear hi hb hs
  go_wp2_with fail
  refine (N0 _).out.mono ?_
  rintro e w4 ⟨t, rfl, ht, hi, hb⟩
  have B4 := hide (B3.out.trans (hb.mono B3.out.size))
  have P4 := hide (P3.out.below hb)
  have Q4 := hide (Q3.out.below hb)
  have S4 := hide (S3.out.below hb)
  have T4 := hide hi
  have ht4 : w.heap.size ≤ t := Nat.le_trans B3.out.size ht
  have hq4 : w.heap.size ≤ w1.heap.size := B1.out.size
  clear hi hb ht
  rw [show (A.natAbs : Int) = A from by have := HP.out; omega] at P4
  rw [show (B.natAbs : Int) = B from by have := HP.out; omega] at Q4
  go_wp2_with fail
  have R0 : Hid (IntAt w4 w.heap.size A ∧ IntAt w4 w1.heap.size B ∧ IntAt w4 s 1 ∧ IntAt w4 t 0 ∧ Ar.Ext A B A B 1 0 ∧ 0 < A ∧ 0 ≤ B ∧ w.heap.size ≤ w.heap.size ∧ w.heap.size ≤ w1.heap.size ∧ w.heap.size ≤ s ∧ w.heap.size ≤ t) := ⟨P4.out, Q4.out, S4.out, T4.out, E0.out, HP.out.1, by have := HP.out; omega, by omega, hq4, hs3, ht4⟩
  go_loopg [15, 16, 17, 18] B.natAbs (fun N v1 v2 v3 v4 wr => ∃ (i j k l : Nat) (p q x y : Int), N = q.natAbs ∧ v1 = .pointer (some ⟨i, 0, none⟩) ∧ v2 = .pointer (some ⟨j, 0, none⟩) ∧ v3 = .pointer (some ⟨k, 0, none⟩) ∧ v4 = .pointer (some ⟨l, 0, none⟩) ∧ Hid (IntAt wr i p ∧ IntAt wr j q ∧ IntAt wr k x ∧ IntAt wr l y ∧ Ar.Ext A B p q x y ∧ 0 < p ∧ 0 ≤ q ∧ w.heap.size ≤ i ∧ w.heap.size ≤ j ∧ w.heap.size ≤ k ∧ w.heap.size ≤ l) ∧ Hid (Below w.heap.size w wr))
  case atStart => exact ⟨w.heap.size, w1.heap.size, s, t, A, B, 1, 0, rfl, rfl, rfl, rfl, rfl, R0, B4⟩
  case round =>
    clear R0 P4 Q4 S4 T4 B4 P1 P2 P3 Q2 Q3 S3 CA CB hs3 ht4 hq4
    obtain ⟨i, j, k, l, p, q, x, y, rfl, rfl, rfl, rfl, rfl, HR, HW⟩ := hrel
    have hbd := ext_bounds HR.out.2.2.2.2.1 HL.out
    have hq := HR.out.2.1
    by_cases hq0 : q = 0
    · subst hq0
      obtain ⟨Aq, cq, q1⟩ := hq.abs0 hbd.2.1 rfl
      have a0 := (HW.out.cell (p := ⟨a, 0, none⟩) hal).trans an
      have GE := hide HR.out.2.2.2.2.1.fin
      have HB2 := hide hbd
      have b1 : Below wr.heap.size wr (wr.alloc (.cells #[.bool false, .slice none 0 0] 69)) := (Below.refl _ _).alloc (Nat.le_refl _) _
      have CM := hide (mul_int wr.heap.size a k A x _ (blk_newInt wr) ((HA.out.below HW.out).below b1) (HR.out.2.2.1.below b1) L1.out.1 hbd.2.2.1 (by have := hbd.2.2.2.2; omega))
      have HB1 := hide b1
      clear hbd hq b1
      go_wp2_with fail
      refine CM.out.mono ?_
      rintro e w5 ⟨rfl, hm, hg⟩
      have B5 := hide (below_of_grown HB1.out hg HB1.out.size (Nat.le_refl _))
      have i5 := HR.out.1.below B5.out
      have M5 := hide hm
      have CS := hide (sub_int wr.heap.size i wr.heap.size p (A * x) w5 hm.blk i5 hm HB2.out.1 (by have := HB2.out.2.2.2.2; omega) (by have := HB2.out.2.2.2.2; omega))
      clear hm hg i5
      go_wp2_with fail
      refine CS.out.mono ?_
      rintro e w6 ⟨rfl, hm, hg⟩
      have B6 := hide (below_of_grown B5.out hg B5.out.size (Nat.le_refl _))
      have CQ := hide (quo_int wr.heap.size wr.heap.size b (p - A * x) B w6 hm.blk hm ((HB.out.below HW.out).below B6.out) (by have := HB2.out.2.2.2.2; omega) L1.out.2 (by have := HP.out; omega))
      clear hm hg
      go_wp2_with fail
      refine CQ.out.mono ?_
      rintro e w7 ⟨rfl, hm, hg⟩
      have B7 := hide (below_of_grown B6.out hg B6.out.size (Nat.le_refl _))
      have W7 := hide (HW.out.trans (B7.out.mono HW.out.size))
      have U7 := hide (HU.out.below W7.out)
      have CX := hide (set_int u k x w7 U7.out (HR.out.2.2.1.below B7.out) HB2.out.2.2.1)
      clear hm hg
      go_wp2_with fail
      refine CX.out.mono ?_
      rintro e w8 ⟨rfl, hm, hg⟩
      have G8 := hide ((HZ.out.below W7.out).grown hg HGU.out)
      have I8 := hide ((HR.out.1.below B7.out).grown hg U7.out (by have := HU.out.lt; have := HR.out; omega))
      have CG := hide (set_int g i p w8 G8.out I8.out HB2.out.1)
      have U8 := hide hm
      have T8 := hide ((Touch.of_below W7.out).trans (Touch.of_grown hg))
      clear hm hg
      go_wp2_with fail
      refine CG.out.mono ?_
      rintro e w9 ⟨rfl, hm, hg⟩
      have U9 := hide (U8.out.grown hg G8.out (Ne.symm HGU.out))
      have T9 := hide (T8.out.trans (Touch.of_grown hg))
      have G9 := hide hm
      clear hm hg
      go_wp2_with fail
      go_ret
      have hp : p = (Int.gcd A B : Int) := by have := GE.out.1; have := HR.out.2.2.2.2.2.1; omega
      refine ⟨x, rfl, by rw [← hp]; exact G9.out, U9.out, by rw [← hp]; exact GE.out.2, HR.out.2.2.2.2.1.ule, T9.out.mono (by intro z hz _; simp at hz ⊢; omega)⟩
    · obtain ⟨Aq, nq, cq, q1, nq0⟩ := hq.abs1 hbd.2.1 hq0
      have HB2 := hide hbd
      have hst := HR.out.2.2.2.2.1.step hq0
      have HST := hide hst
      have t3 : decide (0 < nq) = true := by simpa using nq0
      have HQ0 := hide hq0
      have g1 : IntBlk (wr.alloc (.cells #[.bool false, .slice none 0 0] 69)) wr.heap.size := blk_newInt wr
      have b1 : Below wr.heap.size wr (wr.alloc (.cells #[.bool false, .slice none 0 0] 69)) := (Below.refl _ _).alloc (Nat.le_refl _) _
      have b2 : Below (wr.heap.size + 1) (wr.alloc (.cells #[.bool false, .slice none 0 0] 69)) ((wr.alloc (.cells #[.bool false, .slice none 0 0] 69)).alloc (.cells #[.bool false, .slice none 0 0] 69)) := (Below.refl _ _).alloc (by simp) _
      have g2 : IntBlk ((wr.alloc (.cells #[.bool false, .slice none 0 0] 69)).alloc (.cells #[.bool false, .slice none 0 0] 69)) (wr.heap.size + 1) := by
        have := blk_newInt (wr.alloc (.cells #[.bool false, .slice none 0 0] 69))
        simpa using this
      have b12 := b1.trans (b2.mono (by omega))
      have CQ := hide (quoRem_int wr.heap.size i j (wr.heap.size + 1) p q _ (g1.below (by simpa using b2)) g2 (by omega) (HR.out.1.below b12) (hq.below b12) hbd.1 hbd.2.1 hq0)
      have HB12 := hide b12
      have G12 := hide (And.intro (g1.below (by simpa using b2)) g2)
      clear hbd hq hst hq0 nq0 g1 g2 b1 b2 b12
      go_wp2_with fail
      refine CQ.out.mono ?_
      rintro e w5 ⟨rfl, hd, hr, ht⟩
      have hl : ∀ z ∈ [wr.heap.size, wr.heap.size + 1], z < ((wr.alloc (.cells #[.bool false, .slice none 0 0] 69)).alloc (.cells #[.bool false, .slice none 0 0] 69)).heap.size → IntBlk ((wr.alloc (.cells #[.bool false, .slice none 0 0] 69)).alloc (.cells #[.bool false, .slice none 0 0] 69)) z := by
        intro z hz _
        simp at hz
        rcases hz with rfl | rfl
        · exact G12.out.1
        · exact G12.out.2
      have hj := ht.int hl (HR.out.2.1.below HB12.out) (by have := HR.out.2.1.lt; simp; omega)
      have hk := ht.int hl (HR.out.2.2.1.below HB12.out) (by have := HR.out.2.2.1.lt; simp; omega)
      have hll := ht.int hl (HR.out.2.2.2.1.below HB12.out) (by have := HR.out.2.2.2.1.lt; simp; omega)
      have B5 : Hid (Below wr.heap.size wr w5) := HB12.out.trans (ht.below HB12.out.size (by intro z hz; simp at hz; omega))
      have J5 := hide hj
      have K5 := hide hk
      have L5 := hide hll
      have D5 := hide hd
      have R5 := hide hr
      clear hl hj hk hll hd hr ht
      have g1 : IntBlk (w5.alloc (.cells #[.bool false, .slice none 0 0] 69)) w5.heap.size := blk_newInt w5
      have b1 : Below w5.heap.size w5 (w5.alloc (.cells #[.bool false, .slice none 0 0] 69)) := (Below.refl _ _).alloc (Nat.le_refl _) _
      have b2 : Below (w5.heap.size + 1) (w5.alloc (.cells #[.bool false, .slice none 0 0] 69)) ((w5.alloc (.cells #[.bool false, .slice none 0 0] 69)).alloc (.cells #[.bool false, .slice none 0 0] 69)) := (Below.refl _ _).alloc (by simp) _
      have g2 : IntBlk ((w5.alloc (.cells #[.bool false, .slice none 0 0] 69)).alloc (.cells #[.bool false, .slice none 0 0] 69)) (w5.heap.size + 1) := by
        have := blk_newInt (w5.alloc (.cells #[.bool false, .slice none 0 0] 69))
        simpa using this
      have b12 := b1.trans (b2.mono (by omega))
      have mb : (p.tdiv q * y).natAbs < lim := by
        have h1 := HST.out.2.2.1
        have h2 := HL.out
        have h5 : A.natAbs + B.natAbs + 2 ≤ (A.natAbs + B.natAbs + 2) * (A.natAbs + B.natAbs + 2) := Nat.le_mul_of_pos_left _ (by omega)
        omega
      have CM := hide (mul_int (w5.heap.size + 1) wr.heap.size l (p.tdiv q) y _ g2 (D5.out.below b12) (L5.out.below b12) (tdiv_lim HB2.out.1) HB2.out.2.2.2.1 mb)
      have HB52 := hide b12
      have G52 := hide (And.intro (g1.below (by simpa using b2)) g2)
      have MB := hide mb
      clear g1 g2 b1 b2 b12 mb
      go_wp2_with fail
      refine CM.out.mono ?_
      rintro e w6 ⟨rfl, hm, hg⟩
      have hs6 := G52.out.1.grown hg (by omega)
      have k6 := (K5.out.below HB52.out).grown hg G52.out.2 (by have := K5.out.lt; omega)
      have M6 := hide hm
      have e1 := ext_bounds HST.out.1 HL.out
      have CS := hide (sub_int w5.heap.size k (w5.heap.size + 1) x (p.tdiv q * y) w6 hs6 k6 hm HB2.out.2.2.1 MB.out e1.2.2.2.1)
      have J6 := hide ((J5.out.below HB52.out).grown hg G52.out.2 (by have := J5.out.lt; omega))
      have L6 := hide ((L5.out.below HB52.out).grown hg G52.out.2 (by have := L5.out.lt; omega))
      have R6 := hide ((R5.out.below HB52.out).grown hg G52.out.2 (by have := R5.out.lt; omega))
      have B6 : Hid (Below wr.heap.size wr w6) := below_of_grown (B5.out.trans (HB52.out.mono B5.out.size)) hg (Nat.le_trans B5.out.size HB52.out.size) (by have := B5.out.size; omega)
      have HS6 := hide hs6
      clear hm hg hs6 k6 e1
      go_wp2_with fail
      refine CS.out.mono ?_
      rintro e w7 ⟨rfl, hs, hg⟩
      have J7 := hide (J6.out.grown hg HS6.out (by have := J5.out.lt; omega))
      have L7 := hide (L6.out.grown hg HS6.out (by have := L5.out.lt; omega))
      have R7 := hide (R6.out.grown hg HS6.out (by have := R5.out.lt; omega))
      have S7 := hide hs
      have B7 : Hid (Below w.heap.size w w7) := HW.out.trans ((below_of_grown B6.out hg B6.out.size B5.out.size).mono HW.out.size)
      clear hs hg
      go_wp2_with fail
      go_roundg ((p.tmod q).natAbs)
      case measure =>
        have := HST.out.2.1
        have e2 : p - p.tdiv q * q = p.tmod q := by have := Int.tdiv_mul_add_tmod p q; omega
        rw [e2] at this
        exact this
      case rel =>
        have e2 : p - p.tdiv q * q = p.tmod q := by have := Int.tdiv_mul_add_tmod p q; omega
        have hst := HST.out.1
        rw [e2] at hst
        have hr0 := HR.out
        refine ⟨j, wr.heap.size + 1, l, w5.heap.size, q, p.tmod q, y, _, rfl, rfl, rfl, rfl, rfl, ⟨J7.out, R7.out, L7.out, S7.out, hst, ?_, ?_, ?_, ?_, ?_, ?_⟩, B7⟩
        · have := HQ0.out; omega
        · exact Int.tmod_nonneg _ (by omega)
        · exact hr0.2.2.2.2.2.2.2.2.1
        · have := HW.out.size; omega
        · exact hr0.2.2.2.2.2.2.2.2.2.2
        · have := HW.out.size; have := B5.out.size; omega
end Go.Proofs.YticgnjapgbjfiaaDoor
