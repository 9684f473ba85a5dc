/- The walk of arithmeticabig's Int.GCD, of two numbers above 0, the first factor wanted and the second one not. -/
import Derived.Test.YtpppnaljndhjcaaDoorKIntD
import Derived.Test.YtpppnaljndhjcaaDoorK0
import Derived.Deep.LoopGhost
namespace Go.Proofs.YtpppnaljndhjcaaDoor
open Go.RowKit

/-- nothing but the blocks of a list has turned -/
structure Touch (w w' : World) (l : List Nat) : Prop where
  os : w'.os = w.os
  tape : w'.tape = w.tape
  output : w'.output = w.output
  size : w.heap.size ≤ w'.heap.size
  block : ∀ k, k < w.heap.size → k ∉ l → w'.heap[k]? = w.heap[k]?
section
variable {w w1 w2 w' : World} {l r : List Nat}
theorem Touch.of_grown {g : Nat} (h : w.grownBy w' (some g)) : Touch w w' [g] :=
  ⟨h.os, h.tape, h.output, h.size, fun k hk hn => h.block k hk (by intro e; injection e with e; exact hn (by simp [e]))⟩
theorem Touch.of_below (h : Below w.heap.size w w') : Touch w w' [] := ⟨h.os, h.tape, h.output, h.size, fun k hk _ => h.block k hk⟩
theorem Touch.trans (h : Touch w w1 l) (k : Touch w1 w2 r) : Touch w w2 (l ++ r) :=
  ⟨k.os.trans h.os, k.tape.trans h.tape, k.output.trans h.output, Nat.le_trans h.size k.size, fun i hi hn => by
    rw [List.mem_append, not_or] at hn
    exact (k.block i (Nat.lt_of_lt_of_le hi h.size) hn.2).trans (h.block i hi hn.1)⟩
theorem Touch.mono (h : Touch w w' l) (k : ∀ x ∈ l, x < w.heap.size → x ∈ r) : Touch w w' r :=
  ⟨h.os, h.tape, h.output, h.size, fun i hi hn => h.block i hi (fun hm => hn (k i hm hi))⟩
theorem Touch.below {B : Nat} (h : Touch w w' l) (hB : B ≤ w.heap.size) (hl : ∀ x ∈ l, B ≤ x) : Below B w w' :=
  ⟨h.os, h.tape, h.output, h.size, fun k hk => h.block k (by omega) (fun hm => by have := hl k hm; omega)⟩
theorem Touch.words (h : Touch w w' l) (hl : ∀ x ∈ l, x < w.heap.size → IntBlk w x) : WordsKept w w' := fun k cs fr hk => h.block k (heap_lt hk) (by
  intro e
  obtain ⟨a, b, hb⟩ := hl k e (heap_lt hk)
  rw [hb] at hk
  injection hk with hk
  injection hk with _ ht
  cases ht)
theorem Touch.int {g : Nat} {X : Int} (h : Touch w w' l) (hl : ∀ x ∈ l, x < w.heap.size → IntBlk w x) (hi : IntAt w g X) (hn : g ∉ l) : IntAt w' g X := by
  have hlt := hi.lt
  have hw := h.words hl
  obtain ⟨n, v, hg, hn2, hs⟩ := hi
  exact ⟨n, v, (h.block g hlt hn).trans hg, hn2.kept hw, hs⟩
theorem Touch.blk {g : Nat} (h : Touch w w' l) (hi : IntBlk w g) (hn : g ∉ l) : IntBlk w' g := by
  have hlt := hi.lt
  obtain ⟨a, b, hg⟩ := hi
  exact ⟨a, b, (h.block g hlt hn).trans hg⟩
end

/-- what QuoRem says -/
def RetQR (w : World) (g r : Nat) (Q R : Int) : Ending → World → Prop := fun e w' => e = .returned (.tuple #[.pointer (some ⟨g, 0, none⟩), .pointer (some ⟨r, 0, none⟩)]) ∧ IntAt w' g Q ∧ IntAt w' r R ∧ Touch w w' [g, r]

theorem toI_quo (a b : Bool) {X Y : Int} (hx : a = true ↔ X < 0) (hy : b = true ↔ Y < 0) : toI (a != b) (X.natAbs / Y.natAbs) = X.tdiv Y := by
  have ex := IntAt.toI hx
  have ey := IntAt.toI hy
  generalize X.natAbs = x at ex ⊢
  generalize Y.natAbs = y at ey ⊢
  subst ex ey
  unfold toI
  cases a <;> cases b <;> simp <;> (try rfl)
theorem toI_rem (a b : Bool) {X Y : Int} (hx : a = true ↔ X < 0) (hy : b = true ↔ Y < 0) : toI a (X.natAbs % Y.natAbs) = X.tmod Y := by
  have ex := IntAt.toI hx
  have ey := IntAt.toI hy
  generalize X.natAbs = x at ex ⊢
  generalize Y.natAbs = y at ey ⊢
  subst ex ey
  unfold toI
  cases a <;> cases b <;> simp <;> (try rfl)

set_option maxRecDepth 100000 in
set_option maxHeartbeats 1600000 in
theorem quoRem_int (g p q r : Nat) (X Y : Int) (w : World) (hz : IntBlk w g) (hr : IntBlk w r) (hgr : g ≠ r) (hx : IntAt w p X) (hy : IntAt w q Y) (hxl : X.natAbs < lim) (hyl : Y.natAbs < lim) (hy0 : Y ≠ 0) :
    Calls Tryd.prog 58 #[.pointer (some ⟨g, 0, none⟩), .pointer (some ⟨p, 0, none⟩), .pointer (some ⟨q, 0, none⟩), .pointer (some ⟨r, 0, none⟩)] w (RetQR w g r (X.tdiv Y) (X.tmod Y)) := by
  obtain ⟨xn, xv, x0, x1, hxv, hxs⟩ := hx.cells
  obtain ⟨yn, yv, y0, y1, hyv, hys⟩ := hy.cells
  have hp : p < w.heap.size := hx.lt
  have hq : q < w.heap.size := hy.lt
  have C : Hid (∀ W : World, Below w.heap.size w W → Calls Tryd.prog 76 #[xv, yv] W (RetDiv W X.natAbs Y.natAbs)) := by
    intro W hW
    exact div_any xv yv _ _ W (hxv.below hW) (hyv.below hW) hxl hyl (by omega)
  have HQ := hide (toI_quo xn yn hxs hys)
  have HR := hide (toI_rem xn yn hxs hys)
  have L1 : Hid (X.natAbs / Y.natAbs < lim) := Nat.lt_of_le_of_lt (Nat.div_le_self _ _) hxl
  have L2 : Hid (X.natAbs % Y.natAbs < lim) := Nat.lt_of_le_of_lt (Nat.mod_le _ _) hxl
  have HZ := hide hz
  have HZR := hide hr
  have HN := hide hgr
  clear hz hr hgr hx hy hxl hyl hy0 hxv hyv hxs hys
  go_enter Tryd.func58, Tryd.ntmps58
  go_wp2_with fail
  go_quiet (fail)
  go_wp2_with fail
  go_region_held3 (fun w' => w'.cell? ⟨p, 1, none⟩ = some xv ∧ w'.cell? ⟨q, 1, none⟩ = some yv) (first | exact ⟨x1, y1⟩ | exact ⟨(beln_cell (by assumption) hp).trans x1, (beln_cell (by assumption) hq).trans y1⟩) (first | (go_at_call 76; refine (C.out _ (below_drewN (Below.refl _ _) (nq + 1))).mono ?_; rintro e w1 ⟨v1, v2, rfl, hv1, hv2, hb⟩))
  have HB := hide ((below_drewN (Below.refl _ _) (nq + 1)).trans hb)
  have C1 := hide (give_any g _ (xn != yn) v1 w1 (HZ.out.below HB.out) hv1 L1.out)
  have HV := hide hv2
  clear hb hv1 hv2
  go_wp2_with fail
  refine C1.out.mono ?_
  rintro e w2 ⟨rfl, hi, hg⟩
  have hzr := (HZR.out.below HB.out).grown hg (Ne.symm HN.out)
  have C2 := hide (give_any r _ xn v2 w2 hzr (HV.out.kept (.of_grown hg (HZ.out.below HB.out))) L2.out)
  have HI := hide hi
  have HG := hide hg
  have HZ2 := hide hzr
  clear hi hg hzr
  go_wp2_with fail
  refine C2.out.mono ?_
  rintro e w3 ⟨rfl, hi, hg⟩
  have HI2 := hide hi
  have HG2 := hide hg
  clear hi hg
  go_wp2_with fail
  go_ret2
  refine ⟨rfl, ?_, ?_, ?_⟩
  · rw [← HQ.out]; exact HI.out.grown HG2.out HZ2.out HN.out
  · rw [← HR.out]; exact HI2.out
  · exact ((Touch.of_below HB.out).trans (Touch.of_grown HG.out)).trans (Touch.of_grown HG2.out)

theorem ediv_fix {X Y : Int} (hy : Y ≠ 0) :
    (0 ≤ X.tmod Y → X.tdiv Y = X / Y ∧ X.tmod Y = X % Y) ∧ (X.tmod Y < 0 → Y < 0 → X.tdiv Y + 1 = X / Y ∧ X.tmod Y - Y = X % Y) ∧ (X.tmod Y < 0 → 0 < Y → X.tdiv Y - 1 = X / Y ∧ X.tmod Y + Y = X % Y) := by
  have e1 := Int.mul_tdiv_add_tmod X Y
  have hb := Int.natAbs_tmod X Y
  have hlt := Nat.mod_lt X.natAbs (y := Y.natAbs) (by omega)
  have key : ∀ q r : Int, Y * q + r = X → 0 ≤ r → r.natAbs < Y.natAbs → q = X / Y ∧ r = X % Y := by
    intro q r h h0 h1
    have h2 : r % Y = r := by
      rcases Int.lt_or_lt_of_ne hy with h | h
      · rw [← Int.neg_neg Y, Int.emod_neg]
        exact Int.emod_eq_of_lt h0 (by omega)
      · exact Int.emod_eq_of_lt h0 (by omega)
    have h3 : X % Y = r := by
      rw [← h, Int.add_comm, Int.add_mul_emod_self_left, h2]
    have h4 := Int.mul_ediv_add_emod X Y
    rw [h3] at h4
    exact ⟨Int.eq_of_mul_eq_mul_left hy (by omega), h3.symm⟩
  refine ⟨fun h => key _ _ e1 h (by omega), fun h h2 => key _ _ ?_ (by omega) (by omega), fun h h2 => key _ _ ?_ (by omega) (by omega)⟩
  · rw [Int.mul_add, Int.mul_one]; omega
  · rw [Int.mul_sub, Int.mul_one]; omega
theorem tdiv_lim {X Y : Int} {L : Nat} (h : X.natAbs < L) : (X.tdiv Y).natAbs < L := by
  rw [Int.natAbs_tdiv]; exact Nat.lt_of_le_of_lt (Nat.div_le_self _ _) h
theorem tmod_lim {X Y : Int} {L : Nat} (h : X.natAbs < L) : (X.tmod Y).natAbs < L := by
  rw [Int.natAbs_tmod]; exact Nat.lt_of_le_of_lt (Nat.mod_le _ _) h
theorem one_lim : (1 : Int).natAbs < lim := lim_u64 (by decide)
theorem pred_lim {Q : Nat} {q : Int} (h : q.natAbs < Q) : (q + 1).natAbs < Q + 1 ∧ (q - 1).natAbs < Q + 1 := by omega

/-- a block that holds a known sign -/
theorem IntAt.neg0 {w : World} {g : Nat} {X : Int} (h : IntAt w g X) : w.cell? ⟨g, 0, none⟩ = some (.bool (decide (X < 0))) := by
  obtain ⟨n, v, h0, _, _, hs⟩ := h.cells
  rw [h0]
  congr 2
  cases n
  · have : ¬ X < 0 := fun hh => by simpa using hs.2 hh
    simp [this]
  · simp [hs.1 rfl]

set_option maxRecDepth 100000 in
set_option maxHeartbeats 1600000 in
theorem divMod_int (g p q r : Nat) (X Y : Int) (w : World) (hz : IntBlk w g) (hr : IntBlk w r) (hgr : g ≠ r) (hx : IntAt w p X) (hy : IntAt w q Y) (hxl : X.natAbs + 1 < lim) (hyl : Y.natAbs < lim) (hy0 : Y ≠ 0) :
    Calls Tryd.prog 41 #[.pointer (some ⟨g, 0, none⟩), .pointer (some ⟨p, 0, none⟩), .pointer (some ⟨q, 0, none⟩), .pointer (some ⟨r, 0, none⟩)] w (RetQR w g r (X / Y) (X % Y)) := by
  have hB0 : Below w.heap.size w (w.alloc (.cells #[.bool false, .slice none 0 0] 51)) := (Below.refl _ _).alloc (Nat.le_refl _) _
  have CS := hide (set_int w.heap.size q Y _ (blk_newInt w) (hy.below hB0) hyl)
  have HZ := hide (hz.below hB0)
  have HR := hide (hr.below hB0)
  have HX := hide (hx.below hB0)
  have HY := hide (hy.below hB0)
  have HB0 := hide hB0
  have HN := hide hgr
  have hgl := hz.lt
  have hrl := hr.lt
  have hpl := hx.lt
  have hql := hy.lt
  have HL : Hid (g < w.heap.size ∧ r < w.heap.size ∧ p < w.heap.size ∧ q < w.heap.size) := ⟨hgl, hrl, hpl, hql⟩
  have LX : Hid (X.natAbs + 1 < lim) := hxl
  have LY : Hid (Y.natAbs < lim) := hyl
  have H0 := hide hy0
  have HF := hide (ediv_fix (X := X) hy0)
  clear hB0 hz hr hgr hx hy hxl hyl hy0 hgl hrl hpl hql
  go_enter Tryd.func41, Tryd.ntmps41
  go_wp2_with fail
  refine CS.out.mono ?_
  rintro e w1 ⟨rfl, hi, hg⟩
  have T1 := hide (Touch.of_grown hg)
  have hl1 : ∀ x ∈ [w.heap.size], x < (w.alloc (.cells #[.bool false, .slice none 0 0] 51)).heap.size → IntBlk (w.alloc (.cells #[.bool false, .slice none 0 0] 51)) x := by
    intro x hx _
    rw [List.mem_singleton.1 hx]
    exact blk_newInt w
  have hx1 : IntAt w1 p X := T1.out.int hl1 HX.out (by have := HL.out; simp; omega)
  have hy1 : IntAt w1 q Y := T1.out.int hl1 HY.out (by have := HL.out; simp; omega)
  have hz1 : IntBlk w1 g := T1.out.blk HZ.out (by have := HL.out; simp; omega)
  have hr1 : IntBlk w1 r := T1.out.blk HR.out (by have := HL.out; simp; omega)
  have CQ := hide (quoRem_int g p q r X Y w1 hz1 hr1 HN.out hx1 hy1 (by have := LX.out; omega) LY.out H0.out)
  have HD := hide hi
  have HZ1 := hide hz1
  have HR1 := hide hr1
  clear hi hg hl1 hx1 hy1 hz1 hr1
  go_wp2_with fail
  refine CQ.out.mono ?_
  rintro e w2 ⟨rfl, hq, hm, ht⟩
  have hl2 : ∀ x ∈ [g, r], x < w1.heap.size → IntBlk w1 x := by
    intro x hx _
    simp at hx
    rcases hx with rfl | rfl
    · exact HZ1.out
    · exact HR1.out
  have hd : IntAt w2 w.heap.size Y := ht.int hl2 HD.out (by have := HL.out; simp; omega)
  have T2 := hide (Touch.trans (Touch.of_below HB0.out) (Touch.trans T1.out ht))
  have n0 := hm.neg0
  have d0 := hd.neg0
  have HQ := hide hq
  have HM := hide hm
  have HDD := hide hd
  have CQl := hide (tdiv_lim (Y := Y) (L := lim) (X := X) (by have := LX.out; omega))
  have CMl := hide (tmod_lim (Y := Y) (L := lim) (X := X) (by have := LX.out; omega))
  have CQl2 : Hid ((X.tdiv Y).natAbs + 1 < lim) := by
    unfold Hid
    have := tdiv_lim (X := X) (Y := Y) (L := lim - 1) (by have := LX.out; omega)
    omega
  have CN := fun W => hide (newInt_any 1 W (by omega) (by omega))
  have hTr : Hid (∀ W, Touch w2 W [g, r] → Touch w W [g, r]) := fun W hW => (T2.out.trans hW).mono (by intro x hx hlt; simp at hx ⊢; omega)
  clear hq hm ht hl2 hd
  obtain ⟨qq, hqq⟩ : ∃ qq, X.tdiv Y = qq := ⟨_, rfl⟩
  obtain ⟨mm, hmm⟩ : ∃ mm, X.tmod Y = mm := ⟨_, rfl⟩
  rw [hqq] at HQ HF CQl CQl2
  rw [hmm] at HM HF CMl n0
  clear hqq hmm
  by_cases hneg : mm < 0
  · have e1 : decide (mm < 0) = true := by simpa using hneg
    rw [e1] at n0
    have LR : Hid (∀ x ∈ [g], x < w2.heap.size → IntBlk w2 x) := by intro x hx _; simp at hx; rw [hx]; exact HQ.out.blk
    by_cases hyn : Y < 0
    · have e2 : decide (Y < 0) = true := by simpa using hyn
      rw [e2] at d0
      have HE := hide (HF.out.2.1 hneg hyn)
      have HYN := hide hyn
      have HMN := hide hneg
      clear hneg hyn e1 e2
      go_wp2_with fail
      refine (CN _).out.mono ?_
      rintro e w3 ⟨k, rfl, hk, hi, hb⟩
      have Q3 := hide (HQ.out.below hb)
      have M3 := hide (HM.out.below hb)
      have D3 := hide (HDD.out.below hb)
      have T3 := hide (Touch.of_below hb)
      have HI := hide hi
      clear hk hi hb
      go_wp2_with fail
      refine (add_int g g k qq 1 w3 Q3.out.blk Q3.out HI.out CQl.out one_lim (by have := CQl2.out; omega)).mono ?_
      rintro e w4 ⟨rfl, hi, hg⟩
      have T4 := hide (T3.out.trans (Touch.of_grown hg))
      have Q4 := hide hi
      have M4 := hide (M3.out.grown hg Q3.out.blk (Ne.symm HN.out))
      have D4 := hide (D3.out.grown hg Q3.out.blk (by have := HL.out; omega))
      clear hi hg
      go_wp2_with fail
      refine (sub_int r r w.heap.size mm Y w4 M4.out.blk M4.out D4.out CMl.out LY.out (by have := LY.out; have := HYN.out; have := HMN.out; have := HE.out.2; have h5 := Int.emod_nonneg X H0.out; omega)).mono ?_
      rintro e w5 ⟨rfl, hi, hg⟩
      have T5 := hide (T4.out.trans (Touch.of_grown hg))
      have Q5 := hide (Q4.out.grown hg M4.out.blk HN.out)
      have M5 := hide hi
      clear hi hg
      go_wp2_with fail
      go_ret2
      exact ⟨rfl, by rw [← HE.out.1]; exact Q5.out, by rw [← HE.out.2]; exact M5.out, hTr.out _ T5.out⟩
    · have e2 : decide (Y < 0) = false := by simpa using hyn
      rw [e2] at d0
      have hyp : 0 < Y := by have := H0.out; omega
      have HE := hide (HF.out.2.2 hneg hyp)
      have HYN := hide hyp
      have HMN := hide hneg
      clear hneg hyn e1 e2 hyp
      go_wp2_with fail
      refine (CN _).out.mono ?_
      rintro e w3 ⟨k, rfl, hk, hi, hb⟩
      have Q3 := hide (HQ.out.below hb)
      have M3 := hide (HM.out.below hb)
      have D3 := hide (HDD.out.below hb)
      have T3 := hide (Touch.of_below hb)
      have HI := hide hi
      clear hk hi hb
      go_wp2_with fail
      refine (sub_int g g k qq 1 w3 Q3.out.blk Q3.out HI.out CQl.out one_lim (by have := CQl2.out; omega)).mono ?_
      rintro e w4 ⟨rfl, hi, hg⟩
      have T4 := hide (T3.out.trans (Touch.of_grown hg))
      have Q4 := hide hi
      have M4 := hide (M3.out.grown hg Q3.out.blk (Ne.symm HN.out))
      have D4 := hide (D3.out.grown hg Q3.out.blk (by have := HL.out; omega))
      clear hi hg
      go_wp2_with fail
      refine (add_int r r w.heap.size mm Y w4 M4.out.blk M4.out D4.out CMl.out LY.out (by have := LY.out; have := HYN.out; have := HMN.out; have := HE.out.2; have h5 := Int.emod_nonneg X H0.out; omega)).mono ?_
      rintro e w5 ⟨rfl, hi, hg⟩
      have T5 := hide (T4.out.trans (Touch.of_grown hg))
      have Q5 := hide (Q4.out.grown hg M4.out.blk HN.out)
      have M5 := hide hi
      clear hi hg
      go_wp2_with fail
      go_ret2
      exact ⟨rfl, by rw [← HE.out.1]; exact Q5.out, by rw [← HE.out.2]; exact M5.out, hTr.out _ T5.out⟩
  · have e1 : decide (mm < 0) = false := by simpa using hneg
    rw [e1] at n0
    have HE := hide (HF.out.1 (by omega))
    clear hneg e1
    go_wp2_with fail
    go_ret2
    exact ⟨rfl, by rw [← HE.out.1]; exact HQ.out, by rw [← HE.out.2]; exact HM.out, T2.out.mono (by intro x hx hlt; simp at hx ⊢; omega)⟩

set_option maxRecDepth 100000 in
set_option maxHeartbeats 800000 in
theorem mod_int (g p q : Nat) (X Y : Int) (w : World) (hz : IntBlk w g) (hx : IntAt w p X) (hy : IntAt w q Y) (hxl : X.natAbs + 1 < lim) (hyl : Y.natAbs < lim) (hy0 : Y ≠ 0) :
    Calls Tryd.prog 27 #[.pointer (some ⟨g, 0, none⟩), .pointer (some ⟨p, 0, none⟩), .pointer (some ⟨q, 0, none⟩)] w (RetInt w g (X % Y)) := by
  have hB0 : Below w.heap.size w (w.alloc (.cells #[.bool false, .slice none 0 0] 51)) := (Below.refl _ _).alloc (Nat.le_refl _) _
  have C := hide (divMod_int w.heap.size p q g X Y _ (blk_newInt w) (hz.below hB0) (by have := hz.lt; omega) (hx.below hB0) (hy.below hB0) hxl hyl hy0)
  have HB := hide hB0
  clear hB0 hz hx hy hxl hyl hy0
  go_enter Tryd.func27, Tryd.ntmps27
  go_wp2_with fail
  refine C.out.mono ?_
  rintro e w1 ⟨rfl, _, hm, ht⟩
  have HM := hide hm
  have HT := hide ht
  clear hm ht
  go_wp2_with fail
  go_ret
  have t := (Touch.of_below HB.out).trans HT.out
  exact ⟨rfl, HM.out, t.os, t.tape, t.output, t.size, fun k hk hn => t.block k hk (by simp; exact ⟨by omega, fun e => hn (by rw [e])⟩)⟩

set_option maxRecDepth 100000 in
set_option maxHeartbeats 800000 in
theorem quo_int (g p q : Nat) (X Y : Int) (w : World) (hz : IntBlk w g) (hx : IntAt w p X) (hy : IntAt w q Y) (hxl : X.natAbs < lim) (hyl : Y.natAbs < lim) (hy0 : Y ≠ 0) :
    Calls Tryd.prog 78 #[.pointer (some ⟨g, 0, none⟩), .pointer (some ⟨p, 0, none⟩), .pointer (some ⟨q, 0, none⟩)] w (RetInt w g (X.tdiv Y)) := by
  have hB0 : Below w.heap.size w (w.alloc (.cells #[.bool false, .slice none 0 0] 51)) := (Below.refl _ _).alloc (Nat.le_refl _) _
  have C := hide (quoRem_int g p q w.heap.size X Y _ (hz.below hB0) (blk_newInt w) (by have := hz.lt; omega) (hx.below hB0) (hy.below hB0) hxl hyl hy0)
  have HB := hide hB0
  clear hB0 hz hx hy hxl hyl hy0
  go_enter Tryd.func78, Tryd.ntmps78
  go_wp2_with fail
  refine C.out.mono ?_
  rintro e w1 ⟨rfl, hm, _, ht⟩
  have HM := hide hm
  have HT := hide ht
  clear hm ht
  go_wp2_with fail
  go_ret
  have t := (Touch.of_below HB.out).trans HT.out
  exact ⟨rfl, HM.out, t.os, t.tape, t.output, t.size, fun k hk hn => t.block k hk (by simp; exact ⟨fun e => hn (by rw [e]), by omega⟩)⟩
end Go.Proofs.YtpppnaljndhjcaaDoor

namespace Go.Proofs.YtpppnaljndhjcaaDoor
open Go.RowKit

/-- what GCD says -/
def RetGCD (w : World) (g u : Nat) (A B : Int) : Ending → World → Prop := fun e w' => ∃ s : Int, e = .returned (.pointer (some ⟨g, 0, none⟩)) ∧ IntAt w' g (Int.gcd A B : Int) ∧ IntAt w' u s ∧ B ∣ (Int.gcd A B : Int) - s * A ∧ s.natAbs ≤ max 1 B.natAbs ∧ Touch w w' [g, u]

theorem IntAt.abs1 {w : World} {g : Nat} {X : Int} (h : IntAt w g X) (hl : X.natAbs < lim) (h0 : X ≠ 0) : ∃ (A : Option Addr) (n c : Nat), w.cell? ⟨g, 1, none⟩ = some (.slice A n c) ∧ 0 < n := by
  obtain ⟨n, v, _, h1, hv, _⟩ := h.cells
  obtain ⟨A, k, c, l, rfl, hw, hn, hlv, _⟩ := hv.open_ hl
  refine ⟨A, k, c, h1, ?_⟩
  have := len_zero hw.len hn hlv
  by_cases hk : k = 0
  · have := this.1 hk; omega
  · omega
theorem IntAt.abs0 {w : World} {g : Nat} {X : Int} (h : IntAt w g X) (hl : X.natAbs < lim) (h0 : X = 0) : ∃ (A : Option Addr) (c : Nat), w.cell? ⟨g, 1, none⟩ = some (.slice A 0 c) := by
  obtain ⟨n, v, _, h1, hv, _⟩ := h.cells
  obtain ⟨A, k, c, l, rfl, hw, hn, hlv, _⟩ := hv.open_ hl
  have := (len_zero hw.len hn hlv).2 (by omega)
  subst this
  exact ⟨A, c, h1⟩

/-- an Int block of the call's own -/
theorem IntAt.more {w w1 w' : World} {g : Nat} {X : Int} (h : IntAt w g X) (k : Below w.heap.size w w1) (k2 : Below w1.heap.size w1 w') : IntAt w' g X := (h.below k).below k2

theorem ext_bounds {A B p q u v : Int} {L : Nat} (h : Ar.Ext A B p q u v) (hl : (A.natAbs + B.natAbs + 2) * (A.natAbs + B.natAbs + 2) < L) :
    p.natAbs < L ∧ q.natAbs < L ∧ u.natAbs < L ∧ v.natAbs < L ∧ (A * u).natAbs + p.natAbs + 1 < L := by
  have h1 := h.ale
  have h2 := h.ble
  have h3 := h.ule
  have h4 := h.vle
  have h5 : A.natAbs + B.natAbs + 2 ≤ (A.natAbs + B.natAbs + 2) * (A.natAbs + B.natAbs + 2) := Nat.le_mul_of_pos_left _ (by omega)
  have h6 : (A * u).natAbs ≤ A.natAbs * (B.natAbs + 1) := by rw [Int.natAbs_mul]; exact Nat.mul_le_mul_left _ (by omega)
  have h7 : A.natAbs * (B.natAbs + 1) + (A.natAbs + B.natAbs + 2) ≤ (A.natAbs + B.natAbs + 2) * (A.natAbs + B.natAbs + 2) := by
    generalize A.natAbs = x
    generalize B.natAbs = y
    have : (x + y + 2) * (x + y + 2) = x * (y + 1) + (x + y + 2) + (x * x + y * x + 2 * x + (y + 1) * (y + 2)) := by grind
    omega
  omega

set_option maxRecDepth 100000 in
set_option maxHeartbeats 3200000 in
theorem gcd_int (g u a b : Nat) (A B : Int) (w : World) (hz : IntBlk w g) (hu : IntBlk w u) (hgu : g ≠ u) (ha : IntAt w a A) (hb : IntAt w b B) (hA : 0 < A) (hB : 0 < B) (hl : (A.natAbs + B.natAbs + 2) * (A.natAbs + B.natAbs + 2) < lim) :
    Calls Tryd.prog 61 #[.pointer (some ⟨g, 0, none⟩), .pointer (some ⟨u, 0, none⟩), .pointer none, .pointer (some ⟨a, 0, none⟩), .pointer (some ⟨b, 0, none⟩)] w (RetGCD w g u A B) := by
  have E0 := hide (Ar.Ext.start A B)
  obtain ⟨l1, l2, _, _, _⟩ := ext_bounds E0.out hl
  obtain ⟨Aa, na, ca, a1, na0⟩ := ha.abs1 l1 (by omega)
  obtain ⟨Ab, nb, cb, b1, nb0⟩ := hb.abs1 l2 (by omega)
  have an := ha.neg0
  have bn := hb.neg0
  rw [show decide (A < 0) = false from by simp; omega] at an
  rw [show decide (B < 0) = false from by simp; omega] at bn
  have t1 : ((na : Int) == 0) = false := by simp; omega
  have t2 : ((nb : Int) == 0) = false := by simp; omega
  have HA := hide ha
  have HB := hide hb
  have HZ := hide hz
  have HU := hide hu
  have HGU := hide hgu
  have HL := hide hl
  have L1 : Hid (A.natAbs < lim ∧ B.natAbs < lim) := ⟨l1, l2⟩
  have HP : Hid (0 < A ∧ 0 < B) := ⟨hA, hB⟩
  have hal := ha.lt
  have hbl := hb.lt
  clear ha hb hz hu hgu hl l1 l2 hA hB na0 nb0
  have N1 := fun W => hide (newInt_any 1 W (by omega) (by omega))
  have N0 := fun W => hide (newInt_any 0 W (by omega) (by omega))
  have hB0 : Below w.heap.size w (w.alloc (.cells #[.bool false, .slice none 0 0] 51)) := (Below.refl _ _).alloc (Nat.le_refl _) _
  have CA := hide (abs_int w.heap.size a A _ (blk_newInt w) (HA.out.below hB0) L1.out.1)
  have HB0 := hide hB0
  clear hB0
  go_enter Tryd.func61, Tryd.ntmps61
  go_wp2_with fail
  refine CA.out.mono ?_
  rintro e w1 ⟨rfl, hi, hg⟩
  have B1 := hide (below_of_grown HB0.out hg HB0.out.size (Nat.le_refl _))
  have P1 := hide hi
  have hB1 : Below w1.heap.size w1 (w1.alloc (.cells #[.bool false, .slice none 0 0] 51)) := (Below.refl _ _).alloc (Nat.le_refl _) _
  have CB := hide (abs_int w1.heap.size b B _ (blk_newInt w1) ((HB.out.below B1.out).below hB1) L1.out.2)
  have HB1 := hide hB1
  clear hi hg hB1
  go_wp2_with fail
  refine CB.out.mono ?_
  rintro e w2 ⟨rfl, hi, hg⟩
  have B2 := hide (below_of_grown (B1.out.trans (HB1.out.mono B1.out.size)) hg (Nat.le_trans B1.out.size HB1.out.size) B1.out.size)
  have P2 := hide ((P1.out.below HB1.out).grown hg (blk_newInt w1) (by have := P1.out.lt; omega))
  have Q2 := hide hi
  clear hi hg
  go_wp2_with fail
  refine (N1 _).out.mono ?_
  rintro e w3 ⟨s, rfl, hs, hi, hb⟩
  have B3 := hide (B2.out.trans (hb.mono B2.out.size))
  have P3 := hide (P2.out.below hb)
  have Q3 := hide (Q2.out.below hb)
  have S3 := hide hi
  have hs3 : w.heap.size ≤ s := Nat.le_trans B2.out.size hs
  clear hi hb hs
  go_wp2_with fail
  refine (N0 _).out.mono ?_
  rintro e w4 ⟨t, rfl, ht, hi, hb⟩
  have B4 := hide (B3.out.trans (hb.mono B3.out.size))
  have P4 := hide (P3.out.below hb)
  have Q4 := hide (Q3.out.below hb)
  have S4 := hide (S3.out.below hb)
  have T4 := hide hi
  have ht4 : w.heap.size ≤ t := Nat.le_trans B3.out.size ht
  have hq4 : w.heap.size ≤ w1.heap.size := B1.out.size
  clear hi hb ht
  rw [show (A.natAbs : Int) = A from by have := HP.out; omega] at P4
  rw [show (B.natAbs : Int) = B from by have := HP.out; omega] at Q4
  go_wp2_with fail
  have R0 : Hid (IntAt w4 w.heap.size A ∧ IntAt w4 w1.heap.size B ∧ IntAt w4 s 1 ∧ IntAt w4 t 0 ∧ Ar.Ext A B A B 1 0 ∧ 0 < A ∧ 0 ≤ B ∧ w.heap.size ≤ w.heap.size ∧ w.heap.size ≤ w1.heap.size ∧ w.heap.size ≤ s ∧ w.heap.size ≤ t) := ⟨P4.out, Q4.out, S4.out, T4.out, E0.out, HP.out.1, by have := HP.out; omega, by omega, hq4, hs3, ht4⟩
  go_loopg [15, 16, 17, 18] B.natAbs (fun N v1 v2 v3 v4 wr => ∃ (i j k l : Nat) (p q x y : Int), N = q.natAbs ∧ v1 = .pointer (some ⟨i, 0, none⟩) ∧ v2 = .pointer (some ⟨j, 0, none⟩) ∧ v3 = .pointer (some ⟨k, 0, none⟩) ∧ v4 = .pointer (some ⟨l, 0, none⟩) ∧ Hid (IntAt wr i p ∧ IntAt wr j q ∧ IntAt wr k x ∧ IntAt wr l y ∧ Ar.Ext A B p q x y ∧ 0 < p ∧ 0 ≤ q ∧ w.heap.size ≤ i ∧ w.heap.size ≤ j ∧ w.heap.size ≤ k ∧ w.heap.size ≤ l) ∧ Hid (Below w.heap.size w wr))
  case atStart => exact ⟨w.heap.size, w1.heap.size, s, t, A, B, 1, 0, rfl, rfl, rfl, rfl, rfl, R0, B4⟩
  case round =>
    clear R0 P4 Q4 S4 T4 B4 P1 P2 P3 Q2 Q3 S3 CA CB hs3 ht4 hq4
    obtain ⟨i, j, k, l, p, q, x, y, rfl, rfl, rfl, rfl, rfl, HR, HW⟩ := hrel
    have hbd := ext_bounds HR.out.2.2.2.2.1 HL.out
    have hq := HR.out.2.1
    by_cases hq0 : q = 0
    · subst hq0
      obtain ⟨Aq, cq, q1⟩ := hq.abs0 hbd.2.1 rfl
      have a0 := (HW.out.cell (p := ⟨a, 0, none⟩) hal).trans an
      have GE := hide HR.out.2.2.2.2.1.fin
      have HB2 := hide hbd
      have b1 : Below wr.heap.size wr (wr.alloc (.cells #[.bool false, .slice none 0 0] 51)) := (Below.refl _ _).alloc (Nat.le_refl _) _
      have CM := hide (mul_int wr.heap.size a k A x _ (blk_newInt wr) ((HA.out.below HW.out).below b1) (HR.out.2.2.1.below b1) L1.out.1 hbd.2.2.1 (by have := hbd.2.2.2.2; omega))
      have HB1 := hide b1
      clear hbd hq b1
      go_wp2_with fail
      refine CM.out.mono ?_
      rintro e w5 ⟨rfl, hm, hg⟩
      have B5 := hide (below_of_grown HB1.out hg HB1.out.size (Nat.le_refl _))
      have i5 := HR.out.1.below B5.out
      have M5 := hide hm
      have CS := hide (sub_int wr.heap.size i wr.heap.size p (A * x) w5 hm.blk i5 hm HB2.out.1 (by have := HB2.out.2.2.2.2; omega) (by have := HB2.out.2.2.2.2; omega))
      clear hm hg i5
      go_wp2_with fail
      refine CS.out.mono ?_
      rintro e w6 ⟨rfl, hm, hg⟩
      have B6 := hide (below_of_grown B5.out hg B5.out.size (Nat.le_refl _))
      have CQ := hide (quo_int wr.heap.size wr.heap.size b (p - A * x) B w6 hm.blk hm ((HB.out.below HW.out).below B6.out) (by have := HB2.out.2.2.2.2; omega) L1.out.2 (by have := HP.out; omega))
      clear hm hg
      go_wp2_with fail
      refine CQ.out.mono ?_
      rintro e w7 ⟨rfl, hm, hg⟩
      have B7 := hide (below_of_grown B6.out hg B6.out.size (Nat.le_refl _))
      have W7 := hide (HW.out.trans (B7.out.mono HW.out.size))
      have U7 := hide (HU.out.below W7.out)
      have CX := hide (set_int u k x w7 U7.out (HR.out.2.2.1.below B7.out) HB2.out.2.2.1)
      clear hm hg
      go_wp2_with fail
      refine CX.out.mono ?_
      rintro e w8 ⟨rfl, hm, hg⟩
      have G8 := hide ((HZ.out.below W7.out).grown hg HGU.out)
      have I8 := hide ((HR.out.1.below B7.out).grown hg U7.out (by have := HU.out.lt; have := HR.out; omega))
      have CG := hide (set_int g i p w8 G8.out I8.out HB2.out.1)
      have U8 := hide hm
      have T8 := hide ((Touch.of_below W7.out).trans (Touch.of_grown hg))
      clear hm hg
      go_wp2_with fail
      refine CG.out.mono ?_
      rintro e w9 ⟨rfl, hm, hg⟩
      have U9 := hide (U8.out.grown hg G8.out (Ne.symm HGU.out))
      have T9 := hide (T8.out.trans (Touch.of_grown hg))
      have G9 := hide hm
      clear hm hg
      go_wp2_with fail
      go_ret
      have hp : p = (Int.gcd A B : Int) := by have := GE.out.1; have := HR.out.2.2.2.2.2.1; omega
      refine ⟨x, rfl, by rw [← hp]; exact G9.out, U9.out, by rw [← hp]; exact GE.out.2, HR.out.2.2.2.2.1.ule, T9.out.mono (by intro z hz _; simp at hz ⊢; omega)⟩
    · obtain ⟨Aq, nq, cq, q1, nq0⟩ := hq.abs1 hbd.2.1 hq0
      have HB2 := hide hbd
      have hst := HR.out.2.2.2.2.1.step hq0
      have HST := hide hst
      have t3 : decide (0 < nq) = true := by simpa using nq0
      have HQ0 := hide hq0
      have g1 : IntBlk (wr.alloc (.cells #[.bool false, .slice none 0 0] 51)) wr.heap.size := blk_newInt wr
      have b1 : Below wr.heap.size wr (wr.alloc (.cells #[.bool false, .slice none 0 0] 51)) := (Below.refl _ _).alloc (Nat.le_refl _) _
      have b2 : Below (wr.heap.size + 1) (wr.alloc (.cells #[.bool false, .slice none 0 0] 51)) ((wr.alloc (.cells #[.bool false, .slice none 0 0] 51)).alloc (.cells #[.bool false, .slice none 0 0] 51)) := (Below.refl _ _).alloc (by simp) _
      have g2 : IntBlk ((wr.alloc (.cells #[.bool false, .slice none 0 0] 51)).alloc (.cells #[.bool false, .slice none 0 0] 51)) (wr.heap.size + 1) := by
        have := blk_newInt (wr.alloc (.cells #[.bool false, .slice none 0 0] 51))
        simpa using this
      have b12 := b1.trans (b2.mono (by omega))
      have CQ := hide (quoRem_int wr.heap.size i j (wr.heap.size + 1) p q _ (g1.below (by simpa using b2)) g2 (by omega) (HR.out.1.below b12) (hq.below b12) hbd.1 hbd.2.1 hq0)
      have HB12 := hide b12
      have G12 := hide (And.intro (g1.below (by simpa using b2)) g2)
      clear hbd hq hst hq0 nq0 g1 g2 b1 b2 b12
      go_wp2_with fail
      refine CQ.out.mono ?_
      rintro e w5 ⟨rfl, hd, hr, ht⟩
      have hl : ∀ z ∈ [wr.heap.size, wr.heap.size + 1], z < ((wr.alloc (.cells #[.bool false, .slice none 0 0] 51)).alloc (.cells #[.bool false, .slice none 0 0] 51)).heap.size → IntBlk ((wr.alloc (.cells #[.bool false, .slice none 0 0] 51)).alloc (.cells #[.bool false, .slice none 0 0] 51)) z := by
        intro z hz _
        simp at hz
        rcases hz with rfl | rfl
        · exact G12.out.1
        · exact G12.out.2
      have hj := ht.int hl (HR.out.2.1.below HB12.out) (by have := HR.out.2.1.lt; simp; omega)
      have hk := ht.int hl (HR.out.2.2.1.below HB12.out) (by have := HR.out.2.2.1.lt; simp; omega)
      have hll := ht.int hl (HR.out.2.2.2.1.below HB12.out) (by have := HR.out.2.2.2.1.lt; simp; omega)
      have B5 : Hid (Below wr.heap.size wr w5) := HB12.out.trans (ht.below HB12.out.size (by intro z hz; simp at hz; omega))
      have J5 := hide hj
      have K5 := hide hk
      have L5 := hide hll
      have D5 := hide hd
      have R5 := hide hr
      clear hl hj hk hll hd hr ht
      have g1 : IntBlk (w5.alloc (.cells #[.bool false, .slice none 0 0] 51)) w5.heap.size := blk_newInt w5
      have b1 : Below w5.heap.size w5 (w5.alloc (.cells #[.bool false, .slice none 0 0] 51)) := (Below.refl _ _).alloc (Nat.le_refl _) _
      have b2 : Below (w5.heap.size + 1) (w5.alloc (.cells #[.bool false, .slice none 0 0] 51)) ((w5.alloc (.cells #[.bool false, .slice none 0 0] 51)).alloc (.cells #[.bool false, .slice none 0 0] 51)) := (Below.refl _ _).alloc (by simp) _
      have g2 : IntBlk ((w5.alloc (.cells #[.bool false, .slice none 0 0] 51)).alloc (.cells #[.bool false, .slice none 0 0] 51)) (w5.heap.size + 1) := by
        have := blk_newInt (w5.alloc (.cells #[.bool false, .slice none 0 0] 51))
        simpa using this
      have b12 := b1.trans (b2.mono (by omega))
      have mb : (p.tdiv q * y).natAbs < lim := by
        have h1 := HST.out.2.2.1
        have h2 := HL.out
        have h5 : A.natAbs + B.natAbs + 2 ≤ (A.natAbs + B.natAbs + 2) * (A.natAbs + B.natAbs + 2) := Nat.le_mul_of_pos_left _ (by omega)
        omega
      have CM := hide (mul_int (w5.heap.size + 1) wr.heap.size l (p.tdiv q) y _ g2 (D5.out.below b12) (L5.out.below b12) (tdiv_lim HB2.out.1) HB2.out.2.2.2.1 mb)
      have HB52 := hide b12
      have G52 := hide (And.intro (g1.below (by simpa using b2)) g2)
      have MB := hide mb
      clear g1 g2 b1 b2 b12 mb
      go_wp2_with fail
      refine CM.out.mono ?_
      rintro e w6 ⟨rfl, hm, hg⟩
      have hs6 := G52.out.1.grown hg (by omega)
      have k6 := (K5.out.below HB52.out).grown hg G52.out.2 (by have := K5.out.lt; omega)
      have M6 := hide hm
      have e1 := ext_bounds HST.out.1 HL.out
      have CS := hide (sub_int w5.heap.size k (w5.heap.size + 1) x (p.tdiv q * y) w6 hs6 k6 hm HB2.out.2.2.1 MB.out e1.2.2.2.1)
      have J6 := hide ((J5.out.below HB52.out).grown hg G52.out.2 (by have := J5.out.lt; omega))
      have L6 := hide ((L5.out.below HB52.out).grown hg G52.out.2 (by have := L5.out.lt; omega))
      have R6 := hide ((R5.out.below HB52.out).grown hg G52.out.2 (by have := R5.out.lt; omega))
      have B6 : Hid (Below wr.heap.size wr w6) := below_of_grown (B5.out.trans (HB52.out.mono B5.out.size)) hg (Nat.le_trans B5.out.size HB52.out.size) (by have := B5.out.size; omega)
      have HS6 := hide hs6
      clear hm hg hs6 k6 e1
      go_wp2_with fail
      refine CS.out.mono ?_
      rintro e w7 ⟨rfl, hs, hg⟩
      have J7 := hide (J6.out.grown hg HS6.out (by have := J5.out.lt; omega))
      have L7 := hide (L6.out.grown hg HS6.out (by have := L5.out.lt; omega))
      have R7 := hide (R6.out.grown hg HS6.out (by have := R5.out.lt; omega))
      have S7 := hide hs
      have B7 : Hid (Below w.heap.size w w7) := HW.out.trans ((below_of_grown B6.out hg B6.out.size B5.out.size).mono HW.out.size)
      clear hs hg
      go_wp2_with fail
      go_roundg ((p.tmod q).natAbs)
      case measure =>
        have := HST.out.2.1
        have e2 : p - p.tdiv q * q = p.tmod q := by have := Int.tdiv_mul_add_tmod p q; omega
        rw [e2] at this
        exact this
      case rel =>
        have e2 : p - p.tdiv q * q = p.tmod q := by have := Int.tdiv_mul_add_tmod p q; omega
        have hst := HST.out.1
        rw [e2] at hst
        have hr0 := HR.out
        refine ⟨j, wr.heap.size + 1, l, w5.heap.size, q, p.tmod q, y, _, rfl, rfl, rfl, rfl, rfl, ⟨J7.out, R7.out, L7.out, S7.out, hst, ?_, ?_, ?_, ?_, ?_, ?_⟩, B7⟩
        · have := HQ0.out; omega
        · exact Int.tmod_nonneg _ (by omega)
        · exact hr0.2.2.2.2.2.2.2.2.1
        · have := HW.out.size; omega
        · exact hr0.2.2.2.2.2.2.2.2.2.2
        · have := HW.out.size; have := B5.out.size; omega
end Go.Proofs.YtpppnaljndhjcaaDoor
