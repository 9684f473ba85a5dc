/- The walks of arithmeticabig's Int: give, SetInt64, NewInt, sum, Add, Sub, Mul and their like. Each under a bound on the numbers. -/
import Derived.Test.YtpppnaljndhjcaaDoorKDivB
import Derived.Deep.RegionHeld3
namespace Go.Proofs.YtpppnaljndhjcaaDoor
open Go.RowKit

def toI (neg : Bool) (n : Nat) : Int := if neg then -(n : Int) else n
/-- a call's word on an Int's method that writes g: it hands g back, which holds X; nothing else has turned -/
def RetInt (w : World) (g : Nat) (X : Int) : Ending → World → Prop := fun e w' => e = .returned (.pointer (some ⟨g, 0, none⟩)) ∧ IntAt w' g X ∧ w.grownBy w' (some g)

section
variable {w : World}
theorem IntBlk.cells {g : Nat} (h : IntBlk w g) : ∃ a b, w.cell? ⟨g, 0, none⟩ = some a ∧ w.cell? ⟨g, 1, none⟩ = some b ∧ w.frozen? ⟨g, 0, none⟩ = false ∧ w.frozen? ⟨g, 1, none⟩ = false := by
  obtain ⟨a, b, h⟩ := h
  exact ⟨a, b, by simp [World.cell?, h], by simp [World.cell?, h], frozen_of_blk h 0, frozen_of_blk h 1⟩
theorem IntAt.cells {g : Nat} {X : Int} (h : IntAt w g X) : ∃ neg v, w.cell? ⟨g, 0, none⟩ = some (.bool neg) ∧ w.cell? ⟨g, 1, none⟩ = some v ∧ NatAt w v X.natAbs ∧ (neg = true ↔ X < 0) := by
  obtain ⟨n, v, h, hn, hs⟩ := h
  exact ⟨n, v, by simp [World.cell?, h], by simp [World.cell?, h], hn, hs⟩
theorem IntAt.toI {neg : Bool} {X : Int} (h : neg = true ↔ X < 0) : toI neg X.natAbs = X := by
  unfold Go.Proofs.YtpppnaljndhjcaaDoor.toI
  cases neg
  · have : ¬ X < 0 := fun hh => by simpa using h.2 hh
    simp; omega
  · have := h.1 rfl
    simp; omega
end

theorem give_at {w : World} {g n : Nat} {v : Value} {neg b : Bool} (hz : IntBlk w g) (hv : NatAt w v n) (hb : b = (neg && decide (0 < n))) :
    IntAt ((w.setCell ⟨g, 1, none⟩ v).setCell ⟨g, 0, none⟩ (.bool b)) g (toI neg n) ∧ w.grownBy ((w.setCell ⟨g, 1, none⟩ v).setCell ⟨g, 0, none⟩ (.bool b)) (some g) := by
  have hz' := hz
  obtain ⟨x, y, h⟩ := hz
  have hg : w.grownBy ((w.setCell ⟨g, 1, none⟩ v).setCell ⟨g, 0, none⟩ (.bool b)) (some g) := by
    refine ⟨rfl, rfl, rfl, by simp [World.setCell], fun k hk hne => ?_⟩
    have hk' : k ≠ g := fun e => hne (by rw [e])
    rw [Below.heap_setCell _ _ _ _ hk', Below.heap_setCell _ _ _ _ hk']
  refine ⟨⟨b, v, ?_, ?_, ?_⟩, hg⟩
  · simp [World.setCell, Array.getElem?_modify, h]
  · have e : (toI neg n).natAbs = n := by unfold toI; split <;> omega
    rw [e]
    exact hv.kept (.of_grown hg hz')
  · subst hb
    unfold toI
    cases neg <;> simp

set_option maxRecDepth 100000 in
set_option maxHeartbeats 800000 in
theorem give_any (g n : Nat) (neg : Bool) (v : Value) (w : World) (hz : IntBlk w g) (hv : NatAt w v n) (hn : n < lim) :
    Calls Tryd.prog 42 #[.pointer (some ⟨g, 0, none⟩), .bool neg, v] w (RetInt w g (toI neg n)) := by
  obtain ⟨x, y, c0, c1, f0, f1⟩ := hz.cells
  obtain ⟨A, k, c, l, rfl, hl, hnl, hlv, hk⟩ := hv.open_ hn
  have HZ := hide hz
  have HV := hide hv
  cases neg with
  | false =>
    have G := hide (give_at (neg := false) (b := false) hz hv rfl)
    clear hz hv hl hnl hlv hn
    go_enter Tryd.func42, Tryd.ntmps42
    go_wp2_with fail
    go_ret
    exact ⟨rfl, G.out⟩
  | true =>
    by_cases hk0 : k = 0
    · subst hk0
      have hn0 : n = 0 := by
        have := List.eq_nil_of_length_eq_zero hl.len
        rw [← hlv, this]; rfl
      have G := hide (give_at (neg := true) (b := false) hz hv (by rw [hn0]; rfl))
      clear hz hv hl hnl hlv hn hn0
      go_enter Tryd.func42, Tryd.ntmps42
      go_wp2_with fail
      go_ret
      exact ⟨rfl, G.out⟩
    · have hn0 : 0 < n := by
        rw [← hlv]
        have := wv_ge hnl (by rw [hl.len]; omega)
        have h2 : 0 < 4294967296 ^ (l.length - 1) := Nat.pow_pos (by omega)
        omega
      have h1 : decide ((0 : Int) < (k : Int)) = true := by rw [decide_eq_true_eq]; omega
      have h2 : decide (0 < k) = true := by rw [decide_eq_true_eq]; omega
      have G := hide (give_at (neg := true) (b := true) hz hv (by simp [hn0]))
      clear hz hv hl hnl hlv hn hn0 hk0
      go_enter Tryd.func42, Tryd.ntmps42
      go_wp2_with fail
      go_ret
      exact ⟨rfl, G.out⟩

theorem neg_u64 {x : Int} (h0 : x < 0) (h1 : -9223372036854775808 ≤ x) : IntKind.u64.wrap (-(IntKind.u64.wrap x)) = ((x.natAbs : Nat) : Int) := by
  rw [IntKind.wrap_u64, IntKind.wrap_u64]; omega

theorem grown_after {w w1 w2 : World} {g : Nat} (hb : Below w.heap.size w w1) (h : w1.grownBy w2 (some g)) : w.grownBy w2 (some g) :=
  ⟨h.os.trans hb.os, h.tape.trans hb.tape, h.output.trans hb.output, Nat.le_trans hb.size h.size, fun k hk hne => (h.block k (Nat.lt_of_lt_of_le hk hb.size) hne).trans (hb.block k hk)⟩
theorem RetInt.after {w w1 w2 : World} {g : Nat} {X : Int} {e : Ending} (hb : Below w.heap.size w w1) (h : RetInt w1 g X e w2) : RetInt w g X e w2 :=
  ⟨h.1, h.2.1, grown_after hb h.2.2⟩

set_option maxRecDepth 100000 in
set_option maxHeartbeats 800000 in
theorem setInt64_any (g : Nat) (x : Int) (w : World) (hz : IntBlk w g) (h0 : -9223372036854775808 ≤ x) (h1 : x ≤ 9223372036854775807) :
    Calls Tryd.prog 39 #[.pointer (some ⟨g, 0, none⟩), .int .i64 x] w (RetInt w g x) := by
  have C := hide (words_any x.natAbs w (by omega))
  have HZ := hide hz
  have hl : x.natAbs < lim := lim_u64 (by omega)
  have HL := hide hl
  by_cases hx : x < 0
  · have hneg : toI true x.natAbs = x := by unfold toI; simp; omega
    have HN := hide hneg
    have e := neg_u64 hx h0
    clear hneg hz hl
    go_enter Tryd.func39, Tryd.ntmps39
    go_wp2_with fail
    refine C.out.mono ?_
    rintro e w1 ⟨v, rfl, hv, hb⟩
    have C2 := hide (give_any g x.natAbs true v w1 (HZ.out.below hb) hv HL.out)
    have HB := hide hb
    clear hv hb
    go_wp2_with fail
    refine C2.out.mono ?_
    rintro e w2 ⟨rfl, hr⟩
    have HR := hide hr
    clear hr
    go_wp2_with fail
    go_ret
    rw [HN.out] at HR
    exact RetInt.after HB.out ⟨rfl, HR.out⟩
  · have hneg : toI false x.natAbs = x := by unfold toI; simp; omega
    have HN := hide hneg
    have e : IntKind.u64.wrap x = ((x.natAbs : Nat) : Int) := by rw [IntKind.wrap_u64]; omega
    have e2 : x = ((x.natAbs : Nat) : Int) := by omega
    obtain ⟨y, hy⟩ : ∃ y, y = x.natAbs := ⟨_, rfl⟩
    rw [← hy] at C HN HL e2
    subst e2
    clear hneg hz hl hy e
    go_enter Tryd.func39, Tryd.ntmps39
    go_wp2_with fail
    refine C.out.mono ?_
    rintro e w1 ⟨v, rfl, hv, hb⟩
    have C2 := hide (give_any g y false v w1 (HZ.out.below hb) hv HL.out)
    have HB := hide hb
    clear hv hb
    go_wp2_with fail
    refine C2.out.mono ?_
    rintro e w2 ⟨rfl, hr⟩
    have HR := hide hr
    clear hr
    go_wp2_with fail
    go_ret
    rw [HN.out] at HR
    exact RetInt.after HB.out ⟨rfl, HR.out⟩

theorem blk_newInt (w : World) : IntBlk (w.alloc (.cells #[.bool false, .slice none 0 0] 51)) w.heap.size := ⟨_, _, blk_new _ _ _⟩

/-- a call's word on a function that makes an Int -/
def RetNew (w : World) (X : Int) : Ending → World → Prop := fun e w' => ∃ g, e = .returned (.pointer (some ⟨g, 0, none⟩)) ∧ w.heap.size ≤ g ∧ IntAt w' g X ∧ Below w.heap.size w w'

set_option maxRecDepth 100000 in
set_option maxHeartbeats 800000 in
theorem newInt_any (x : Int) (w : World) (h0 : -9223372036854775808 ≤ x) (h1 : x ≤ 9223372036854775807) :
    Calls Tryd.prog 24 #[.int .i64 x] w (RetNew w x) := by
  have C := hide (setInt64_any w.heap.size x _ (blk_newInt w) h0 h1)
  have hb : Below w.heap.size w (w.alloc (.cells #[.bool false, .slice none 0 0] 51)) := (Below.refl _ _).alloc (Nat.le_refl _) _
  have HB := hide hb
  clear hb
  go_enter Tryd.func24, Tryd.ntmps24
  go_wp2_with fail
  refine C.out.mono ?_
  rintro e w2 ⟨rfl, hi, hg⟩
  have HI := hide hi
  have HG := hide hg
  clear hi hg
  go_wp2_with fail
  go_ret
  exact ⟨_, rfl, Nat.le_refl _, HI.out, HB.out.grown HG.out HB.out.size (by intro k hk; injection hk with hk; omega)⟩

/-- a call's word on sum -/
def RetSum (w : World) (X : Int) : Ending → World → Prop := fun e w' => ∃ neg v n, e = .returned (.tuple #[.bool neg, v]) ∧ NatAt w' v n ∧ toI neg n = X ∧ n ≤ 2 * lim ∧ Below w.heap.size w w'

set_option maxRecDepth 100000 in
set_option maxHeartbeats 800000 in
theorem sum_any (xn yn : Bool) (xv yv : Value) (x y : Nat) (w : World) (hx : NatAt w xv x) (hy : NatAt w yv y) (hxl : x < lim) (hyl : y < lim) :
    Calls Tryd.prog 43 #[.bool xn, xv, .bool yn, yv] w (RetSum w (toI xn x + toI yn y)) := by
  by_cases hxy : xn = yn
  · subst hxy
    have C := hide (add_any xv yv x y w hx hy hxl hyl)
    have e1 : (xn == xn) = true := by simp
    have HE : Hid (toI xn (x + y) = toI xn x + toI xn y) := by unfold Hid toI; split <;> omega
    have HXY : Hid (x + y ≤ 2 * lim) := by unfold Hid; omega
    clear hx hy hxl hyl
    go_enter Tryd.func43, Tryd.ntmps43
    go_wp2_with fail
    refine C.out.mono ?_
    rintro e w1 ⟨v, rfl, hv, hb⟩
    have HV := hide hv
    have HB := hide hb
    clear hv hb
    go_wp2_with fail
    go_ret2
    exact ⟨_, _, _, rfl, HV.out, HE.out, HXY.out, HB.out⟩
  · have e1 : (xn == yn) = false := by simpa using hxy
    have hyn : yn = !xn := by cases xn <;> cases yn <;> simp_all
    subst hyn
    by_cases hlt : x < y
    · have C := hide (cmp_lt xv yv x y w hx hy hxl hyl hlt)
      have HX := hide hx
      have HY := hide hy
      have HYL := hide hyl
      have HLT := hide hlt
      have HE : Hid (toI (!xn) (y - x) = toI xn x + toI (!xn) y) := by unfold Hid toI; cases xn <;> simp <;> omega
      have HXY : Hid (y - x ≤ 2 * lim) := by unfold Hid; omega
      clear hx hy hxl hyl hxy hlt
      go_enter Tryd.func43, Tryd.ntmps43
      go_wp2_with fail
      refine C.out.mono ?_
      rintro e w1 ⟨rfl, hb⟩
      have C2 := hide (sub_any yv xv y x w1 (HY.out.below hb) (HX.out.below hb) HYL.out (Nat.le_of_lt HLT.out))
      have HB := hide hb
      clear hb
      go_wp2_with fail
      refine C2.out.mono ?_
      rintro e w2 ⟨v, rfl, hv, hb⟩
      have HV := hide hv
      have HB2 := hide hb
      clear hv hb
      go_wp2_with fail
      go_ret2
      exact ⟨_, _, _, rfl, HV.out, HE.out, HXY.out, HB.out.trans (HB2.out.mono HB.out.size)⟩
    · have C := hide (cmp_ge xv yv x y w hx hy hxl hyl (by omega))
      have HX := hide hx
      have HY := hide hy
      have HXL := hide hxl
      have HLT : Hid (y ≤ x) := by unfold Hid; omega
      have HE : Hid (toI xn (x - y) = toI xn x + toI (!xn) y) := by unfold Hid toI; cases xn <;> simp <;> omega
      have HXY : Hid (x - y ≤ 2 * lim) := by unfold Hid; omega
      clear hx hy hxl hyl hxy hlt
      go_enter Tryd.func43, Tryd.ntmps43
      go_wp2_with fail
      refine C.out.mono ?_
      rintro e w1 ⟨z, rfl, hz0, hz1, hb⟩
      have C2 := hide (sub_any xv yv x y w1 (HX.out.below hb) (HY.out.below hb) HXL.out HLT.out)
      have HB := hide hb
      clear hb
      go_wp2_with fail
      refine C2.out.mono ?_
      rintro e w2 ⟨v, rfl, hv, hb⟩
      have HV := hide hv
      have HB2 := hide hb
      clear hv hb
      go_wp2_with fail
      go_ret2
      exact ⟨_, _, _, rfl, HV.out, HE.out, HXY.out, HB.out.trans (HB2.out.mono HB.out.size)⟩

end Go.Proofs.YtpppnaljndhjcaaDoor
