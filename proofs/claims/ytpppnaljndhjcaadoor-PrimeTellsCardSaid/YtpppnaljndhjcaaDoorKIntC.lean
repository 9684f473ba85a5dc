/- The walks of arithmeticabig's Int: Cmp. -/
import Derived.Test.YtpppnaljndhjcaaDoorKIntB
namespace Go.Proofs.YtpppnaljndhjcaaDoor
open Go.RowKit

def icmp (X Y : Int) : Int := if X < Y then -1 else if Y < X then 1 else 0
def RetCmp (w : World) (X Y : Int) : Ending → World → Prop := fun e w' => e = .returned (.int .i64 (icmp X Y)) ∧ Below w.heap.size w w'

theorem icmp_pos {X Y : Int} (hx : ¬ X < 0) (hy : ¬ Y < 0) : icmp X Y = cmpI X.natAbs Y.natAbs := by
  unfold icmp cmpI
  have e1 : (X < Y) ↔ X.natAbs < Y.natAbs := by omega
  have e2 : (Y < X) ↔ Y.natAbs < X.natAbs := by omega
  simp only [e1, e2]
theorem icmp_neg {X Y : Int} (hx : X < 0) (hy : Y < 0) : icmp X Y = -cmpI X.natAbs Y.natAbs := by
  unfold icmp cmpI
  by_cases h1 : X < Y
  · rw [if_pos h1, if_neg (by omega), if_pos (by omega)]
  · rw [if_neg h1]
    by_cases h2 : Y < X
    · rw [if_pos h2, if_pos (by omega)]; rfl
    · rw [if_neg h2, if_neg (by omega), if_neg (by omega)]; rfl

theorem cmpI_neg_wrap (x y : Nat) : IntKind.i64.wrap (-cmpI x y) = -cmpI x y := by
  unfold cmpI; split
  · rfl
  · split <;> rfl
theorem beln_cell {w w' : World} {n : Nat} (h : Below (w.drewN n).heap.size (w.drewN n) w') {g k : Nat} (hg : g < w.heap.size) : w'.cell? ⟨g, k, none⟩ = w.cell? ⟨g, k, none⟩ := h.cell (p := ⟨g, k, none⟩) hg

set_option maxRecDepth 100000 in
set_option maxHeartbeats 1600000 in
theorem cmp_int (p q : Nat) (X Y : Int) (w : World) (hx : IntAt w p X) (hy : IntAt w q Y) (hxl : X.natAbs < lim) (hyl : Y.natAbs < lim) :
    Calls Tryd.prog 26 #[.pointer (some ⟨p, 0, none⟩), .pointer (some ⟨q, 0, none⟩)] w (RetCmp w X Y) := by
  obtain ⟨xn, xv, x0, x1, hxv, hxs⟩ := hx.cells
  obtain ⟨yn, yv, y0, y1, hyv, hys⟩ := hy.cells
  have hp : p < w.heap.size := hx.lt
  have hq : q < w.heap.size := hy.lt
  have C : Hid (∀ W : World, Below w.heap.size w W → Calls Tryd.prog 40 #[xv, yv] W fun e w' => e = .returned (.int .i64 (cmpI X.natAbs Y.natAbs)) ∧ Below W.heap.size W w') := by
    intro W hW
    exact cmp_any xv yv _ _ W (hxv.below hW) (hyv.below hW) hxl hyl
  cases xn
  · have hX : ¬ X < 0 := fun h => by simpa using hxs.2 h
    cases yn
    · have hY : ¬ Y < 0 := fun h => by simpa using hys.2 h
      have HE := hide (icmp_pos hX hY)
      clear hX hY hx hy hxl hyl hxv hyv hxs hys
      go_enter Tryd.func26, Tryd.ntmps26
      go_wp2_with fail
      go_quiet (fail)
      go_wp2_with fail
      go_region_held3 (fun w' => w'.cell? ⟨p, 1, none⟩ = some xv ∧ w'.cell? ⟨q, 1, none⟩ = some yv) (first | exact ⟨x1, y1⟩ | exact ⟨(beln_cell (by assumption) hp).trans x1, (beln_cell (by assumption) hq).trans y1⟩) (first | (go_at_call 40; refine (C.out _ (below_drewN (Below.refl _ _) (nq + 1))).mono ?_; rintro e w1 ⟨rfl, hb⟩))
      have z0 := (beln_cell (k := 0) hb hp).trans x0
      have HB := hide hb
      clear hb
      go_wp2_with fail
      go_ret
      exact ⟨by rw [HE.out]; rfl, (below_drewN (Below.refl _ _) (nq + 1)).trans HB.out⟩
    · have hY : Y < 0 := hys.1 rfl
      have HE : Hid (icmp X Y = 1) := by unfold Hid icmp; rw [if_neg (by omega), if_pos (by omega)]
      clear hX hY hx hy hxl hyl hxv hyv hxs hys C
      go_enter Tryd.func26, Tryd.ntmps26
      go_wp2_with fail
      go_quiet (fail)
      go_wp2_with fail
      go_ret
      exact ⟨by rw [HE.out]; rfl, below_drewN (Below.refl _ _) nq⟩
  · have hX : X < 0 := hxs.1 rfl
    cases yn
    · have hY : ¬ Y < 0 := fun h => by simpa using hys.2 h
      have HE : Hid (icmp X Y = -1) := by unfold Hid icmp; rw [if_pos (by omega)]
      clear hX hY hx hy hxl hyl hxv hyv hxs hys C
      go_enter Tryd.func26, Tryd.ntmps26
      go_wp2_with fail
      go_quiet (fail)
      go_wp2_with fail
      go_ret
      exact ⟨by rw [HE.out]; rfl, below_drewN (Below.refl _ _) nq⟩
    · have hY : Y < 0 := hys.1 rfl
      have HE := hide (icmp_neg hX hY)
      have e1 := cmpI_neg_wrap X.natAbs Y.natAbs
      clear hX hY hx hy hxl hyl hxv hyv hxs hys
      go_enter Tryd.func26, Tryd.ntmps26
      go_wp2_with fail
      go_quiet (fail)
      go_wp2_with fail
      go_region_held3 (fun w' => w'.cell? ⟨p, 1, none⟩ = some xv ∧ w'.cell? ⟨q, 1, none⟩ = some yv) (first | exact ⟨x1, y1⟩ | exact ⟨(beln_cell (by assumption) hp).trans x1, (beln_cell (by assumption) hq).trans y1⟩) (first | (go_at_call 40; refine (C.out _ (below_drewN (Below.refl _ _) (nq + 1))).mono ?_; rintro e w1 ⟨rfl, hb⟩))
      have z0 := (beln_cell (k := 0) hb hp).trans x0
      have HB := hide hb
      clear hb
      go_wp2_with fail
      go_ret
      exact ⟨by rw [HE.out]; rfl, (below_drewN (Below.refl _ _) (nq + 1)).trans HB.out⟩
end Go.Proofs.YtpppnaljndhjcaaDoor
