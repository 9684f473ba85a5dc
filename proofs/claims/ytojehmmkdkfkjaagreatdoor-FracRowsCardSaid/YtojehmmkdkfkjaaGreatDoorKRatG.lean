/- The walk of Int's Div, under a bound on the numbers; where Ints of a call's own lie beside a draw. -/
import Derived.Test.YtojehmmkdkfkjaaGreatDoorKRatF
namespace Go.Proofs.YtojehmmkdkfkjaaGreatDoor
open Go.RowKit

set_option maxRecDepth 100000 in
set_option maxHeartbeats 800000 in
theorem div_int (g p q : Nat) (X Y : Int) (w : World) (hz : IntBlk w g) (hx : IntAt w p X) (hy : IntAt w q Y) (hxl : X.natAbs + 1 < lim) (hyl : Y.natAbs < lim) (hy0 : Y ≠ 0) :
    Calls Tryz.prog 18 #[.pointer (some ⟨g, 0, none⟩), .pointer (some ⟨p, 0, none⟩), .pointer (some ⟨q, 0, none⟩)] w (RetInt w g (X / Y)) := by
  have hB0 : Below w.heap.size w (w.alloc (.cells #[.bool false, .slice none 0 0] 47)) := (Below.refl _ _).alloc (Nat.le_refl _) _
  have C := hide (divMod_int g p q w.heap.size X Y _ (hz.below hB0) (blk_newInt w) (by have := hz.lt; omega) (hx.below hB0) (hy.below hB0) hxl hyl hy0)
  have HB := hide hB0
  clear hB0 hz hx hy hxl hyl hy0
  go_enter Tryz.func18, Tryz.ntmps18
  go_wp2_with fail
  refine C.out.mono ?_
  rintro e w1 ⟨rfl, hm, _, ht⟩
  have HM := hide hm
  have HT := hide ht
  clear hm ht
  go_wp2_with fail
  go_ret
  have t := (Touch.of_below HB.out).trans HT.out
  exact ⟨rfl, HM.out, t.os, t.tape, t.output, t.size, fun k hk hn => t.block k hk (by simp; exact ⟨fun e => hn (by rw [e]), by omega⟩)⟩
section
variable {w0 w : World} {L : List (Nat × Int)}
theorem div_own (h : Own w0 w L) (i j k : Nat) {g p q : Nat} {Z X Y : Int} (hi : L[i]? = some (g, Z)) (hj : L[j]? = some (p, X)) (hk : L[k]? = some (q, Y)) (b1 : X.natAbs + 1 < lim) (b2 : Y.natAbs < lim) (b3 : Y ≠ 0) :
    Calls Tryz.prog 18 #[.pointer (some ⟨g, 0, none⟩), .pointer (some ⟨p, 0, none⟩), .pointer (some ⟨q, 0, none⟩)] w (RetOwn w0 (L.set i (g, X / Y)) g) :=
  (div_int g p q X Y w (h.blk hi) (h.at_ _ _ _ hj) (h.at_ _ _ _ hk) b1 b2 b3).mono fun _ _ hr => RetInt.own h hi hr
theorem l2 {α : Type} {x y z : α} {L : List α} : (z :: y :: x :: L)[2]? = some x := rfl
theorem l3 {α : Type} {x y z u : α} {L : List α} : (u :: z :: y :: x :: L)[3]? = some x := rfl
theorem l4 {α : Type} {x y z u v : α} {L : List α} : (v :: u :: z :: y :: x :: L)[4]? = some x := rfl
end
end Go.Proofs.YtojehmmkdkfkjaaGreatDoor
