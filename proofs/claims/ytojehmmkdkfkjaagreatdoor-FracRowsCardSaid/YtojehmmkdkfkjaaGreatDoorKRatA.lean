/- The contracts of Int's methods at places inside a block: each under a bound on the numbers. (gen_rata.py prints this text.) -/
import Derived.Test.YtojehmmkdkfkjaaGreatDoorKOwn
namespace Go.Proofs.YtojehmmkdkfkjaaGreatDoor
open Go.RowKit

/-- the two cells from i on of block p hold X -/
structure IntIn (w : World) (p i : Nat) (X : Int) : Prop where
  cells : ∃ neg v, w.cell? ⟨p, i, none⟩ = some (.bool neg) ∧ w.cell? ⟨p, i + 1, none⟩ = some v ∧ NatAt w v X.natAbs ∧ (neg = true ↔ X < 0)
  lt : p < w.heap.size
theorem IntIn.below {w w' : World} {p i : Nat} {X : Int} (h : IntIn w p i X) (k : Below w.heap.size w w') : IntIn w' p i X := by
  obtain ⟨⟨n, v, h0, h1, h2, h3⟩, hl⟩ := h
  exact ⟨⟨n, v, (k.cell (p := ⟨p, i, none⟩) hl).trans h0, (k.cell (p := ⟨p, i + 1, none⟩) hl).trans h1, h2.below k, h3⟩, Nat.lt_of_lt_of_le hl k.size⟩
theorem IntAt.inn {w : World} {p : Nat} {X : Int} (h : IntAt w p X) : IntIn w p 0 X := ⟨h.cells, h.lt⟩

set_option maxRecDepth 100000 in
set_option maxHeartbeats 1600000 in
theorem cmp_in (i j : Nat) (p q : Nat) (X Y : Int) (w : World) (hx : IntIn w p i X) (hy : IntIn w q j Y) (hxl : X.natAbs < lim) (hyl : Y.natAbs < lim) :
    Calls Tryz.prog 46 #[.pointer (some ⟨p, i, none⟩), .pointer (some ⟨q, j, none⟩)] w (RetCmp w X Y) := by
  obtain ⟨xn, xv, x0, x1, hxv, hxs⟩ := hx.cells
  obtain ⟨yn, yv, y0, y1, hyv, hys⟩ := hy.cells
  have hp : p < w.heap.size := hx.lt
  have hq : q < w.heap.size := hy.lt
  have C : Hid (∀ W : World, Below w.heap.size w W → Calls Tryz.prog 67 #[xv, yv] W fun e w' => e = .returned (.int .i64 (cmpI X.natAbs Y.natAbs)) ∧ Below W.heap.size W w') := by
    intro W hW
    exact cmp_any xv yv _ _ W (hxv.below hW) (hyv.below hW) hxl hyl
  cases xn
  · have hX : ¬ X < 0 := fun h => by simpa using hxs.2 h
    cases yn
    · have hY : ¬ Y < 0 := fun h => by simpa using hys.2 h
      have HE := hide (icmp_pos hX hY)
      clear hX hY hx hy hxl hyl hxv hyv hxs hys
      go_enter Tryz.func46, Tryz.ntmps46
      go_wp2_with fail
      go_quiet (fail)
      go_wp2_with fail
      go_region_held3 (fun w' => w'.cell? ⟨p, i + 1, none⟩ = some xv ∧ w'.cell? ⟨q, j + 1, none⟩ = some yv) (first | exact ⟨x1, y1⟩ | exact ⟨(beln_cell (by assumption) hp).trans x1, (beln_cell (by assumption) hq).trans y1⟩) (first | (go_at_call 67; refine (C.out _ (below_drewN (Below.refl _ _) (nq + 1))).mono ?_; rintro e w1 ⟨rfl, hb⟩))
      have z0 := (beln_cell (k := i) hb hp).trans x0
      have HB := hide hb
      clear hb
      go_wp2_with fail
      go_ret
      exact ⟨by rw [HE.out]; rfl, (below_drewN (Below.refl _ _) (nq + 1)).trans HB.out⟩
    · have hY : Y < 0 := hys.1 rfl
      have HE : Hid (icmp X Y = 1) := by unfold Hid icmp; rw [if_neg (by omega), if_pos (by omega)]
      clear hX hY hx hy hxl hyl hxv hyv hxs hys C
      go_enter Tryz.func46, Tryz.ntmps46
      go_wp2_with fail
      go_quiet (fail)
      go_wp2_with fail
      go_ret
      exact ⟨by rw [HE.out]; rfl, below_drewN (Below.refl _ _) nq⟩
  · have hX : X < 0 := hxs.1 rfl
    cases yn
    · have hY : ¬ Y < 0 := fun h => by simpa using hys.2 h
      have HE : Hid (icmp X Y = -1) := by unfold Hid icmp; rw [if_pos (by omega)]
      clear hX hY hx hy hxl hyl hxv hyv hxs hys C
      go_enter Tryz.func46, Tryz.ntmps46
      go_wp2_with fail
      go_quiet (fail)
      go_wp2_with fail
      go_ret
      exact ⟨by rw [HE.out]; rfl, below_drewN (Below.refl _ _) nq⟩
    · have hY : Y < 0 := hys.1 rfl
      have HE := hide (icmp_neg hX hY)
      have e1 := cmpI_neg_wrap X.natAbs Y.natAbs
      clear hX hY hx hy hxl hyl hxv hyv hxs hys
      go_enter Tryz.func46, Tryz.ntmps46
      go_wp2_with fail
      go_quiet (fail)
      go_wp2_with fail
      go_region_held3 (fun w' => w'.cell? ⟨p, i + 1, none⟩ = some xv ∧ w'.cell? ⟨q, j + 1, none⟩ = some yv) (first | exact ⟨x1, y1⟩ | exact ⟨(beln_cell (by assumption) hp).trans x1, (beln_cell (by assumption) hq).trans y1⟩) (first | (go_at_call 67; refine (C.out _ (below_drewN (Below.refl _ _) (nq + 1))).mono ?_; rintro e w1 ⟨rfl, hb⟩))
      have z0 := (beln_cell (k := i) hb hp).trans x0
      have HB := hide hb
      clear hb
      go_wp2_with fail
      go_ret
      exact ⟨by rw [HE.out]; rfl, (below_drewN (Below.refl _ _) (nq + 1)).trans HB.out⟩

set_option maxRecDepth 100000 in
set_option maxHeartbeats 1600000 in
theorem mul_in (i j : Nat) (g p q : Nat) (X Y : Int) (w : World) (hz : IntBlk w g) (hx : IntIn w p i X) (hy : IntIn w q j Y) (hxl : X.natAbs < lim) (hyl : Y.natAbs < lim) (hs : (X * Y).natAbs < lim) :
    Calls Tryz.prog 19 #[.pointer (some ⟨g, 0, none⟩), .pointer (some ⟨p, i, none⟩), .pointer (some ⟨q, j, none⟩)] w (RetInt w g (X * Y)) := by
  obtain ⟨xn, xv, x0, x1, hxv, hxs⟩ := hx.cells
  obtain ⟨yn, yv, y0, y1, hyv, hys⟩ := hy.cells
  have HZ := hide hz
  have C : Hid (∀ W : World, Below w.heap.size w W → Calls Tryz.prog 40 #[xv, yv] W (RetNat W (X.natAbs * Y.natAbs))) := by
    intro W hW
    exact mul_any xv yv _ _ W (hxv.below hW) (hyv.below hW) hxl hyl
  have HS : Hid (X.natAbs * Y.natAbs < lim) := by unfold Hid; rw [← Int.natAbs_mul]; exact hs
  have HI : Hid (toI (xn != yn) (X.natAbs * Y.natAbs) = X * Y) := by unfold Hid; rw [toI_mul, IntAt.toI hxs, IntAt.toI hys]
  clear hz hxl hyl hs hxv hxs hyv hys
  go_enter Tryz.func19, Tryz.ntmps19
  go_wp2_with fail
  have hp : p < w.heap.size := hx.lt
  have hq : q < w.heap.size := hy.lt
  clear hx hy
  refine wp_region_P (fun w' => w'.cell? ⟨p, i, none⟩ = some (.bool xn) ∧ w'.cell? ⟨p, i + 1, none⟩ = some xv ∧ w'.cell? ⟨q, j, none⟩ = some (.bool yn) ∧ w'.cell? ⟨q, j + 1, none⟩ = some yv) 19 (by rfl) ⟨x0, x1, y0, y1⟩ ?_
  intro hS
  refine wpAnyP_take 0 7 [0, 19] (v := ?_) rfl (by kernel_rfl) (by kernel_rfl) (by kernel_rfl) (by kernel_rfl) (by kernel_rfl) (by kernel_rfl) (by rfl) (fun _ _ _ h => h) (Or.inl ⟨by rfl, ?_⟩) (by assumption) ?_; rotate_left
  · (intro w hSw; (try dsimp only at hSw); go_simp; (try with_reducible rfl))
  (try simp only [List.setIfInBounds_toArray, List.set_cons_zero, List.set_cons_succ])
  refine wpAnyP_take 1 8 [1, 2, 3, 4, 9, 19] (v := ?_) rfl (by kernel_rfl) (by kernel_rfl) (by kernel_rfl) (by kernel_rfl) (by kernel_rfl) (by kernel_rfl) (by rfl) (fun _ _ _ h => h) (Or.inl ⟨by rfl, ?_⟩) (by assumption) ?_; rotate_left
  · (intro w hSw; (try dsimp only at hSw); go_simp; (try with_reducible rfl))
  (try simp only [List.setIfInBounds_toArray, List.set_cons_zero, List.set_cons_succ])
  refine wpAnyP_take 2 9 [2, 3, 4, 9, 19] (v := ?_) rfl (by kernel_rfl) (by kernel_rfl) (by kernel_rfl) (by kernel_rfl) (by kernel_rfl) (by kernel_rfl) (by rfl) (fun _ _ _ h => h) (Or.inl ⟨by rfl, ?_⟩) (by assumption) ?_; rotate_left
  · (intro w hSw; (try dsimp only at hSw); go_simp; (try with_reducible rfl))
  (try simp only [List.setIfInBounds_toArray, List.set_cons_zero, List.set_cons_succ])
  refine wpAnyP_take 3 10 [3, 4, 9, 19] (v := ?_) rfl (by kernel_rfl) (by kernel_rfl) (by kernel_rfl) (by kernel_rfl) (by kernel_rfl) (by kernel_rfl) (by rfl) (fun _ _ _ h => h) (Or.inl ⟨by rfl, ?_⟩) (by assumption) ?_; rotate_left
  · (intro w hSw; (try dsimp only at hSw); go_simp; (try with_reducible rfl))
  (try simp only [List.setIfInBounds_toArray, List.set_cons_zero, List.set_cons_succ])
  refine wpAnyP_take 4 11 [4, 9, 19] (v := ?_) rfl (by kernel_rfl) (by kernel_rfl) (by kernel_rfl) (by kernel_rfl) (by kernel_rfl) (by kernel_rfl) (by rfl) (fun _ _ _ h => h) (Or.inl ⟨by rfl, ?_⟩) (by assumption) ?_; rotate_left
  · (intro w hSw; (try dsimp only at hSw); go_simp; (try with_reducible rfl))
  (try simp only [List.setIfInBounds_toArray, List.set_cons_zero, List.set_cons_succ])
  refine wpAnyP_take 5 12 [5, 6, 7, 8, 9, 19] (v := ?_) rfl (by kernel_rfl) (by kernel_rfl) (by kernel_rfl) (by kernel_rfl) (by kernel_rfl) (by kernel_rfl) (by rfl) (fun _ _ _ h => h) (Or.inl ⟨by rfl, ?_⟩) (by assumption) ?_; rotate_left
  · (intro w hSw; (try dsimp only at hSw); go_simp; (try with_reducible rfl))
  (try simp only [List.setIfInBounds_toArray, List.set_cons_zero, List.set_cons_succ])
  refine wpAnyP_take 6 13 [6, 7, 8, 9, 19] (v := ?_) rfl (by kernel_rfl) (by kernel_rfl) (by kernel_rfl) (by kernel_rfl) (by kernel_rfl) (by kernel_rfl) (by rfl) (fun _ _ _ h => h) (Or.inl ⟨by rfl, ?_⟩) (by assumption) ?_; rotate_left
  · (intro w hSw; (try dsimp only at hSw); go_simp; (try with_reducible rfl))
  (try simp only [List.setIfInBounds_toArray, List.set_cons_zero, List.set_cons_succ])
  refine wpAnyP_take 7 14 [7, 8, 9, 19] (v := ?_) rfl (by kernel_rfl) (by kernel_rfl) (by kernel_rfl) (by kernel_rfl) (by kernel_rfl) (by kernel_rfl) (by rfl) (fun _ _ _ h => h) (Or.inl ⟨by rfl, ?_⟩) (by assumption) ?_; rotate_left
  · (intro w hSw; (try dsimp only at hSw); go_simp; (try with_reducible rfl))
  (try simp only [List.setIfInBounds_toArray, List.set_cons_zero, List.set_cons_succ])
  refine wpAnyP_take 8 15 [8, 9, 19] (v := ?_) rfl (by kernel_rfl) (by kernel_rfl) (by kernel_rfl) (by kernel_rfl) (by kernel_rfl) (by kernel_rfl) (by rfl) (fun _ _ _ h => h) (Or.inl ⟨by rfl, ?_⟩) (by assumption) ?_; rotate_left
  · (intro w hSw; (try dsimp only at hSw); go_simp; (try with_reducible rfl))
  (try simp only [List.setIfInBounds_toArray, List.set_cons_zero, List.set_cons_succ])
  refine wpAnyP_take 9 16 [9, 19] (v := ?_) rfl (by kernel_rfl) (by kernel_rfl) (by kernel_rfl) (by kernel_rfl) (by kernel_rfl) (by kernel_rfl) (by rfl) (fun _ _ _ h => h) (Or.inl ⟨by rfl, ?_⟩) (by assumption) ?_; rotate_left
  · (intro w hSw; (try dsimp only at hSw); go_simp; (try with_reducible rfl))
  (try simp only [List.setIfInBounds_toArray, List.set_cons_zero, List.set_cons_succ])
  refine wpAnyP_take 10 17 [10, 11, 12, 13, 18, 19] (v := ?_) rfl (by kernel_rfl) (by kernel_rfl) (by kernel_rfl) (by kernel_rfl) (by kernel_rfl) (by kernel_rfl) (by rfl) (fun _ _ _ h => h) (Or.inl ⟨by rfl, ?_⟩) (by assumption) ?_; rotate_left
  · (intro w hSw; (try dsimp only at hSw); go_simp; (try with_reducible rfl))
  (try simp only [List.setIfInBounds_toArray, List.set_cons_zero, List.set_cons_succ])
  refine wpAnyP_take 11 18 [11, 12, 13, 18, 19] (v := ?_) rfl (by kernel_rfl) (by kernel_rfl) (by kernel_rfl) (by kernel_rfl) (by kernel_rfl) (by kernel_rfl) (by rfl) (fun _ _ _ h => h) (Or.inl ⟨by rfl, ?_⟩) (by assumption) ?_; rotate_left
  · (intro w hSw; (try dsimp only at hSw); go_simp; (try with_reducible rfl))
  (try simp only [List.setIfInBounds_toArray, List.set_cons_zero, List.set_cons_succ])
  refine wpAnyP_take 12 19 [12, 13, 18, 19] (v := ?_) rfl (by kernel_rfl) (by kernel_rfl) (by kernel_rfl) (by kernel_rfl) (by kernel_rfl) (by kernel_rfl) (by rfl) (fun _ _ _ h => h) (Or.inl ⟨by rfl, ?_⟩) (by assumption) ?_; rotate_left
  · (intro w hSw; (try dsimp only at hSw); go_simp; (try with_reducible rfl))
  (try simp only [List.setIfInBounds_toArray, List.set_cons_zero, List.set_cons_succ])
  refine wpAnyP_take 13 20 [13, 18, 19] (v := ?_) rfl (by kernel_rfl) (by kernel_rfl) (by kernel_rfl) (by kernel_rfl) (by kernel_rfl) (by kernel_rfl) (by rfl) (fun _ _ _ h => h) (Or.inl ⟨by rfl, ?_⟩) (by assumption) ?_; rotate_left
  · (intro w hSw; (try dsimp only at hSw); go_simp; (try with_reducible rfl))
  (try simp only [List.setIfInBounds_toArray, List.set_cons_zero, List.set_cons_succ])
  refine wpAnyP_take 14 21 [14, 15, 16, 17, 18, 19] (v := ?_) rfl (by kernel_rfl) (by kernel_rfl) (by kernel_rfl) (by kernel_rfl) (by kernel_rfl) (by kernel_rfl) (by rfl) (fun _ _ _ h => h) (Or.inl ⟨by rfl, ?_⟩) (by assumption) ?_; rotate_left
  · (intro w hSw; (try dsimp only at hSw); go_simp; (try with_reducible rfl))
  (try simp only [List.setIfInBounds_toArray, List.set_cons_zero, List.set_cons_succ])
  refine wpAnyP_take 15 22 [15, 16, 17, 18, 19] (v := ?_) rfl (by kernel_rfl) (by kernel_rfl) (by kernel_rfl) (by kernel_rfl) (by kernel_rfl) (by kernel_rfl) (by rfl) (fun _ _ _ h => h) (Or.inl ⟨by rfl, ?_⟩) (by assumption) ?_; rotate_left
  · (intro w hSw; (try dsimp only at hSw); go_simp; (try with_reducible rfl))
  (try simp only [List.setIfInBounds_toArray, List.set_cons_zero, List.set_cons_succ])
  refine wpAnyP_take 16 23 [16, 17, 18, 19] (v := ?_) rfl (by kernel_rfl) (by kernel_rfl) (by kernel_rfl) (by kernel_rfl) (by kernel_rfl) (by kernel_rfl) (by rfl) (fun _ _ _ h => h) (Or.inl ⟨by rfl, ?_⟩) (by assumption) ?_; rotate_left
  · (intro w hSw; (try dsimp only at hSw); go_simp; (try with_reducible rfl))
  (try simp only [List.setIfInBounds_toArray, List.set_cons_zero, List.set_cons_succ])
  refine wpAnyP_take 17 24 [17, 18, 19] (v := ?_) rfl (by kernel_rfl) (by kernel_rfl) (by kernel_rfl) (by kernel_rfl) (by kernel_rfl) (by kernel_rfl) (by rfl) (fun _ _ _ h => h) (Or.inl ⟨by rfl, ?_⟩) (by assumption) ?_; rotate_left
  · (intro w hSw; (try dsimp only at hSw); go_simp; (try with_reducible rfl))
  (try simp only [List.setIfInBounds_toArray, List.set_cons_zero, List.set_cons_succ])
  refine wpAnyP_one 18 rfl (by kernel_rfl) (fun K hK => ?_)
  go_simp
  refine (C.out _ ((Below.refl _ _).drew)).mono ?_
  rintro e w1 ⟨v, rfl, hv, hb⟩
  go_wp2_with fail
  clear hS
  have hS : w1.cell? ⟨p, i, none⟩ = some (.bool xn) ∧ w1.cell? ⟨p, i + 1, none⟩ = some xv ∧ w1.cell? ⟨q, j, none⟩ = some (.bool yn) ∧ w1.cell? ⟨q, j + 1, none⟩ = some yv := ⟨(bel_cell hb hp).trans x0, (bel_cell hb hp).trans x1, (bel_cell hb hq).trans y0, (bel_cell hb hq).trans y1⟩
  refine hK.out _ _ (fun _ => hS) ?_
  clear hK K
  (try simp only [Act.put, List.setIfInBounds_toArray, List.set_cons_zero, List.set_cons_succ])
  refine wpAnyP_one 19 rfl (by kernel_rfl) (fun K hK => ?_)
  go_simp
  refine (give_any g (X.natAbs * Y.natAbs) (xn != yn) v _ (HZ.out.below ((Below.refl _ _).drew.trans hb)) hv HS.out).mono ?_
  rintro e w2 ⟨rfl, hr, hgr⟩
  go_wp2_with fail
  refine hK.out _ _ (fun h => by cases h) ?_
  clear hK K
  (try simp only [Act.put, List.setIfInBounds_toArray, List.set_cons_zero, List.set_cons_succ])
  refine wpAnyP_one 20 rfl (by kernel_rfl) (fun K hK => ?_)
  go_simp
  refine hK.out _ _ (fun h => by cases h) ?_
  clear hK K
  (try simp only [Act.put, List.setIfInBounds_toArray, List.set_cons_zero, List.set_cons_succ])
  refine wpAnyP_done (by kernel_rfl) ?_ _
  have HB := hide hb
  have HR := hide hr
  have HG := hide hgr
  clear hb hr hgr hv hS
  go_wp2_with fail
  go_ret
  rw [← HI.out]
  exact ⟨rfl, HR.out, grown_after ((Below.refl _ _).drew.trans HB.out) HG.out⟩

set_option maxRecDepth 100000 in
set_option maxHeartbeats 1600000 in
theorem set_in (i : Nat) (g p : Nat) (X : Int) (w : World) (hz : IntBlk w g) (hx : IntIn w p i X) (hxl : X.natAbs < lim) :
    Calls Tryz.prog 42 #[.pointer (some ⟨g, 0, none⟩), .pointer (some ⟨p, i, none⟩)] w (RetInt w g X) := by
  obtain ⟨xn, xv, x0, x1, hxv, hxs⟩ := hx.cells
  have HZ := hide hz
  have C : Hid (∀ W : World, Below w.heap.size w W → Calls Tryz.prog 62 #[xv] W (RetNat W X.natAbs)) := by
    intro W hW
    exact twin_any xv _ W (hxv.below hW) hxl
  have HS : Hid (X.natAbs < lim) := hxl
  have HI : Hid (toI xn X.natAbs = X) := by unfold Hid; exact IntAt.toI hxs
  clear hz hxl hxv hxs
  go_enter Tryz.func42, Tryz.ntmps42
  go_wp2_with fail
  have hp : p < w.heap.size := hx.lt
  clear hx
  refine wp_region_P (fun w' => w'.cell? ⟨p, i, none⟩ = some (.bool xn) ∧ w'.cell? ⟨p, i + 1, none⟩ = some xv) 10 (by rfl) ⟨x0, x1⟩ ?_
  intro hS
  refine wpAnyP_take 0 5 [0, 10] (v := ?_) rfl (by kernel_rfl) (by kernel_rfl) (by kernel_rfl) (by kernel_rfl) (by kernel_rfl) (by kernel_rfl) (by rfl) (fun _ _ _ h => h) (Or.inl ⟨by rfl, ?_⟩) (by assumption) ?_; rotate_left
  · (intro w hSw; (try dsimp only at hSw); go_simp; (try with_reducible rfl))
  (try simp only [List.setIfInBounds_toArray, List.set_cons_zero, List.set_cons_succ])
  refine wpAnyP_take 1 6 [1, 2, 3, 4, 10] (v := ?_) rfl (by kernel_rfl) (by kernel_rfl) (by kernel_rfl) (by kernel_rfl) (by kernel_rfl) (by kernel_rfl) (by rfl) (fun _ _ _ h => h) (Or.inl ⟨by rfl, ?_⟩) (by assumption) ?_; rotate_left
  · (intro w hSw; (try dsimp only at hSw); go_simp; (try with_reducible rfl))
  (try simp only [List.setIfInBounds_toArray, List.set_cons_zero, List.set_cons_succ])
  refine wpAnyP_take 2 7 [2, 3, 4, 10] (v := ?_) rfl (by kernel_rfl) (by kernel_rfl) (by kernel_rfl) (by kernel_rfl) (by kernel_rfl) (by kernel_rfl) (by rfl) (fun _ _ _ h => h) (Or.inl ⟨by rfl, ?_⟩) (by assumption) ?_; rotate_left
  · (intro w hSw; (try dsimp only at hSw); go_simp; (try with_reducible rfl))
  (try simp only [List.setIfInBounds_toArray, List.set_cons_zero, List.set_cons_succ])
  refine wpAnyP_take 3 8 [3, 4, 10] (v := ?_) rfl (by kernel_rfl) (by kernel_rfl) (by kernel_rfl) (by kernel_rfl) (by kernel_rfl) (by kernel_rfl) (by rfl) (fun _ _ _ h => h) (Or.inl ⟨by rfl, ?_⟩) (by assumption) ?_; rotate_left
  · (intro w hSw; (try dsimp only at hSw); go_simp; (try with_reducible rfl))
  (try simp only [List.setIfInBounds_toArray, List.set_cons_zero, List.set_cons_succ])
  refine wpAnyP_take 4 9 [4, 10] (v := ?_) rfl (by kernel_rfl) (by kernel_rfl) (by kernel_rfl) (by kernel_rfl) (by kernel_rfl) (by kernel_rfl) (by rfl) (fun _ _ _ h => h) (Or.inl ⟨by rfl, ?_⟩) (by assumption) ?_; rotate_left
  · (intro w hSw; (try dsimp only at hSw); go_simp; (try with_reducible rfl))
  (try simp only [List.setIfInBounds_toArray, List.set_cons_zero, List.set_cons_succ])
  refine wpAnyP_take 5 10 [5, 6, 7, 8, 9, 10] (v := ?_) rfl (by kernel_rfl) (by kernel_rfl) (by kernel_rfl) (by kernel_rfl) (by kernel_rfl) (by kernel_rfl) (by rfl) (fun _ _ _ h => h) (Or.inl ⟨by rfl, ?_⟩) (by assumption) ?_; rotate_left
  · (intro w hSw; (try dsimp only at hSw); go_simp; (try with_reducible rfl))
  (try simp only [List.setIfInBounds_toArray, List.set_cons_zero, List.set_cons_succ])
  refine wpAnyP_take 6 11 [6, 7, 8, 9, 10] (v := ?_) rfl (by kernel_rfl) (by kernel_rfl) (by kernel_rfl) (by kernel_rfl) (by kernel_rfl) (by kernel_rfl) (by rfl) (fun _ _ _ h => h) (Or.inl ⟨by rfl, ?_⟩) (by assumption) ?_; rotate_left
  · (intro w hSw; (try dsimp only at hSw); go_simp; (try with_reducible rfl))
  (try simp only [List.setIfInBounds_toArray, List.set_cons_zero, List.set_cons_succ])
  refine wpAnyP_take 7 12 [7, 8, 9, 10] (v := ?_) rfl (by kernel_rfl) (by kernel_rfl) (by kernel_rfl) (by kernel_rfl) (by kernel_rfl) (by kernel_rfl) (by rfl) (fun _ _ _ h => h) (Or.inl ⟨by rfl, ?_⟩) (by assumption) ?_; rotate_left
  · (intro w hSw; (try dsimp only at hSw); go_simp; (try with_reducible rfl))
  (try simp only [List.setIfInBounds_toArray, List.set_cons_zero, List.set_cons_succ])
  refine wpAnyP_take 8 13 [8, 9, 10] (v := ?_) rfl (by kernel_rfl) (by kernel_rfl) (by kernel_rfl) (by kernel_rfl) (by kernel_rfl) (by kernel_rfl) (by rfl) (fun _ _ _ h => h) (Or.inl ⟨by rfl, ?_⟩) (by assumption) ?_; rotate_left
  · (intro w hSw; (try dsimp only at hSw); go_simp; (try with_reducible rfl))
  (try simp only [List.setIfInBounds_toArray, List.set_cons_zero, List.set_cons_succ])
  refine wpAnyP_one 9 rfl (by kernel_rfl) (fun K hK => ?_)
  go_simp
  refine (C.out _ ((Below.refl _ _).drew)).mono ?_
  rintro e w1 ⟨v, rfl, hv, hb⟩
  go_wp2_with fail
  clear hS
  have hS : w1.cell? ⟨p, i, none⟩ = some (.bool xn) ∧ w1.cell? ⟨p, i + 1, none⟩ = some xv := ⟨(bel_cell hb hp).trans x0, (bel_cell hb hp).trans x1⟩
  refine hK.out _ _ (fun _ => hS) ?_
  clear hK K
  (try simp only [Act.put, List.setIfInBounds_toArray, List.set_cons_zero, List.set_cons_succ])
  refine wpAnyP_one 10 rfl (by kernel_rfl) (fun K hK => ?_)
  go_simp
  refine (give_any g X.natAbs xn v _ (HZ.out.below ((Below.refl _ _).drew.trans hb)) hv HS.out).mono ?_
  rintro e w2 ⟨rfl, hr, hgr⟩
  go_wp2_with fail
  refine hK.out _ _ (fun h => by cases h) ?_
  clear hK K
  (try simp only [Act.put, List.setIfInBounds_toArray, List.set_cons_zero, List.set_cons_succ])
  refine wpAnyP_one 11 rfl (by kernel_rfl) (fun K hK => ?_)
  go_simp
  refine hK.out _ _ (fun h => by cases h) ?_
  clear hK K
  (try simp only [Act.put, List.setIfInBounds_toArray, List.set_cons_zero, List.set_cons_succ])
  refine wpAnyP_done (by kernel_rfl) ?_ _
  have HB := hide hb
  have HR := hide hr
  have HG := hide hgr
  clear hb hr hgr hv hS
  go_wp2_with fail
  go_ret
  rw [← HI.out]
  exact ⟨rfl, HR.out, grown_after ((Below.refl _ _).drew.trans HB.out) HG.out⟩

set_option maxRecDepth 100000 in
set_option maxHeartbeats 800000 in
theorem uint64_in (i : Nat) (p : Nat) (X : Int) (w : World) (hx : IntIn w p i X) (hxl : X.natAbs < lim) :
    Calls Tryz.prog 47 #[.pointer (some ⟨p, i, none⟩)] w fun e w' => e = .returned (.int .u64 ((X.natAbs % 18446744073709551616 : Nat) : Int)) ∧ w = w' := by
  obtain ⟨xn, xv, x0, x1, hxv, hxs⟩ := hx.cells
  obtain ⟨A, n, c, l, rfl, hl, hnl, hv, hn⟩ := hxv.open_ hxl
  obtain ⟨x, hX⟩ : ∃ x, X.natAbs = x := ⟨_, rfl⟩
  rw [hX] at hv ⊢
  have HL := hide hl
  have HV := hide hv
  clear hl hnl hv hxv hxl hX hxs hx
  by_cases h0 : n = 0
  · subst h0
    have e0 : Hid (x % 18446744073709551616 = 0) := by
      have := HL.out.len
      have e := List.eq_nil_of_length_eq_zero this
      have h := HV.out
      rw [e] at h
      unfold Hid
      rw [← h]; rfl
    go_enter Tryz.func47, Tryz.ntmps47
    go_wp2
    go_ret
    exact ⟨ret_int (by rw [e0.out]; rfl), rfl⟩
  · obtain ⟨ad, p', rfl, hp, hp1, hpb, hpc⟩ := HL.out.at_ (k := 0) (by omega)
    rw [addr_zero] at hpc
    have HP := hide hp
    clear hp
    have h1 : decide (0 < n) = true := by simp; omega
    by_cases h2 : n = 1
    · subst h2
      have e0 : Hid (x % 18446744073709551616 = p') := by
        have h := HV.out
        have e : l = [p'] := by
          have := HL.out.len
          have hh := HP.out
          match l, this with
          | [a], _ => simp at hh; rw [hh]
        unfold Hid
        rw [← h, e]
        simp only [wv]; omega
      go_enter Tryz.func47, Tryz.ntmps47
      go_wp2
      go_ret
      exact ⟨ret_int (by rw [e0.out]), rfl⟩
    · obtain ⟨bd, q, hbd, hq, hq1, hqb, hqc⟩ := HL.out.at_ (k := 1) (by omega)
      injection hbd with hbd
      subst hbd
      have h3 : decide ((1 : Int) < (n : Int)) = true := by rw [decide_eq_true_eq]; omega
      rw [addr_pos _ 1 (by omega)] at hqc
      have e0 : Hid (x % 18446744073709551616 = p' + 4294967296 * q) := by
        have h := HV.out
        have hm := wv_mod l 2 (by rw [HL.out.len]; omega) HL.out.small
        have e : l.take 2 = [p', q] := by
          have hh := HP.out
          have := HL.out.len
          match l, hh, hq with
          | a :: b :: r, hh, hq => simp at hh hq; simp [hh, hq]
          | [a], _, hq => simp at hq
        rw [e, h] at hm
        unfold Hid
        have e2 : (4294967296 ^ 2 : Nat) = 18446744073709551616 := rfl
        rw [e2] at hm
        rw [hm]
        simp [wv]
      have HQ := hide hq
      clear hq
      go_enter Tryz.func47, Tryz.ntmps47
      go_wp2
      go_ret
      exact ⟨ret_int (by rw [e0.out, or_shl32 hp1 hq1]), rfl⟩

set_option maxRecDepth 100000 in
set_option maxHeartbeats 800000 in
theorem int64_in (i : Nat) (p : Nat) (X : Int) (w : World) (hx : IntIn w p i X) (h0 : -9223372036854775808 ≤ X) (h1 : X ≤ 9223372036854775807) :
    Calls Tryz.prog 25 #[.pointer (some ⟨p, i, none⟩)] w fun e w' => e = .returned (.int .i64 X) ∧ w = w' := by
  obtain ⟨xn, xv, x0, x1, hxv, hxs⟩ := hx.cells
  have C := hide (uint64_in i p X w hx (lim_u64 (by omega)))
  rw [show X.natAbs % 18446744073709551616 = X.natAbs from Nat.mod_eq_of_lt (by omega)] at C
  by_cases hneg : X < 0
  · have q2 : xn = true := hxs.2 hneg
    subst q2
    obtain ⟨x, ex⟩ : ∃ x, X.natAbs = x := ⟨_, rfl⟩
    have HE : Hid (wrap64 (-(wrap64 (x : Int))) = X) := by unfold Hid wrap64; omega
    rw [ex] at C
    clear ex hxv hxs hx h0 h1 hneg
    go_enter Tryz.func25, Tryz.ntmps25
    go_wp2_with fail
    refine C.out.mono ?_
    rintro e w1 ⟨rfl, rfl⟩
    go_wp2_with fail
    go_ret
    exact ⟨ret_int HE.out, rfl⟩
  · have q2 : xn = false := by cases xn; rfl; have := hxs.1 rfl; omega
    subst q2
    obtain ⟨x, ex⟩ : ∃ x, X.natAbs = x := ⟨_, rfl⟩
    have HE : Hid (wrap64 (x : Int) = X) := by unfold Hid wrap64; omega
    rw [ex] at C
    clear ex hxv hxs hx h0 h1 hneg
    go_enter Tryz.func25, Tryz.ntmps25
    go_wp2_with fail
    refine C.out.mono ?_
    rintro e w1 ⟨rfl, rfl⟩
    go_wp2_with fail
    go_ret
    exact ⟨ret_int HE.out, rfl⟩
end Go.Proofs.YtojehmmkdkfkjaaGreatDoor
