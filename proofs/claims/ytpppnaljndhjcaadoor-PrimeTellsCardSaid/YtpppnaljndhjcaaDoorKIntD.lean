/- The walks of arithmeticabig's Int: Set, Neg, Abs, Sign, Uint64, Int64. Each under a bound on the numbers. (gen_intd.py prints this text.) -/
import Derived.Test.YtpppnaljndhjcaaDoorKIntC
namespace Go.Proofs.YtpppnaljndhjcaaDoor
open Go.RowKit

set_option maxRecDepth 100000 in
set_option maxHeartbeats 1600000 in
theorem set_int (g p : Nat) (X : Int) (w : World) (hz : IntBlk w g) (hx : IntAt w p X) (hxl : X.natAbs < lim) :
    Calls Tryd.prog 29 #[.pointer (some ⟨g, 0, none⟩), .pointer (some ⟨p, 0, none⟩)] w (RetInt w g X) := by
  obtain ⟨xn, xv, x0, x1, hxv, hxs⟩ := hx.cells
  have HZ := hide hz
  have C : Hid (∀ W : World, Below w.heap.size w W → Calls Tryd.prog 44 #[xv] W (RetNat W X.natAbs)) := by
    intro W hW
    exact twin_any xv _ W (hxv.below hW) hxl
  have HS : Hid (X.natAbs < lim) := hxl
  have HI : Hid (toI xn X.natAbs = X) := by unfold Hid; exact IntAt.toI hxs
  clear hz hxl hxv hxs
  go_enter Tryd.func29, Tryd.ntmps29
  go_wp2_with fail
  have hp : p < w.heap.size := hx.lt
  clear hx
  refine wp_region_P (fun w' => w'.cell? ⟨p, 0, none⟩ = some (.bool xn) ∧ w'.cell? ⟨p, 1, none⟩ = some xv) 10 (by rfl) ⟨x0, x1⟩ ?_
  intro hS
  refine wpAnyP_take 0 5 [0, 10] (v := ?_) rfl (by kernel_rfl) (by kernel_rfl) (by kernel_rfl) (by kernel_rfl) (by kernel_rfl) (by kernel_rfl) (by rfl) (fun _ _ _ h => h) (Or.inl ⟨by rfl, ?_⟩) (by assumption) ?_; rotate_left
  · (intro w hSw; (try dsimp only at hSw); go_simp; (try with_reducible rfl))
  (try simp only [List.setIfInBounds_toArray, List.set_cons_zero, List.set_cons_succ])
  refine wpAnyP_take 1 6 [1, 2, 3, 4, 10] (v := ?_) rfl (by kernel_rfl) (by kernel_rfl) (by kernel_rfl) (by kernel_rfl) (by kernel_rfl) (by kernel_rfl) (by rfl) (fun _ _ _ h => h) (Or.inl ⟨by rfl, ?_⟩) (by assumption) ?_; rotate_left
  · (intro w hSw; (try dsimp only at hSw); go_simp; (try with_reducible rfl))
  (try simp only [List.setIfInBounds_toArray, List.set_cons_zero, List.set_cons_succ])
  refine wpAnyP_take 2 7 [2, 3, 4, 10] (v := ?_) rfl (by kernel_rfl) (by kernel_rfl) (by kernel_rfl) (by kernel_rfl) (by kernel_rfl) (by kernel_rfl) (by rfl) (fun _ _ _ h => h) (Or.inl ⟨by rfl, ?_⟩) (by assumption) ?_; rotate_left
  · (intro w hSw; (try dsimp only at hSw); go_simp; (try with_reducible rfl))
  (try simp only [List.setIfInBounds_toArray, List.set_cons_zero, List.set_cons_succ])
  refine wpAnyP_take 3 8 [3, 4, 10] (v := ?_) rfl (by kernel_rfl) (by kernel_rfl) (by kernel_rfl) (by kernel_rfl) (by kernel_rfl) (by kernel_rfl) (by rfl) (fun _ _ _ h => h) (Or.inl ⟨by rfl, ?_⟩) (by assumption) ?_; rotate_left
  · (intro w hSw; (try dsimp only at hSw); go_simp; (try with_reducible rfl))
  (try simp only [List.setIfInBounds_toArray, List.set_cons_zero, List.set_cons_succ])
  refine wpAnyP_take 4 9 [4, 10] (v := ?_) rfl (by kernel_rfl) (by kernel_rfl) (by kernel_rfl) (by kernel_rfl) (by kernel_rfl) (by kernel_rfl) (by rfl) (fun _ _ _ h => h) (Or.inl ⟨by rfl, ?_⟩) (by assumption) ?_; rotate_left
  · (intro w hSw; (try dsimp only at hSw); go_simp; (try with_reducible rfl))
  (try simp only [List.setIfInBounds_toArray, List.set_cons_zero, List.set_cons_succ])
  refine wpAnyP_take 5 10 [5, 6, 7, 8, 9, 10] (v := ?_) rfl (by kernel_rfl) (by kernel_rfl) (by kernel_rfl) (by kernel_rfl) (by kernel_rfl) (by kernel_rfl) (by rfl) (fun _ _ _ h => h) (Or.inl ⟨by rfl, ?_⟩) (by assumption) ?_; rotate_left
  · (intro w hSw; (try dsimp only at hSw); go_simp; (try with_reducible rfl))
  (try simp only [List.setIfInBounds_toArray, List.set_cons_zero, List.set_cons_succ])
  refine wpAnyP_take 6 11 [6, 7, 8, 9, 10] (v := ?_) rfl (by kernel_rfl) (by kernel_rfl) (by kernel_rfl) (by kernel_rfl) (by kernel_rfl) (by kernel_rfl) (by rfl) (fun _ _ _ h => h) (Or.inl ⟨by rfl, ?_⟩) (by assumption) ?_; rotate_left
  · (intro w hSw; (try dsimp only at hSw); go_simp; (try with_reducible rfl))
  (try simp only [List.setIfInBounds_toArray, List.set_cons_zero, List.set_cons_succ])
  refine wpAnyP_take 7 12 [7, 8, 9, 10] (v := ?_) rfl (by kernel_rfl) (by kernel_rfl) (by kernel_rfl) (by kernel_rfl) (by kernel_rfl) (by kernel_rfl) (by rfl) (fun _ _ _ h => h) (Or.inl ⟨by rfl, ?_⟩) (by assumption) ?_; rotate_left
  · (intro w hSw; (try dsimp only at hSw); go_simp; (try with_reducible rfl))
  (try simp only [List.setIfInBounds_toArray, List.set_cons_zero, List.set_cons_succ])
  refine wpAnyP_take 8 13 [8, 9, 10] (v := ?_) rfl (by kernel_rfl) (by kernel_rfl) (by kernel_rfl) (by kernel_rfl) (by kernel_rfl) (by kernel_rfl) (by rfl) (fun _ _ _ h => h) (Or.inl ⟨by rfl, ?_⟩) (by assumption) ?_; rotate_left
  · (intro w hSw; (try dsimp only at hSw); go_simp; (try with_reducible rfl))
  (try simp only [List.setIfInBounds_toArray, List.set_cons_zero, List.set_cons_succ])
  refine wpAnyP_one 9 rfl (by kernel_rfl) (fun K hK => ?_)
  go_simp
  refine (C.out _ ((Below.refl _ _).drew)).mono ?_
  rintro e w1 ⟨v, rfl, hv, hb⟩
  go_wp2_with fail
  clear hS
  have hS : w1.cell? ⟨p, 0, none⟩ = some (.bool xn) ∧ w1.cell? ⟨p, 1, none⟩ = some xv := ⟨(bel_cell hb hp).trans x0, (bel_cell hb hp).trans x1⟩
  refine hK.out _ _ (fun _ => hS) ?_
  clear hK K
  (try simp only [Act.put, List.setIfInBounds_toArray, List.set_cons_zero, List.set_cons_succ])
  refine wpAnyP_one 10 rfl (by kernel_rfl) (fun K hK => ?_)
  go_simp
  refine (give_any g X.natAbs xn v _ (HZ.out.below ((Below.refl _ _).drew.trans hb)) hv HS.out).mono ?_
  rintro e w2 ⟨rfl, hr, hgr⟩
  go_wp2_with fail
  refine hK.out _ _ (fun h => by cases h) ?_
  clear hK K
  (try simp only [Act.put, List.setIfInBounds_toArray, List.set_cons_zero, List.set_cons_succ])
  refine wpAnyP_one 11 rfl (by kernel_rfl) (fun K hK => ?_)
  go_simp
  refine hK.out _ _ (fun h => by cases h) ?_
  clear hK K
  (try simp only [Act.put, List.setIfInBounds_toArray, List.set_cons_zero, List.set_cons_succ])
  refine wpAnyP_done (by kernel_rfl) ?_ _
  have HB := hide hb
  have HR := hide hr
  have HG := hide hgr
  clear hb hr hgr hv hS
  go_wp2_with fail
  go_ret
  rw [← HI.out]
  exact ⟨rfl, HR.out, grown_after ((Below.refl _ _).drew.trans HB.out) HG.out⟩


set_option maxRecDepth 100000 in
set_option maxHeartbeats 1600000 in
theorem neg_int (g p : Nat) (X : Int) (w : World) (hz : IntBlk w g) (hx : IntAt w p X) (hxl : X.natAbs < lim) :
    Calls Tryd.prog 77 #[.pointer (some ⟨g, 0, none⟩), .pointer (some ⟨p, 0, none⟩)] w (RetInt w g (-X)) := by
  obtain ⟨xn, xv, x0, x1, hxv, hxs⟩ := hx.cells
  have HZ := hide hz
  have C : Hid (∀ W : World, Below w.heap.size w W → Calls Tryd.prog 44 #[xv] W (RetNat W X.natAbs)) := by
    intro W hW
    exact twin_any xv _ W (hxv.below hW) hxl
  have HS : Hid (X.natAbs < lim) := hxl
  have HI : Hid (toI (!xn) X.natAbs = (-X)) := by unfold Hid; rw [toI_not, IntAt.toI hxs]
  clear hz hxl hxv hxs
  go_enter Tryd.func77, Tryd.ntmps77
  go_wp2_with fail
  have hp : p < w.heap.size := hx.lt
  clear hx
  refine wp_region_P (fun w' => w'.cell? ⟨p, 0, none⟩ = some (.bool xn) ∧ w'.cell? ⟨p, 1, none⟩ = some xv) 11 (by rfl) ⟨x0, x1⟩ ?_
  intro hS
  refine wpAnyP_take 0 5 [0, 11] (v := ?_) rfl (by kernel_rfl) (by kernel_rfl) (by kernel_rfl) (by kernel_rfl) (by kernel_rfl) (by kernel_rfl) (by rfl) (fun _ _ _ h => h) (Or.inl ⟨by rfl, ?_⟩) (by assumption) ?_; rotate_left
  · (intro w hSw; (try dsimp only at hSw); go_simp; (try with_reducible rfl))
  (try simp only [List.setIfInBounds_toArray, List.set_cons_zero, List.set_cons_succ])
  refine wpAnyP_take 1 6 [1, 2, 3, 4, 5, 11] (v := ?_) rfl (by kernel_rfl) (by kernel_rfl) (by kernel_rfl) (by kernel_rfl) (by kernel_rfl) (by kernel_rfl) (by rfl) (fun _ _ _ h => h) (Or.inl ⟨by rfl, ?_⟩) (by assumption) ?_; rotate_left
  · (intro w hSw; (try dsimp only at hSw); go_simp; (try with_reducible rfl))
  (try simp only [List.setIfInBounds_toArray, List.set_cons_zero, List.set_cons_succ])
  refine wpAnyP_take 2 7 [2, 3, 4, 5, 11] (v := ?_) rfl (by kernel_rfl) (by kernel_rfl) (by kernel_rfl) (by kernel_rfl) (by kernel_rfl) (by kernel_rfl) (by rfl) (fun _ _ _ h => h) (Or.inl ⟨by rfl, ?_⟩) (by assumption) ?_; rotate_left
  · (intro w hSw; (try dsimp only at hSw); go_simp; (try with_reducible rfl))
  (try simp only [List.setIfInBounds_toArray, List.set_cons_zero, List.set_cons_succ])
  refine wpAnyP_take 3 8 [3, 4, 5, 11] (v := ?_) rfl (by kernel_rfl) (by kernel_rfl) (by kernel_rfl) (by kernel_rfl) (by kernel_rfl) (by kernel_rfl) (by rfl) (fun _ _ _ h => h) (Or.inl ⟨by rfl, ?_⟩) (by assumption) ?_; rotate_left
  · (intro w hSw; (try dsimp only at hSw); go_simp; (try with_reducible rfl))
  (try simp only [List.setIfInBounds_toArray, List.set_cons_zero, List.set_cons_succ])
  refine wpAnyP_take 4 9 [4, 5, 11] (v := ?_) rfl (by kernel_rfl) (by kernel_rfl) (by kernel_rfl) (by kernel_rfl) (by kernel_rfl) (by kernel_rfl) (by rfl) (fun _ _ _ h => h) (Or.inl ⟨by rfl, ?_⟩) (by assumption) ?_; rotate_left
  · (intro w hSw; (try dsimp only at hSw); go_simp; (try with_reducible rfl))
  (try simp only [List.setIfInBounds_toArray, List.set_cons_zero, List.set_cons_succ])
  refine wpAnyP_take 5 10 [5, 11] (v := ?_) rfl (by kernel_rfl) (by kernel_rfl) (by kernel_rfl) (by kernel_rfl) (by kernel_rfl) (by kernel_rfl) (by rfl) (fun _ _ _ h => h) (Or.inl ⟨by rfl, ?_⟩) (by assumption) ?_; rotate_left
  · (intro w hSw; (try dsimp only at hSw); go_simp; (try with_reducible rfl))
  (try simp only [List.setIfInBounds_toArray, List.set_cons_zero, List.set_cons_succ])
  refine wpAnyP_take 6 11 [6, 7, 8, 9, 10, 11] (v := ?_) rfl (by kernel_rfl) (by kernel_rfl) (by kernel_rfl) (by kernel_rfl) (by kernel_rfl) (by kernel_rfl) (by rfl) (fun _ _ _ h => h) (Or.inl ⟨by rfl, ?_⟩) (by assumption) ?_; rotate_left
  · (intro w hSw; (try dsimp only at hSw); go_simp; (try with_reducible rfl))
  (try simp only [List.setIfInBounds_toArray, List.set_cons_zero, List.set_cons_succ])
  refine wpAnyP_take 7 12 [7, 8, 9, 10, 11] (v := ?_) rfl (by kernel_rfl) (by kernel_rfl) (by kernel_rfl) (by kernel_rfl) (by kernel_rfl) (by kernel_rfl) (by rfl) (fun _ _ _ h => h) (Or.inl ⟨by rfl, ?_⟩) (by assumption) ?_; rotate_left
  · (intro w hSw; (try dsimp only at hSw); go_simp; (try with_reducible rfl))
  (try simp only [List.setIfInBounds_toArray, List.set_cons_zero, List.set_cons_succ])
  refine wpAnyP_take 8 13 [8, 9, 10, 11] (v := ?_) rfl (by kernel_rfl) (by kernel_rfl) (by kernel_rfl) (by kernel_rfl) (by kernel_rfl) (by kernel_rfl) (by rfl) (fun _ _ _ h => h) (Or.inl ⟨by rfl, ?_⟩) (by assumption) ?_; rotate_left
  · (intro w hSw; (try dsimp only at hSw); go_simp; (try with_reducible rfl))
  (try simp only [List.setIfInBounds_toArray, List.set_cons_zero, List.set_cons_succ])
  refine wpAnyP_take 9 14 [9, 10, 11] (v := ?_) rfl (by kernel_rfl) (by kernel_rfl) (by kernel_rfl) (by kernel_rfl) (by kernel_rfl) (by kernel_rfl) (by rfl) (fun _ _ _ h => h) (Or.inl ⟨by rfl, ?_⟩) (by assumption) ?_; rotate_left
  · (intro w hSw; (try dsimp only at hSw); go_simp; (try with_reducible rfl))
  (try simp only [List.setIfInBounds_toArray, List.set_cons_zero, List.set_cons_succ])
  refine wpAnyP_one 10 rfl (by kernel_rfl) (fun K hK => ?_)
  go_simp
  refine (C.out _ ((Below.refl _ _).drew)).mono ?_
  rintro e w1 ⟨v, rfl, hv, hb⟩
  go_wp2_with fail
  clear hS
  have hS : w1.cell? ⟨p, 0, none⟩ = some (.bool xn) ∧ w1.cell? ⟨p, 1, none⟩ = some xv := ⟨(bel_cell hb hp).trans x0, (bel_cell hb hp).trans x1⟩
  refine hK.out _ _ (fun _ => hS) ?_
  clear hK K
  (try simp only [Act.put, List.setIfInBounds_toArray, List.set_cons_zero, List.set_cons_succ])
  refine wpAnyP_one 11 rfl (by kernel_rfl) (fun K hK => ?_)
  go_simp
  refine (give_any g X.natAbs (!xn) v _ (HZ.out.below ((Below.refl _ _).drew.trans hb)) hv HS.out).mono ?_
  rintro e w2 ⟨rfl, hr, hgr⟩
  go_wp2_with fail
  refine hK.out _ _ (fun h => by cases h) ?_
  clear hK K
  (try simp only [Act.put, List.setIfInBounds_toArray, List.set_cons_zero, List.set_cons_succ])
  refine wpAnyP_one 12 rfl (by kernel_rfl) (fun K hK => ?_)
  go_simp
  refine hK.out _ _ (fun h => by cases h) ?_
  clear hK K
  (try simp only [Act.put, List.setIfInBounds_toArray, List.set_cons_zero, List.set_cons_succ])
  refine wpAnyP_done (by kernel_rfl) ?_ _
  have HB := hide hb
  have HR := hide hr
  have HG := hide hgr
  clear hb hr hgr hv hS
  go_wp2_with fail
  go_ret
  rw [← HI.out]
  exact ⟨rfl, HR.out, grown_after ((Below.refl _ _).drew.trans HB.out) HG.out⟩


set_option maxRecDepth 100000 in
set_option maxHeartbeats 1600000 in
theorem abs_int (g p : Nat) (X : Int) (w : World) (hz : IntBlk w g) (hx : IntAt w p X) (hxl : X.natAbs < lim) :
    Calls Tryd.prog 50 #[.pointer (some ⟨g, 0, none⟩), .pointer (some ⟨p, 0, none⟩)] w (RetInt w g (X.natAbs : Int)) := by
  obtain ⟨xn, xv, x0, x1, hxv, hxs⟩ := hx.cells
  have HZ := hide hz
  have C := hide (twin_any xv _ w hxv hxl)
  have HS : Hid (X.natAbs < lim) := hxl
  clear hz hx hxl hxv hxs
  go_enter Tryd.func50, Tryd.ntmps50
  go_wp2_with fail
  refine C.out.mono ?_
  rintro e w1 ⟨v, rfl, hv, hb⟩
  have C2 := hide (give_any g X.natAbs false v w1 (HZ.out.below hb) hv HS.out)
  have HB := hide hb
  clear hv hb
  go_wp2_with fail
  refine C2.out.mono ?_
  rintro e w2 ⟨rfl, hr⟩
  have HR := hide hr
  clear hr
  go_wp2_with fail
  go_ret
  exact RetInt.after HB.out ⟨rfl, HR.out⟩

theorem sign_cases (X : Int) : X = 0 ∧ X.sign = 0 ∨ X < 0 ∧ X.sign = -1 ∨ 0 < X ∧ X.sign = 1 := by
  rcases Int.lt_trichotomy X 0 with h | h | h
  · exact .inr (.inl ⟨h, Int.sign_eq_neg_one_of_neg h⟩)
  · exact .inl ⟨h, by rw [h]; rfl⟩
  · exact .inr (.inr ⟨h, Int.sign_eq_one_of_pos h⟩)
theorem len_zero {l : List Nat} {k x : Nat} (hl : l.length = k) (hn : Norm l) (hv : wv l = x) : k = 0 ↔ x = 0 := by
  constructor
  · intro h
    rw [h] at hl
    rw [← hv, List.eq_nil_of_length_eq_zero hl]; rfl
  · intro h
    by_cases hk : 0 < k
    · have := wv_ge hn (by omega)
      have h2 : 0 < 4294967296 ^ (l.length - 1) := Nat.pow_pos (by omega)
      omega
    · omega

set_option maxRecDepth 100000 in
set_option maxHeartbeats 800000 in
theorem sign_int (p : Nat) (X : Int) (w : World) (hx : IntAt w p X) (hxl : X.natAbs < lim) :
    Calls Tryd.prog 25 #[.pointer (some ⟨p, 0, none⟩)] w fun e w' => e = .returned (.int .i64 X.sign) ∧ w = w' := by
  obtain ⟨xn, xv, x0, x1, hxv, hxs⟩ := hx.cells
  obtain ⟨A, k, c, l, rfl, hl, hnl, hlv, hk⟩ := hxv.open_ hxl
  have hz := len_zero hl.len hnl hlv
  rcases sign_cases X with ⟨h, hs⟩ | ⟨h, hs⟩ | ⟨h, hs⟩
  · have hk0 : k = 0 := hz.2 (by omega)
    subst hk0
    have HS := hide hs
    clear hs hz hk hlv hnl hl hxv hxs hx hxl h
    go_enter Tryd.func25, Tryd.ntmps25
    go_wp2_with fail
    go_ret
    exact ⟨by rw [HS.out]; rfl, rfl⟩
  · have q1 : ((k : Int) == 0) = false := by
      have : k ≠ 0 := fun h0 => by have := hz.1 h0; omega
      simp; omega
    have q2 : xn = true := hxs.2 h
    subst q2
    have HS := hide hs
    clear hs hz hk hlv hnl hl hxv hxs hx hxl h
    go_enter Tryd.func25, Tryd.ntmps25
    go_wp2_with fail
    go_ret
    exact ⟨by rw [HS.out]; rfl, rfl⟩
  · have q1 : ((k : Int) == 0) = false := by
      have : k ≠ 0 := fun h0 => by have := hz.1 h0; omega
      simp; omega
    have q2 : xn = false := by cases xn; rfl; have := hxs.1 rfl; omega
    subst q2
    have HS := hide hs
    clear hs hz hk hlv hnl hl hxv hxs hx hxl h
    go_enter Tryd.func25, Tryd.ntmps25
    go_wp2_with fail
    go_ret
    exact ⟨by rw [HS.out]; rfl, rfl⟩
end Go.Proofs.YtpppnaljndhjcaaDoor
