/- The walks of curve's at and on. -/
import Derived.Test.YtofjmnodfabohaaGreatDoorKCurvC
import Derived.Test.YtofjmnodfabohaaGreatDoorK0
import Derived.Deep.RegionHeld3
namespace Go.Proofs.YtofjmnodfabohaaGreatDoor
open Go.RowKit
open CV

/-- a block of cells -/
def KB (W : World) (g : Nat) (vs : Array Value) (T : TypeId) : Prop := W.heap[g]? = some (.cells vs T (0, 0))
theorem KB.made (w : World) (vs : Array Value) (T : TypeId) : KB (w.alloc (.cells vs T)) w.heap.size vs T := by
  show (w.heap.push _)[w.heap.size]? = _
  simp
theorem KB.lt {w : World} {g : Nat} {vs : Array Value} {T : TypeId} (h : KB w g vs T) : g < w.heap.size := heap_lt h
theorem KB.below {w w' : World} {g : Nat} {vs : Array Value} {T : TypeId} (h : KB w g vs T) (k : Below w.heap.size w w') : KB w' g vs T := (k.block g h.lt).trans h
theorem KB.cell {w : World} {g : Nat} {vs : Array Value} {T : TypeId} (h : KB w g vs T) {i : Nat} {v : Value} (hv : vs[i]? = some v) : w.cell? ⟨g, i, none⟩ = some v := by
  unfold KB at h
  simp [World.cell?, h, hv]
theorem KB.frozen {w : World} {g : Nat} {vs : Array Value} {T : TypeId} (h : KB w g vs T) (k : Nat) : w.frozen? ⟨g, k, none⟩ = false := by
  unfold KB at h
  simp [World.frozen?, h]
theorem KB.far {w : World} {g : Nat} {vs : Array Value} {T : TypeId} (h : KB w g vs T) {p : Addr} (hp : g ≠ p.block) (v : Value) : KB (w.setCell p v) g vs T := (Below.heap_setCell _ _ _ _ hp).trans h
theorem KB.set {w : World} {g : Nat} {vs : Array Value} {T : TypeId} (h : KB w g vs T) (i : Nat) (v : Value) : KB (w.setCell ⟨g, i, none⟩ v) g (vs.setIfInBounds i v) T := by
  unfold KB at h ⊢
  simp [World.setCell, Array.getElem?_modify, h]
theorem KB.three {w : World} {g : Nat} {x y z : Value} {T : TypeId} (h : KB w g #[x, y, z] T) : w.cell? ⟨g, 0, none⟩ = some x ∧ w.cell? ⟨g, 1, none⟩ = some y ∧ w.cell? ⟨g, 2, none⟩ = some z := ⟨h.cell rfl, h.cell rfl, h.cell rfl⟩

/-- a curve's value, a point's value -/
def cvv (p a b : Int) : Value := .agg #[.int .i64 p, .int .i64 a, .int .i64 b]
def ptv (P : CP) : Value := .agg #[.int .i64 P.x, .int .i64 P.y, .bool P.far]

/-- the sums and products of a curve's right side -/
theorem at_wraps {p a b x : Int} (hp : p ≤ 2000) (ha : 0 ≤ a ∧ a < p) (hb : 0 ≤ b ∧ b < p) (hx : 0 ≤ x ∧ x < p) :
    IntKind.i64.wrap (x * x) = x * x ∧ IntKind.i64.wrap (x * x * x) = x * x * x ∧ IntKind.i64.wrap (a * x) = a * x ∧ IntKind.i64.wrap (x * x * x + a * x) = x * x * x + a * x ∧ IntKind.i64.wrap (x * x * x + a * x + b) = x * x * x + a * x + b ∧ (0 ≤ x * x * x + a * x + b ∧ x * x * x + a * x + b ≤ 100000000000) ∧ 0 ≤ x * x ∧ x * x ≤ 4000000 := by
  have e1 := mul_le2 (x := x) (y := x) (p := 2000) (q := 2000) (by omega) (by omega) (by omega) (by omega)
  have e2 := mul_le2 (x := x * x) (y := x) (p := 4000000) (q := 2000) (by omega) (by omega) (by omega) (by omega)
  have e3 := mul_le2 (x := a) (y := x) (p := 2000) (q := 2000) (by omega) (by omega) (by omega) (by omega)
  simp only [IntKind.wrap_i64]
  refine ⟨by omega, by omega, by omega, by omega, by omega, ⟨by omega, by omega⟩, by omega, by omega⟩

set_option maxRecDepth 100000 in
set_option maxHeartbeats 800000 in
theorem at_any (p a b x : Int) (w : World) (h : OkCv p a b) (hx : 0 ≤ x ∧ x < p) :
    Calls Tryz.prog 18 #[cvv p a b, .int .i64 x] w fun e w' => e = .returned (.int .i64 ((x * x * x + a * x + b) % p)) ∧ Below w.heap.size w w' := by
  obtain ⟨v1, v2, v3, v4, v5, v6, _⟩ := at_wraps h.p2 ⟨h.a1, h.a2⟩ ⟨h.b1, h.b2⟩ hx
  obtain ⟨D, hD⟩ : ∃ D, x * x * x + a * x + b = D := ⟨_, rfl⟩
  have v5' := v5.trans hD
  clear v5
  rw [hD] at v6 ⊢
  have hr : D.tmod p = D % p := tmod_emod v6.1
  obtain ⟨r, hrr⟩ : ∃ r, D % p = r := ⟨_, rfl⟩
  rw [hrr] at hr ⊢
  have hp0 : p ≠ 0 := by have := h.p1; omega
  clear h hx hD v6 hrr
  unfold cvv
  go_enter Tryz.func18, Tryz.ntmps18
  go_wp2_with fail
  go_ret
  exact ⟨rfl, bel_x _ _⟩

theorem okC_no {p a b : Int} {P : CP} (_hp : 0 ≤ p) (h : ¬ ((0 ≤ P.x ∧ P.x < p) ∧ 0 ≤ P.y ∧ P.y < p)) (hf : P.far = false) : decide (okC p.toNat a b P) = false := by
  rw [decide_eq_false_iff_not]
  intro k
  obtain ⟨k1, k2, _⟩ := k.near hf
  omega

set_option maxRecDepth 100000 in
set_option maxHeartbeats 3200000 in
theorem on_any (p a b : Int) (P : CP) (w : World) (h : OkCv p a b) :
    Calls Tryz.prog 16 #[cvv p a b, ptv P] w fun e w' => e = .returned (.bool (decide (okC p.toNat a b P))) ∧ Below w.heap.size w w' := by
  obtain ⟨x, y, f⟩ := P
  cases f
  · by_cases hr : (0 ≤ x ∧ x < p) ∧ 0 ≤ y ∧ y < p
    · have HOK := hide h
      have CA := fun W => hide (at_any p a b x W h hr.1)
      obtain ⟨_, _, _, _, _, _, v7, v8⟩ := at_wraps h.p2 ⟨h.a1, h.a2⟩ ⟨h.b1, h.b2⟩ hr.2
      have w1 : IntKind.i64.wrap (y * y) = y * y := by rw [IntKind.wrap_i64]; omega
      have hE : decide (okC p.toNat a b ⟨x, y, false⟩) = (y * y % p == (x * x * x + a * x + b) % p) := by
        rw [Bool.eq_iff_iff, decide_eq_true_eq, beq_iff_eq]
        unfold okC
        rw [if_neg (by simp)]
        have := h.p1
        rw [show ((p.toNat : Nat) : Int) = p by omega]
        exact ⟨fun k => k.2.2, fun k => ⟨hr.1, hr.2, k⟩⟩
      have hr1 : (y * y).tmod p = y * y % p := tmod_emod v7
      obtain ⟨r, hrr⟩ : ∃ r, y * y % p = r := ⟨_, rfl⟩
      rw [hrr] at hr1 hE
      obtain ⟨D, hD⟩ : ∃ D, (x * x * x + a * x + b) % p = D := ⟨_, rfl⟩
      rw [hD] at hE CA
      rw [hE]
      have q1 : decide (0 ≤ x) = true := by rw [decide_eq_true_eq]; omega
      have q2 : decide (x < p) = true := by rw [decide_eq_true_eq]; omega
      have q3 : decide (0 ≤ y) = true := by rw [decide_eq_true_eq]; omega
      have q4 : decide (y < p) = true := by rw [decide_eq_true_eq]; omega
      have hp0 : p ≠ 0 := by have := h.p1; omega
      have K1 := hide (KB.made w #[.int .i64 p, .int .i64 a, .int .i64 b] 36)
      have K2 := hide (KB.made (w.alloc (.cells #[.int .i64 p, .int .i64 a, .int .i64 b] 36)) #[.int .i64 x, .int .i64 y, .bool false] 33)
      have B2 := hide (bel_x (w.alloc (.cells #[.int .i64 p, .int .i64 a, .int .i64 b] 36)) (.cells #[.int .i64 x, .int .i64 y, .bool false] 33))
      have B1 := hide (bel_x w (.cells #[.int .i64 p, .int .i64 a, .int .i64 b] 36))
      clear h hr hE hrr hD v7 v8
      unfold cvv at CA
      unfold cvv ptv
      go_enter Tryz.func16, Tryz.ntmps16
      go_upto_region 3 with (fail)
      obtain ⟨W2, hW2⟩ : ∃ Z, (w.alloc (.cells #[.int .i64 p, .int .i64 a, .int .i64 b] 36)).alloc (.cells #[.int .i64 x, .int .i64 y, .bool false] 33) = Z := ⟨_, rfl⟩
      have k1 := K1.out.below B2.out
      have k2 := K2.out
      have B3 := hide (below_new B2.out)
      rw [World.size_alloc] at k2
      rw [hW2] at k1 k2 B3 ⊢
      obtain ⟨g, hg⟩ : ∃ g, w.heap.size = g := ⟨_, rfl⟩
      have HG := hide hg
      have K := fun (W : World) (k : Below W2.heap.size W2 W) => hide (show ((W.cell? ⟨g, 0, none⟩ = some (.int .i64 p) ∧ W.cell? ⟨g, 1, none⟩ = some (.int .i64 a) ∧ W.cell? ⟨g, 2, none⟩ = some (.int .i64 b)) ∧ (W.cell? ⟨g + 1, 0, none⟩ = some (.int .i64 x) ∧ W.cell? ⟨g + 1, 1, none⟩ = some (.int .i64 y) ∧ W.cell? ⟨g + 1, 2, none⟩ = some (.bool false))) ∧ Hid (Below W2.heap.size W2 W) from by rw [← hg]; exact ⟨⟨(k1.below k).three, (k2.below k).three⟩, hide k⟩)
      rw [hg]
      clear K1 K2 B1 B2 hW2 k1 k2 hg
      obtain ⟨⟨⟨c0, c1, c2⟩, d0, d1, d2⟩, _⟩ := (K W2 (Below.refl _ _)).out
      go_wp2_with fail
      go_region_held3 (fun W => ((W.cell? ⟨g, 0, none⟩ = some (.int .i64 p) ∧ W.cell? ⟨g, 1, none⟩ = some (.int .i64 a) ∧ W.cell? ⟨g, 2, none⟩ = some (.int .i64 b)) ∧ (W.cell? ⟨g + 1, 0, none⟩ = some (.int .i64 x) ∧ W.cell? ⟨g + 1, 1, none⟩ = some (.int .i64 y) ∧ W.cell? ⟨g + 1, 2, none⟩ = some (.bool false))) ∧ Hid (Below W2.heap.size W2 W)) (first | exact (K _ (below_drewN (Below.refl _ _) 1)).out | exact (K _ ((below_drewN (Below.refl _ _) 1).trans (hb.mono (Nat.le_refl _)))).out) ((go_at_call 18; refine (CA _).out.mono ?_; rintro e w5 ⟨rfl, hb⟩))
      all_goals
        have hb2 := hide (B3.out.trans (((below_drewN (Below.refl _ _) 1).trans (hb.mono (Nat.le_refl _))).mono B3.out.size))
        rw [HG.out] at hb2
        clear hb K
        go_wp2_with fail
        go_ret
        exact ⟨rfl, by rw [HG.out]; exact hb2.out⟩
    · rw [okC_no (by have := h.p1; omega) hr rfl]
      have hh : decide (0 ≤ x) = false ∨ (decide (0 ≤ x) = true ∧ decide (x < p) = false) ∨ (decide (0 ≤ x) = true ∧ decide (x < p) = true ∧ decide (0 ≤ y) = false) ∨ (decide (0 ≤ x) = true ∧ decide (x < p) = true ∧ decide (0 ≤ y) = true ∧ decide (y < p) = false) := by
        simp only [decide_eq_true_eq, decide_eq_false_iff_not]; omega
      have B1 := hide (below_new (bel_x (w.alloc (.cells #[.int .i64 p, .int .i64 a, .int .i64 b] 36)) (.cells #[.int .i64 x, .int .i64 y, .bool false] 33)))
      clear h hr
      unfold cvv ptv
      rcases hh with h1 | ⟨h1, h2⟩ | ⟨h1, h2, h3⟩ | ⟨h1, h2, h3, h4⟩
      all_goals
        go_enter Tryz.func16, Tryz.ntmps16
        go_wp2_with fail
        go_quiet (fail)
        go_wp2_with fail
        go_ret
        exact ⟨rfl, below_drewN B1.out _⟩
  · have hE : decide (okC p.toNat a b ⟨x, y, true⟩) = ((x == 0) && (y == 0)) := by
      rw [Bool.eq_iff_iff, decide_eq_true_eq, Bool.and_eq_true, beq_iff_eq, beq_iff_eq]
      exact Iff.rfl
    rw [hE]
    have B1 := hide (below_new (bel_x (w.alloc (.cells #[.int .i64 p, .int .i64 a, .int .i64 b] 36)) (.cells #[.int .i64 x, .int .i64 y, .bool true] 33)))
    clear h hE
    unfold cvv ptv
    cases hx : x == 0
    · go_enter Tryz.func16, Tryz.ntmps16
      go_wp2_with fail
      go_ret
      exact ⟨rfl, B1.out⟩
    · go_enter Tryz.func16, Tryz.ntmps16
      go_wp2_with fail
      go_ret
      exact ⟨rfl, B1.out⟩
end Go.Proofs.YtofjmnodfabohaaGreatDoor
