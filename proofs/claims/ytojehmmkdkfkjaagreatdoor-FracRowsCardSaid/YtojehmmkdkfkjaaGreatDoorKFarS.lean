/- Plain facts and memory of the law FracRows; its tail, named by its place. (gen_farl.py prints this text.) -/
import Derived.Test.YtojehmmkdkfkjaaGreatDoorKFRowW
import Derived.Test.YtojehmmkdkfkjaaGreatDoorK0
import Derived.Test.YtojehmmkdkfkjaaGreatDoorKFFault
import Derived.Test.YtojehmmkdkfkjaaGreatDoorKFracB
import Derived.Deep.DeepCutAuto
import Derived.Deep.RegionHeld3
namespace Go.Proofs.YtojehmmkdkfkjaaGreatDoor
open Go.RowKit
open FA

/-- the blocks of the law's frame: the fraction, the next one, the fault that came, the fault that should -/
structure LS (w W : World) (p5 p6 p7 : Nat) (u v P Q k m k2 m2 : Int) : Prop where
  f : QC W w.heap.size u v
  y : QC W p5 P Q
  e : FC W p6 k m
  v : FC W p7 k2 m2
  b : Below w.heap.size w W
  l5 : w.heap.size < p5
  l6 : p5 < p6
  l7 : p6 < p7
section
variable {w W W' : World} {p5 p6 p7 : Nat} {u v P Q k m k2 m2 : Int}
theorem LS.below (h : LS w W p5 p6 p7 u v P Q k m k2 m2) (b : Below W.heap.size W W') : LS w W' p5 p6 p7 u v P Q k m k2 m2 :=
  ⟨h.f.below b, h.y.below b, h.e.below b, h.v.below b, h.b.trans (b.mono h.b.size), h.l5, h.l6, h.l7⟩
theorem LS.setv (h : LS w W p5 p6 p7 u v P Q k m k2 m2) (x y : Int) : LS w ((W.setCell ⟨p7, 0, none⟩ (.int .i64 x)).setCell ⟨p7, 1, none⟩ (.int .i64 y)) p5 p6 p7 u v P Q k m x y := by
  have l5 := h.l5
  have l6 := h.l6
  have l7 := h.l7
  refine ⟨(h.f.cell1 (by omega) _ _).cell1 (by omega) _ _, (h.y.cell1 (by omega) _ _).cell1 (by omega) _ _, ?_, (h.v.set0 x).set1 y, (h.b.setCell (p := ⟨p7, 0, none⟩) (by show w.heap.size ≤ p7; omega) (.int .i64 x)).setCell (p := ⟨p7, 1, none⟩) (by show w.heap.size ≤ p7; omega) (.int .i64 y), l5, l6, l7⟩
  exact (Below.heap_setCell _ ⟨p7, 1, none⟩ _ _ (by show p6 ≠ p7; omega)).trans ((Below.heap_setCell _ ⟨p7, 0, none⟩ _ _ (by show p6 ≠ p7; omega)).trans h.e)
theorem LS.sete (h : LS w W p5 p6 p7 u v P Q k m k2 m2) (x y : Int) : LS w ((W.setCell ⟨p6, 0, none⟩ (.int .i64 x)).setCell ⟨p6, 1, none⟩ (.int .i64 y)) p5 p6 p7 u v P Q x y k2 m2 := by
  have l5 := h.l5
  have l6 := h.l6
  have l7 := h.l7
  refine ⟨(h.f.cell1 (by omega) _ _).cell1 (by omega) _ _, (h.y.cell1 (by omega) _ _).cell1 (by omega) _ _, (h.e.set0 x).set1 y, ?_, (h.b.setCell (p := ⟨p6, 0, none⟩) (by show w.heap.size ≤ p6; omega) (.int .i64 x)).setCell (p := ⟨p6, 1, none⟩) (by show w.heap.size ≤ p6; omega) (.int .i64 y), l5, l6, l7⟩
  exact (Below.heap_setCell _ ⟨p6, 1, none⟩ _ _ (by show p7 ≠ p6; omega)).trans ((Below.heap_setCell _ ⟨p6, 0, none⟩ _ _ (by show p7 ≠ p6; omega)).trans h.v)
theorem ls_start (h : QC W w.heap.size u v) (b : Below w.heap.size w W) (P Q k m k2 m2 : Int) (W2 : World) (b2 : Below ((W.alloc (.cells #[.int .i64 P, .int .i64 Q] 23)).alloc (.cells #[.int .i64 k, .int .i64 m] 25)).heap.size ((W.alloc (.cells #[.int .i64 P, .int .i64 Q] 23)).alloc (.cells #[.int .i64 k, .int .i64 m] 25)) W2) :
    LS w (W2.alloc (.cells #[.int .i64 k2, .int .i64 m2] 25)) W.heap.size (W.heap.size + 1) W2.heap.size u v P Q k m k2 m2 := by
  have hy := QC.made W P Q
  have he := FC.made (W.alloc (.cells #[.int .i64 P, .int .i64 Q] 23)) k m
  rw [World.size_alloc] at he
  have hb : Below w.heap.size w ((W.alloc (.cells #[.int .i64 P, .int .i64 Q] 23)).alloc (.cells #[.int .i64 k, .int .i64 m] 25)) := (b.alloc b.size _).alloc (by have := b.size; simp; omega) _
  have hw : W.heap.size + 1 + 1 ≤ W2.heap.size := by have := b2.size; simpa using this
  have hb2 := hb.trans (b2.mono hb.size)
  exact ⟨(((h.below (bel_new _ _)).below (bel_new _ _)).below b2).below (bel_new _ _), (((hy.below (bel_new _ _)).below b2).below (bel_new _ _)), (he.below b2).below (bel_new _ _), FC.made _ _ _, hb2.alloc hb2.size _, h.lt, by omega, by omega⟩
end

theorem pred_facts {N0 T K : Nat} (h1 : N0 = T + 2) (h2 : T + 1 = K) (h3 : N0 ≤ 2502) : wrap64 ((N0 : Int) - 1) = (K : Int) ∧ (K : Int) < (N0 : Int) ∧ (0 : Int) < (N0 : Int) :=
  ⟨by unfold wrap64; omega, by omega, by omega⟩
theorem phi_facts {i p q r : Nat} (hi : i < 50) (h : r = p + q) (hr : r ≤ 2500) : wrap64 (((1 + p : Nat) : Int) + ((q : Nat) : Int)) = ((1 + r : Nat) : Int) ∧ wrap64 ((i : Int) + 1 + 1) = ((i + 1 : Nat) : Int) + 1 :=
  ⟨by unfold wrap64; omega, by unfold wrap64; omega⟩
theorem idx_facts {s N0 : Nat} (h : s + 1 < N0) (hN : N0 ≤ 2502) : ((0 : Int) ≤ (s : Int) + 1 ∧ (s : Int) + 1 < (N0 : Int) ∧ (0 : Int) ≤ (s : Int) ∧ (s : Int) < (N0 : Int)) ∧ decide ((0 : Int) < (s : Int) + 1) = true ∧ decide ((s : Int) + 1 < (N0 : Int)) = true ∧ IntKind.i64.wrap ((s : Int) + 1 - 1) = (s : Int) ∧ IntKind.i64.wrap (s : Int) = (s : Int) ∧ wrap64 ((s : Int) + 1 + 1) = ((s + 1 + 1 : Nat) : Int) := by
  refine ⟨by omega, ?_, ?_, ?_, ?_, ?_⟩
  · rw [decide_eq_true_eq]; omega
  · rw [decide_eq_true_eq]; omega
  · rw [IntKind.wrap_i64]; omega
  · rw [IntKind.wrap_i64]; omega
  · unfold wrap64; omega
theorem meas_facts {N0 s : Nat} (h : s + 1 < N0) : N0 - (intOf (Value.int .i64 ((s + 1 + 1 : Nat) : Int))).toNat < N0 - (intOf (Value.int .i64 ((s + 1 : Nat) : Int))).toNat := by
  simp only [intOf]; omega
theorem pair_facts {N a1 a2 b1 b2 : Nat} (h : FP N (a1, a2) (b1, b2)) (ha : a1 ≤ N ∧ a2 ≤ N) (hN : N ≤ 50) : ∃ X0 Y0 X Y M1 M2 : Int, (a1 : Int) = X0 ∧ (a2 : Int) = Y0 ∧ (b1 : Int) = X ∧ (b2 : Int) = Y ∧
    (wrap64 (X * Y0) = M1 ∧ wrap64 (X0 * Y) = M2 ∧ wrap64 (M1 - M2) = 1 ∧ M1 - M2 = 1) ∧ (IntKind.i64.wrap (X * Y0) = M1 ∧ IntKind.i64.wrap (X0 * Y) = M2 ∧ IntKind.i64.wrap (M1 - M2) = 1 ∧ IntKind.i64.wrap 1 = 1) ∧ decide (Y < 1) = false ∧ decide ((N : Int) < Y) = false ∧ decide (X < 0) = false ∧ decide ((N : Int) < X) = false := by
  have hb2 : 1 ≤ b2 := h.lo
  have hb2n : b2 ≤ N := h.hi
  have hb1n : b1 ≤ N := h.up
  have hdet : (b1 : Int) * (a2 : Int) = (a1 : Int) * (b2 : Int) + 1 := by
    have h1 : b1 * a2 = a1 * b2 + 1 := h.det
    have h2 : ((b1 * a2 : Nat) : Int) = (b1 : Int) * (a2 : Int) := Int.natCast_mul ..
    have h3 : ((a1 * b2 : Nat) : Int) = (a1 : Int) * (b2 : Int) := Int.natCast_mul ..
    omega
  have hm1 : b1 * a2 ≤ 50 * 50 := Nat.mul_le_mul (by omega) (by omega)
  have hm2 : ((b1 * a2 : Nat) : Int) = (b1 : Int) * (a2 : Int) := Int.natCast_mul ..
  have hm1' : (b1 : Int) * (a2 : Int) ≤ 2500 := by omega
  have hm0 : (0 : Int) ≤ (a1 : Int) * (b2 : Int) := Int.mul_nonneg (by omega) (by omega)
  refine ⟨_, _, _, _, (b1 : Int) * (a2 : Int), (a1 : Int) * (b2 : Int), rfl, rfl, rfl, rfl, ⟨?_, ?_, ?_, by omega⟩, ⟨?_, ?_, ?_, rfl⟩, ?_, ?_, ?_, ?_⟩
  · unfold wrap64; omega
  · unfold wrap64; omega
  · unfold wrap64; omega
  · rw [IntKind.wrap_i64]; omega
  · rw [IntKind.wrap_i64]; omega
  · rw [IntKind.wrap_i64]; omega
  · rw [decide_eq_false_iff_not]; omega
  · rw [decide_eq_false_iff_not]; omega
  · rw [decide_eq_false_iff_not]; omega
  · rw [decide_eq_false_iff_not]; omega
theorem fs_first {i T s : Nat} (h : ∀ t, t ≤ T → FP i (fs i t).1 (fs i t).2) (hi : 1 ≤ i) (hs : s ≤ T) {a1 a2 : Nat} (ha : (fs i s).1 = (a1, a2)) : a1 ≤ i ∧ a2 ≤ i := by
  cases s with
  | zero =>
    have : (fs i 0).1 = ((0 : Nat), 1) := rfl
    rw [this] at ha
    injection ha with e1 e2
    omega
  | succ r =>
    have h := h r (by omega)
    have : (fs i (r + 1)).1 = (fs i r).2 := rfl
    rw [this] at ha
    rw [ha] at h
    exact ⟨h.up, h.hi⟩
theorem row_cells {W : World} {base n T : Nat} {v : Value} (h : QRow W base v (rl n T)) (h1 : (fs n T).2 = (1, 1)) :
    ∃ g c, v = .slice (some ⟨g, 0, none⟩) (rl n T).length c ∧ g < W.heap.size ∧ W.cell? ⟨g, 0, none⟩ = some (.int .i64 0) ∧ W.cell? ⟨g, 1, none⟩ = some (.int .i64 1) ∧ W.cell? ⟨g, (T + 1) * 2, none⟩ = some (.int .i64 1) ∧ W.cell? ⟨g, (T + 1) * 2 + 1, none⟩ = some (.int .i64 1) ∧
      ∀ (j : Nat) (t : Int × Int), (rl n T)[j]? = some t → W.cell? ⟨g, j * 2, none⟩ = some (.int .i64 t.1) ∧ W.cell? ⟨g, j * 2 + 1, none⟩ = some (.int .i64 t.2) := by
  obtain ⟨A, c, hv, hcell⟩ := h.open_
  obtain ⟨g, hA, hg, ca, cb⟩ := hcell 0 _ (rl_get n T 0 (Nat.zero_le _)).1
  have hlast := (rl_get n T T (Nat.le_refl _)).2
  rw [h1] at hlast
  have key : ∀ (j : Nat) (t : Int × Int), (rl n T)[j]? = some t → W.cell? ⟨g, j * 2, none⟩ = some (.int .i64 t.1) ∧ W.cell? ⟨g, j * 2 + 1, none⟩ = some (.int .i64 t.2) := by
    intro j t ht
    obtain ⟨g', eg, _, c1, c2⟩ := hcell j t ht
    rw [hA] at eg
    injection eg with eg
    injection eg with eg _ _
    rw [eg]
    exact ⟨c1, c2⟩
  have k2 := key _ _ hlast
  exact ⟨g, c, by rw [hv, hA], hg, ca, cb, k2.1, k2.2, key⟩

def cR : Code → Code
  | .seq _ b => b
  | c => c
noncomputable def tailC : Code := cR (cR (cR (cR (cR (cR (cR (Tryz.f3.body.getD .skip)))))))
end Go.Proofs.YtojehmmkdkfkjaaGreatDoor
