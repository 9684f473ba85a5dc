/- Plain law: what the law FormPoints asks of the points. -/
import Derived.Test.YtlchmaiflcnaoaaKPtMem
import Derived.Test.YtlchmaiflcnaoaaKComposeW
import Derived.Test.YtlchmaiflcnaoaaKComposedLaw
namespace Go.Proofs.Ytlchmaiflcnaoaa

/-- the two counts agree -/
theorem ptsof_len {a b c n D A B C : Int} {L M : List (Int × Int)} (h : PtsOf a b c n L) (ha : 1 ≤ a) (hD : D = b * b - 4 * a * c) (hn : D < 0) (r : RedF A B C) (o : OInv D a b c A B C)
    (hM : Has M (fun x y => tA A B C x y = n)) : L.length = M.length := by
  obtain ⟨A1, B1, C1, p, q, r1, s, hi, hr, ⟨L0, hL, hp⟩, _⟩ := h
  have hpos := hr.pos
  have s1 := sim_turn (c := c) hi.det (by rw [hi.va]; rfl) hi.vb (by omega) (show A1 ≠ 0 by omega)
  rw [← hD] at s1
  have s2 := s1.symm.trans hn o.sim
  obtain ⟨rfl, rfl, rfl⟩ := sim_unique hn (by rw [hi.d]; exact hD) o.d hr r s2
  rw [hp.length_eq, List.length_map]
  exact hL.len hM

theorem ptsof_short {a b c n : Int} {L : List (Int × Int)} (h : PtsOf a b c n L) (hn : n ≤ 1000000) : L.length ≤ 6000000 := by
  obtain ⟨A1, B1, C1, p, q, r1, s, hi, hr, ⟨L0, hL, hp⟩, _⟩ := h
  have := hL.short 1155 (fun x y hs => pt_small hr hn (by rw [hs]; exact Int.le_refl _))
  rw [hp.length_eq, List.length_map]
  omega
theorem tP_inj {p q r s : Int} (h : p * s - q * r = 1) {z z' : Int × Int} (e : tP p q r s z = tP p q r s z') : z = z' := by
  obtain ⟨x, y⟩ := z
  obtain ⟨x', y'⟩ := z'
  simp only [tP, Prod.mk.injEq] at e ⊢
  obtain ⟨e1, e2⟩ := e
  constructor
  · grind
  · grind

/-- the points stand strictly sorted -/
theorem ptsof_sorted {a b c n : Int} {L : List (Int × Int)} (h : PtsOf a b c n L) : L.Pairwise (fun x y => x.1 < y.1 ∨ x.1 = y.1 ∧ x.2 < y.2) := by
  obtain ⟨A1, B1, C1, p, q, r1, s, hi, hr, ⟨L0, hL, hp⟩, hs⟩ := h
  have hnd : L.Nodup := by
    rw [hp.nodup_iff]
    unfold List.Nodup
    rw [List.pairwise_map]
    refine hL.nd.imp ?_
    intro z z' hne e
    exact hne (tP_inj hi.det e)
  refine (List.pairwise_and_iff.2 ⟨hs, hnd⟩).imp ?_
  rintro ⟨x, y⟩ ⟨x', y'⟩ ⟨h1, h2⟩
  simp only [ne_eq, Prod.mk.injEq] at h2
  simp only at h1 ⊢
  omega

theorem abs_of_sq {x : Int} (h : x * x ≤ 4000000000000) : -2000000 ≤ x ∧ x ≤ 2000000 := sq_le (N := 2000000) (by omega) (by omega)

/-- each point's value, and how great it is -/
theorem ptsof_val {a b c n : Int} {L : List (Int × Int)} (h : PtsOf a b c n L) (ha : 1 ≤ a) (ha2 : a ≤ 1000000) (hc : 1 ≤ c) (hc2 : c ≤ 1000000) (hd : b * b - 4 * a * c < 0) (hn : 0 ≤ n) (hn2 : n ≤ 1000000) {x y : Int} (hm : (x, y) ∈ L) :
    x * x * a + x * y * b + y * y * c = n ∧ (-2000000 ≤ x ∧ x ≤ 2000000) ∧ -2000000 ≤ y ∧ y ≤ 2000000 := by
  obtain ⟨A1, B1, C1, p, q, r1, s, hi, hr, ⟨L0, hL, hp⟩, hs⟩ := h
  have hv : x * x * a + x * y * b + y * y * c = n := by
    obtain ⟨z, hz, e⟩ := List.mem_map.1 ((hp.mem_iff).1 hm)
    obtain ⟨x0, y0⟩ := z
    have e1 := (hL.mem x0 y0).1 hz
    simp only [tP, Prod.mk.injEq] at e
    obtain ⟨rfl, rfl⟩ := e
    have v1 := hi.va
    have v2 := hi.vb
    have v3 := hi.vc
    unfold fval at v1 v3
    unfold tA at e1
    rw [← e1, v1, v2, v3]
    grind
  obtain ⟨D, hD⟩ : ∃ D, b * b - 4 * a * c = D := ⟨_, rfl⟩
  rw [hD] at hd
  have f1 : 4 * a * n = (2 * a * x + b * y) * (2 * a * x + b * y) + -D * (y * y) := by rw [← hv, ← hD]; grind
  have f2 : 4 * c * n = (2 * c * y + b * x) * (2 * c * y + b * x) + -D * (x * x) := by rw [← hv, ← hD]; grind
  have q1 := sq_nn (2 * a * x + b * y)
  have q2 := sq_nn (2 * c * y + b * x)
  have g1 : 1 * (y * y) ≤ -D * (y * y) := Int.mul_le_mul_of_nonneg_right (by omega) (sq_nn y)
  have g2 : 1 * (x * x) ≤ -D * (x * x) := Int.mul_le_mul_of_nonneg_right (by omega) (sq_nn x)
  have m1 := mul_le_of (x := 4 * a) (y := n) (N := 4000000) (M := 1000000) (by omega) (by omega) hn hn2
  have m2 := mul_le_of (x := 4 * c) (y := n) (N := 4000000) (M := 1000000) (by omega) (by omega) hn hn2
  exact ⟨hv, abs_of_sq (by omega), abs_of_sq (by omega)⟩
end Go.Proofs.Ytlchmaiflcnaoaa
