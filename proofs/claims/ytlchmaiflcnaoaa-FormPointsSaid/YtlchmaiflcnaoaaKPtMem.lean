/- The memory of quad.Points, and its numbers. -/
import Derived.Test.YtlchmaiflcnaoaaKPtSort
import Derived.Test.YtlchmaiflcnaoaaKPtsLaw
import Derived.Test.YtlchmaiflcnaoaaKRedW
import Derived.Lib.OwnKind
namespace Go.Proofs.Ytlchmaiflcnaoaa
open Go.RowKit Go.Sort

theorem pinfo : (Try.prog.info? 34).map (fun i => (i.zero, i.size, i.bytes)) = some (some (.agg #[.int .i64 0, .int .i64 0]), 2, 16) := by kernel_rfl
/-- a slice of points that a call has made -/
def PO (w : World) (base : Nat) (v : Value) (L : List (Int × Int)) : Prop := w.ownsRow base 34 2 v L.length (L.flatMap encP)
theorem PO.nil (w : World) (base : Nat) : PO w base (.slice none 0 0) [] := ⟨rfl, .inl ⟨rfl, rfl⟩⟩
theorem PO.below {w w' : World} {base : Nat} {v : Value} {L : List (Int × Int)} (h : PO w base v L) (k : Below w.heap.size w w') : PO w' base v L := by
  obtain ⟨h1, h2⟩ := h
  refine ⟨h1, ?_⟩
  rcases h2 with h2 | ⟨g, cap, cur, hv, hg, hh, r⟩
  · exact .inl h2
  · exact .inr ⟨g, cap, cur, hv, hg, (k.block g (heap_lt hh)).trans hh, r⟩
theorem PO.own {w : World} {base : Nat} {v : Value} {L : List (Int × Int)} (h : PO w base v L) : ∀ k, v.ownBlock = some k → base ≤ k := by
  intro k hk
  obtain ⟨_, h2⟩ := h
  rcases h2 with ⟨rfl, _⟩ | ⟨g, cap, cur, rfl, hg, _⟩
  · cases hk
  · simp [Value.ownBlock] at hk; omega
theorem rowI_grown {w w' : World} {base : Nat} {v : Value} {L : List (Int × Int)} {g : Nat} {vs : Array Value} (h : Row w g vs 3) (hP : PO w base v L) (hg : w.grownBy w' v.ownBlock) : Row w' g vs 3 := by
  refine (hg.block g h.lt fun e => ?_).trans h
  obtain ⟨c, fz, hc⟩ := Go.Lib.ownsRow_kind hP g e.symm
  rw [show w.heap[g]? = some (.cells vs 3 (0, 0)) from h] at hc
  injection hc with hc
  injection hc with _ hc
  exact absurd hc (by decide)
theorem PO.grow {w : World} {base : Nat} {v : Value} {L : List (Int × Int)} {x y : Int} (h : w.ownsRow base 34 2 v (L.length + 1) (L.flatMap encP ++ [.int .i64 x, .int .i64 y])) : PO w base v (L ++ [(x, y)]) := by
  unfold PO
  rw [List.length_append, List.flatMap_append]
  exact h
theorem two_new (W : World) (a b : Value) (T : TypeId) : ∀ (j : Nat) (u : Value), [a, b][j]? = some u → (W.alloc (.cells #[a, b] T)).cell? ((⟨W.heap.size, 0, none⟩ : Addr).add j) = some u := by
  intro j u hu
  have hb : (W.alloc (.cells #[a, b] T)).heap[W.heap.size]? = some (.cells #[a, b] T (0, 0)) := by
    show (W.heap.push _)[W.heap.size]? = _
    simp
  generalize W.alloc (.cells #[a, b] T) = W2 at hb
  generalize W.heap.size = g at hb
  match j, hu with
  | 0, hu => simp at hu; subst hu; simp [World.cell?, Addr.add, hb]
  | 1, hu => simp at hu; subst hu; simp [World.cell?, Addr.add, hb]
theorem PRow.set {w : World} {base : Nat} {v : Value} {L : List (Int × Int)} (h : PRow w base v L) {a : Addr} (ha : a.block < base) (x : Value) : PRow (w.setCell a x) base v L := by
  rcases h with h | ⟨g, cap, h1, h2, h3, h4⟩
  · exact .inl h
  · have ne : g ≠ a.block := by omega
    have hb := Below.heap_setCell w a x g ne
    have hc : ∀ o, (w.setCell a x).cell? ⟨g, o, none⟩ = w.cell? ⟨g, o, none⟩ := fun o => World.cell?_of_block (w := w) (a := ⟨g, o, none⟩) hb
    refine .inr ⟨g, cap, h1, h2, by simpa using h3, fun i t ht => ?_⟩
    obtain ⟨p, q⟩ := h4 i t ht
    exact ⟨(hc _).trans p, (hc _).trans q⟩

/-- the turned point -/
def tP (p q r s : Int) (z : Int × Int) : Int × Int := (p * z.1 + q * z.2, r * z.1 + s * z.2)

theorem row_root {d K r : Int} (hd : 0 < d) (h1 : r * r ≤ K / d) (h2 : K / d < (r + 1) * (r + 1)) : d * r * r ≤ K ∧ K < d * (r + 1) * (r + 1) := by
  have e1 := Int.ediv_mul_le K (show d ≠ 0 by omega)
  have e2 := Int.lt_ediv_add_one_mul_self K hd
  have e3 : r * r * d ≤ K / d * d := Int.mul_le_mul_of_nonneg_right h1 (by omega)
  have e4 : (K / d + 1) * d ≤ (r + 1) * (r + 1) * d := Int.mul_le_mul_of_nonneg_right (by omega) (by omega)
  constructor
  · have : d * r * r = r * r * d := by grind
    omega
  · have : d * (r + 1) * (r + 1) = (r + 1) * (r + 1) * d := by grind
    omega
theorem row_y {d r Y : Int} (hd : 0 ≤ d) (h1 : -r ≤ Y) (h2 : Y ≤ r + 1) : (-(d * (r + 1)) ≤ d * Y ∧ d * Y ≤ d * (r + 1)) ∧ (0 ≤ d * Y * Y ∧ d * Y * Y ≤ d * (r + 1) * (r + 1)) ∧ (Y ≤ r → d * Y * Y ≤ d * r * r) := by
  have e1 : d * Y ≤ d * (r + 1) := Int.mul_le_mul_of_nonneg_left h2 hd
  have e2 : d * (-(r + 1)) ≤ d * Y := Int.mul_le_mul_of_nonneg_left (by omega) hd
  rw [Int.mul_neg] at e2
  have s1 := sq_up (x := Y) (N := r + 1) (by omega) h2
  have s2 := sq_nn Y
  have e3 : d * (Y * Y) ≤ d * ((r + 1) * (r + 1)) := Int.mul_le_mul_of_nonneg_left s1 hd
  have e4 : 0 ≤ d * (Y * Y) := Int.mul_nonneg hd s2
  rw [← Int.mul_assoc] at e3 e4
  rw [← Int.mul_assoc] at e3
  refine ⟨⟨e2, e1⟩, ⟨e4, e3⟩, fun h => ?_⟩
  have s3 := sq_up (x := Y) (N := r) (by omega) h
  have e5 : d * (Y * Y) ≤ d * (r * r) := Int.mul_le_mul_of_nonneg_left s3 hd
  rw [← Int.mul_assoc, ← Int.mul_assoc] at e5
  exact e5

/-- what quad.Points answers at a good form and a good number -/
def PtsOf (a b c n : Int) (L : List (Int × Int)) : Prop := ∃ A B C p q r s : Int, RInv a b c A B C p q r s ∧ RedF A B C ∧ (∃ L0, Has L0 (fun x y => tA A B C x y = n) ∧ L.Perm (L0.map (tP p q r s))) ∧ L.Pairwise (fun x y => ¬ (y.1 < x.1 ∨ (y.1 = x.1 ∧ y.2 < x.2)))
end Go.Proofs.Ytlchmaiflcnaoaa
