/- The table of rests that the reference's DecimalOf keeps: plain laws; a row of ints that is written one by one. -/
import Derived.Test.YtgocnjklpafabaaDoorTextW
import Derived.Test.YtgocnjklpafabaaDoorDecW
namespace Go.Proofs.YtgocnjklpafabaaDoor
open Go.RowKit

/-- where the rest x came up among the first m -/
def sn (D r0 : Nat) : Nat → Nat → Int
  | 0, _ => -1
  | m + 1, x => if x = rst D r0 m then (m : Int) else sn D r0 m x
theorem sn_neg {D r0 x : Nat} : ∀ {m : Nat}, (∀ i, i < m → rst D r0 i ≠ x) → sn D r0 m x = -1
  | 0, _ => rfl
  | m + 1, h => by
    unfold sn
    rw [if_neg (fun he => h m (by omega) he.symm)]
    exact sn_neg fun i hi => h i (by omega)
theorem sn_val {D r0 x i : Nat} : ∀ {m : Nat}, (∀ i j, i < j → j < m → rst D r0 i ≠ rst D r0 j) → i < m → rst D r0 i = x → sn D r0 m x = (i : Int)
  | 0, _, h, _ => by omega
  | m + 1, hd, hi, hx => by
    unfold sn
    by_cases h1 : i = m
    · subst h1
      rw [if_pos hx.symm]
    · rw [if_neg (fun he => hd i m (by omega) (by omega) (hx.trans he))]
      exact sn_val (fun i j h2 h3 => hd i j h2 (by omega)) (by omega) hx

/-- a row of ints in block g -/
structure IRow (w : World) (g n : Nat) (f : Nat → Int) : Prop where
  blk : ∃ cs : Array Value, w.heap[g]? = some (.cells cs 3 (0, 0)) ∧ cs.size = n ∧ ∀ i, i < n → cs[i]? = some (.int .i64 (f i))
theorem IRow.cell {w : World} {g n : Nat} {f : Nat → Int} (h : IRow w g n f) {i : Nat} (hi : i < n) : w.cell? ⟨g, i, none⟩ = some (.int .i64 (f i)) ∧ w.frozen? ⟨g, i, none⟩ = false := by
  obtain ⟨cs, h1, _, h3⟩ := h.blk
  exact ⟨by simp [World.cell?, h1, h3 i hi], by simp [World.frozen?, h1]⟩
theorem IRow.set {w : World} {g n : Nat} {f : Nat → Int} (h : IRow w g n f) {i : Nat} (hi : i < n) (x : Int) : IRow (w.setCell ⟨g, i, none⟩ (.int .i64 x)) g n (fun j => if j = i then x else f j) := by
  obtain ⟨cs, h1, h2, h3⟩ := h.blk
  refine ⟨⟨cs.setIfInBounds i (.int .i64 x), by simp [World.setCell, Array.getElem?_modify, h1], by simp [h2], fun j hj => ?_⟩⟩
  by_cases hij : j = i
  · subst hij
    simp [Array.getElem?_setIfInBounds, h2]
    omega
  · rw [Array.getElem?_setIfInBounds_ne (by omega)]
    simp [hij, h3 j hj]
theorem IRow.ext {w : World} {g n : Nat} {f f' : Nat → Int} (h : IRow w g n f) (he : ∀ i, i < n → f i = f' i) : IRow w g n f' :=
  ⟨by
    obtain ⟨cs, h1, h2, h3⟩ := h.blk
    exact ⟨cs, h1, h2, fun i hi => by rw [h3 i hi, he i hi]⟩⟩
theorem IRow.below {w w' : World} {g n : Nat} {f : Nat → Int} (h : IRow w g n f) (hb : Below w.heap.size w w') : IRow w' g n f := by
  obtain ⟨cs, h1, h2, h3⟩ := h.blk
  exact ⟨cs, (hb.block _ (heap_lt h1)).trans h1, h2, h3⟩
end Go.Proofs.YtgocnjklpafabaaDoor
