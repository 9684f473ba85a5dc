/- The walk of arithmeticabig's Int.GCD, of two numbers above 0, the first factor wanted and the second one not. -/
import Derived.Test.YtgocnjklpafabaaIntD
import Derived.Test.YtgocnjklpafabaaArithDiv
import Derived.Deep.LoopGhost
namespace Go.Proofs.Ytgocnjklpafabaa
open Go.RowKit

/-- nothing but the blocks of a list has turned -/
structure Touch (w w' : World) (l : List Nat) : Prop where
  os : w'.os = w.os
  tape : w'.tape = w.tape
  output : w'.output = w.output
  size : w.heap.size ≤ w'.heap.size
  block : ∀ k, k < w.heap.size → k ∉ l → w'.heap[k]? = w.heap[k]?
section
variable {w w1 w2 w' : World} {l r : List Nat}
theorem Touch.of_grown {g : Nat} (h : w.grownBy w' (some g)) : Touch w w' [g] :=
  ⟨h.os, h.tape, h.output, h.size, fun k hk hn => h.block k hk (by intro e; injection e with e; exact hn (by simp [e]))⟩
theorem Touch.of_below (h : Below w.heap.size w w') : Touch w w' [] := ⟨h.os, h.tape, h.output, h.size, fun k hk _ => h.block k hk⟩
theorem Touch.trans (h : Touch w w1 l) (k : Touch w1 w2 r) : Touch w w2 (l ++ r) :=
  ⟨k.os.trans h.os, k.tape.trans h.tape, k.output.trans h.output, Nat.le_trans h.size k.size, fun i hi hn => by
    rw [List.mem_append, not_or] at hn
    exact (k.block i (Nat.lt_of_lt_of_le hi h.size) hn.2).trans (h.block i hi hn.1)⟩
theorem Touch.mono (h : Touch w w' l) (k : ∀ x ∈ l, x < w.heap.size → x ∈ r) : Touch w w' r :=
  ⟨h.os, h.tape, h.output, h.size, fun i hi hn => h.block i hi (fun hm => hn (k i hm hi))⟩
theorem Touch.below {B : Nat} (h : Touch w w' l) (hB : B ≤ w.heap.size) (hl : ∀ x ∈ l, B ≤ x) : Below B w w' :=
  ⟨h.os, h.tape, h.output, h.size, fun k hk => h.block k (by omega) (fun hm => by have := hl k hm; omega)⟩
theorem Touch.words (h : Touch w w' l) (hl : ∀ x ∈ l, x < w.heap.size → IntBlk w x) : WordsKept w w' := fun k cs fr hk => h.block k (heap_lt hk) (by
  intro e
  obtain ⟨a, b, hb⟩ := hl k e (heap_lt hk)
  rw [hb] at hk
  injection hk with hk
  injection hk with _ ht
  cases ht)
theorem Touch.int {g : Nat} {X : Int} (h : Touch w w' l) (hl : ∀ x ∈ l, x < w.heap.size → IntBlk w x) (hi : IntAt w g X) (hn : g ∉ l) : IntAt w' g X := by
  have hlt := hi.lt
  have hw := h.words hl
  obtain ⟨n, v, hg, hn2, hs⟩ := hi
  exact ⟨n, v, (h.block g hlt hn).trans hg, hn2.kept hw, hs⟩
theorem Touch.blk {g : Nat} (h : Touch w w' l) (hi : IntBlk w g) (hn : g ∉ l) : IntBlk w' g := by
  have hlt := hi.lt
  obtain ⟨a, b, hg⟩ := hi
  exact ⟨a, b, (h.block g hlt hn).trans hg⟩
end

/-- what QuoRem says -/
def RetQR (w : World) (g r : Nat) (Q R : Int) : Ending → World → Prop := fun e w' => e = .returned (.tuple #[.pointer (some ⟨g, 0, none⟩), .pointer (some ⟨r, 0, none⟩)]) ∧ IntAt w' g Q ∧ IntAt w' r R ∧ Touch w w' [g, r]

theorem toI_quo (a b : Bool) {X Y : Int} (hx : a = true ↔ X < 0) (hy : b = true ↔ Y < 0) : toI (a != b) (X.natAbs / Y.natAbs) = X.tdiv Y := by
  have ex := IntAt.toI hx
  have ey := IntAt.toI hy
  generalize X.natAbs = x at ex ⊢
  generalize Y.natAbs = y at ey ⊢
  subst ex ey
  unfold toI
  cases a <;> cases b <;> simp <;> (try rfl)
theorem toI_rem (a b : Bool) {X Y : Int} (hx : a = true ↔ X < 0) (hy : b = true ↔ Y < 0) : toI a (X.natAbs % Y.natAbs) = X.tmod Y := by
  have ex := IntAt.toI hx
  have ey := IntAt.toI hy
  generalize X.natAbs = x at ex ⊢
  generalize Y.natAbs = y at ey ⊢
  subst ex ey
  unfold toI
  cases a <;> cases b <;> simp <;> (try rfl)

theorem ediv_fix {X Y : Int} (hy : Y ≠ 0) :
    (0 ≤ X.tmod Y → X.tdiv Y = X / Y ∧ X.tmod Y = X % Y) ∧ (X.tmod Y < 0 → Y < 0 → X.tdiv Y + 1 = X / Y ∧ X.tmod Y - Y = X % Y) ∧ (X.tmod Y < 0 → 0 < Y → X.tdiv Y - 1 = X / Y ∧ X.tmod Y + Y = X % Y) := by
  have e1 := Int.mul_tdiv_add_tmod X Y
  have hb := Int.natAbs_tmod X Y
  have hlt := Nat.mod_lt X.natAbs (y := Y.natAbs) (by omega)
  have key : ∀ q r : Int, Y * q + r = X → 0 ≤ r → r.natAbs < Y.natAbs → q = X / Y ∧ r = X % Y := by
    intro q r h h0 h1
    have h2 : r % Y = r := by
      rcases Int.lt_or_lt_of_ne hy with h | h
      · rw [← Int.neg_neg Y, Int.emod_neg]
        exact Int.emod_eq_of_lt h0 (by omega)
      · exact Int.emod_eq_of_lt h0 (by omega)
    have h3 : X % Y = r := by
      rw [← h, Int.add_comm, Int.add_mul_emod_self_left, h2]
    have h4 := Int.mul_ediv_add_emod X Y
    rw [h3] at h4
    exact ⟨Int.eq_of_mul_eq_mul_left hy (by omega), h3.symm⟩
  refine ⟨fun h => key _ _ e1 h (by omega), fun h h2 => key _ _ ?_ (by omega) (by omega), fun h h2 => key _ _ ?_ (by omega) (by omega)⟩
  · rw [Int.mul_add, Int.mul_one]; omega
  · rw [Int.mul_sub, Int.mul_one]; omega
theorem tdiv_lim {X Y : Int} {L : Nat} (h : X.natAbs < L) : (X.tdiv Y).natAbs < L := by
  rw [Int.natAbs_tdiv]; exact Nat.lt_of_le_of_lt (Nat.div_le_self _ _) h
theorem tmod_lim {X Y : Int} {L : Nat} (h : X.natAbs < L) : (X.tmod Y).natAbs < L := by
  rw [Int.natAbs_tmod]; exact Nat.lt_of_le_of_lt (Nat.mod_le _ _) h
theorem one_lim : (1 : Int).natAbs < lim := lim_u64 (by decide)
theorem pred_lim {Q : Nat} {q : Int} (h : q.natAbs < Q) : (q + 1).natAbs < Q + 1 ∧ (q - 1).natAbs < Q + 1 := by omega

/-- a block that holds a known sign -/
theorem IntAt.neg0 {w : World} {g : Nat} {X : Int} (h : IntAt w g X) : w.cell? ⟨g, 0, none⟩ = some (.bool (decide (X < 0))) := by
  obtain ⟨n, v, h0, _, _, hs⟩ := h.cells
  rw [h0]
  congr 2
  cases n
  · have : ¬ X < 0 := fun hh => by simpa using hs.2 hh
    simp [this]
  · simp [hs.1 rfl]

end Go.Proofs.Ytgocnjklpafabaa

namespace Go.Proofs.Ytgocnjklpafabaa
open Go.RowKit

/-- what GCD says -/
def RetGCD (w : World) (g u : Nat) (A B : Int) : Ending → World → Prop := fun e w' => ∃ s : Int, e = .returned (.pointer (some ⟨g, 0, none⟩)) ∧ IntAt w' g (Int.gcd A B : Int) ∧ IntAt w' u s ∧ B ∣ (Int.gcd A B : Int) - s * A ∧ s.natAbs ≤ max 1 B.natAbs ∧ Touch w w' [g, u]

theorem IntAt.abs1 {w : World} {g : Nat} {X : Int} (h : IntAt w g X) (hl : X.natAbs < lim) (h0 : X ≠ 0) : ∃ (A : Option Addr) (n c : Nat), w.cell? ⟨g, 1, none⟩ = some (.slice A n c) ∧ 0 < n := by
  obtain ⟨n, v, _, h1, hv, _⟩ := h.cells
  obtain ⟨A, k, c, l, rfl, hw, hn, hlv, _⟩ := hv.open_ hl
  refine ⟨A, k, c, h1, ?_⟩
  have := len_zero hw.len hn hlv
  by_cases hk : k = 0
  · have := this.1 hk; omega
  · omega
theorem IntAt.abs0 {w : World} {g : Nat} {X : Int} (h : IntAt w g X) (hl : X.natAbs < lim) (h0 : X = 0) : ∃ (A : Option Addr) (c : Nat), w.cell? ⟨g, 1, none⟩ = some (.slice A 0 c) := by
  obtain ⟨n, v, _, h1, hv, _⟩ := h.cells
  obtain ⟨A, k, c, l, rfl, hw, hn, hlv, _⟩ := hv.open_ hl
  have := (len_zero hw.len hn hlv).2 (by omega)
  subst this
  exact ⟨A, c, h1⟩

/-- an Int block of the call's own -/
theorem IntAt.more {w w1 w' : World} {g : Nat} {X : Int} (h : IntAt w g X) (k : Below w.heap.size w w1) (k2 : Below w1.heap.size w1 w') : IntAt w' g X := (h.below k).below k2

theorem ext_bounds {A B p q u v : Int} {L : Nat} (h : Ar.Ext A B p q u v) (hl : (A.natAbs + B.natAbs + 2) * (A.natAbs + B.natAbs + 2) < L) :
    p.natAbs < L ∧ q.natAbs < L ∧ u.natAbs < L ∧ v.natAbs < L ∧ (A * u).natAbs + p.natAbs + 1 < L := by
  have h1 := h.ale
  have h2 := h.ble
  have h3 := h.ule
  have h4 := h.vle
  have h5 : A.natAbs + B.natAbs + 2 ≤ (A.natAbs + B.natAbs + 2) * (A.natAbs + B.natAbs + 2) := Nat.le_mul_of_pos_left _ (by omega)
  have h6 : (A * u).natAbs ≤ A.natAbs * (B.natAbs + 1) := by rw [Int.natAbs_mul]; exact Nat.mul_le_mul_left _ (by omega)
  have h7 : A.natAbs * (B.natAbs + 1) + (A.natAbs + B.natAbs + 2) ≤ (A.natAbs + B.natAbs + 2) * (A.natAbs + B.natAbs + 2) := by
    generalize A.natAbs = x
    generalize B.natAbs = y
    have : (x + y + 2) * (x + y + 2) = x * (y + 1) + (x + y + 2) + (x * x + y * x + 2 * x + (y + 1) * (y + 2)) := by grind
    omega
  omega

end Go.Proofs.Ytgocnjklpafabaa
