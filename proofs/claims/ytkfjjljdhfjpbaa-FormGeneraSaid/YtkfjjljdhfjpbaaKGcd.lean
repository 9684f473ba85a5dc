/- The walks of whole.Gcd and of the answers' Gcd, Size. -/
import Derived.Test.YtkfjjljdhfjpbaaKLook
import Derived.Test.YtkfjjljdhfjpbaaKArithDiv
namespace Go.Proofs.Ytkfjjljdhfjpbaa
open Go.RowKit

theorem lookK_cases (k : Nat) (l : List Int) : lookK k l = (0, 0) ∧ (∀ x ∈ l, okB x = true) ∨ ∃ i, lookK k l = (3, i) := by
  induction l generalizing k with
  | nil => exact Or.inl ⟨rfl, by simp⟩
  | cons x r ih =>
    rw [lookK]
    cases h : okB x
    · rw [if_neg (by simp)]; exact Or.inr ⟨k, rfl⟩
    · rw [if_pos rfl]
      rcases ih (k + 1) with ⟨e, hr⟩ | ⟨i, e⟩
      · exact Or.inl ⟨e, fun y hy => by
          rcases List.mem_cons.1 hy with rfl | hy
          · exact h
          · exact hr y hy⟩
      · exact Or.inr ⟨i, e⟩

/-- a fresh slice of ints -/
theorem ints_new (w : World) (l : List Int) (T : TypeId) : Ints (w.alloc (.cells (l.map (Value.int .i64)).toArray T)) (w.alloc (.cells (l.map (Value.int .i64)).toArray T)).heap.size (some ⟨w.heap.size, 0, none⟩) l := by
  have h : (w.alloc (.cells (l.map (Value.int .i64)).toArray T)).heap[w.heap.size]? = some (.cells (l.map (Value.int .i64)).toArray T (0, 0)) := by
    show (w.heap.push _)[w.heap.size]? = _
    simp
  exact (Ints.of_block h (by simp)).more (by simp)

theorem ok_bounds {x : Int} (h : okB x = true) : -1000000000000000000 ≤ x ∧ x ≤ 1000000000000000000 := by
  unfold okB at h; simpa using h

theorem below_new2 {w w1 : World} {o o2 : Obj} (h : Below ((w.alloc o).alloc o2).heap.size ((w.alloc o).alloc o2) w1) : Below (w.alloc o).heap.size (w.alloc o) w1 := below_new h

theorem divisor_below (a b : Int) (w : World) (ha : -9223372036854775807 ≤ a) (ha2 : a ≤ 9223372036854775807) (hb : -9223372036854775807 ≤ b) (hb2 : b ≤ 9223372036854775807) :
    Calls Try.prog 19 #[.int .i64 a, .int .i64 b] w fun e w' => e = .returned (.int .i64 (Int.gcd a b)) ∧ Below w.heap.size w w' := by
  refine (divisor_any a b w ha ha2 hb hb2).mono ?_
  rintro e w2 ⟨rfl, n, rfl⟩
  exact ⟨rfl, below_drewN (Below.refl _ _) n⟩

def RetGcd (w : World) (a b : Int) : Ending → World → Prop := fun e w' => ∃ d : Int, e = .returned (.tuple #[.int .i64 d, fv (lookK 0 [a, b])]) ∧ ((lookK 0 [a, b]).1 = 0 → d = Int.gcd a b) ∧ ((lookK 0 [a, b]).1 ≠ 0 → d = 0) ∧ Below w.heap.size w w'

end Go.Proofs.Ytkfjjljdhfjpbaa
