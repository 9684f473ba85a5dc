/- The walk of quad.Reduce. -/
import Derived.Test.YtkfjjljdhfjpbaaKRedW
namespace Go.Proofs.Ytkfjjljdhfjpbaa
open Go.RowKit

theorem formF_zero {a b c : Int} (h : (formF a b c).1 = 0) : formF a b c = (0, 0) ∧ (-1000000 ≤ a ∧ a ≤ 1000000) ∧ (-1000000 ≤ b ∧ b ≤ 1000000) ∧ (-1000000 ≤ c ∧ c ≤ 1000000) ∧ 1 ≤ a ∧ 1 ≤ c ∧ b * b - 4 * a * c < 0 ∧ Int.gcd a (Int.gcd b c) = 1 := by
  unfold formF at h ⊢
  have hs : ∀ k l, lookS k l = (0, 0) ∨ ∃ j : Int, lookS k l = (3, j) := by
    intro k l
    induction l generalizing k with
    | nil => exact .inl rfl
    | cons x r ih =>
      rw [lookS]
      split
      · exact ih _
      · exact .inr ⟨_, rfl⟩
  rcases hs 0 [a, b, c] with hz | ⟨j, hj⟩
  · have hz' : smallF a b c = (0, 0) := hz
    rw [hz'] at h ⊢
    simp only [ne_eq, not_true_eq_false, if_false] at h ⊢
    obtain ⟨s1, s2, s3⟩ := lookS_zero hz
    have b1 := small_bounds s1
    have b2 := small_bounds s2
    have b3 := small_bounds s3
    split at h
    · simp at h
    · rename_i h1
      split at h
      · simp at h
      · rename_i h2
        rw [if_neg h1, if_neg h2]
        refine ⟨rfl, b1, b2, b3, by omega, ?_, by omega, by omega⟩
        rcases Int.lt_or_le c 1 with h3 | h3
        · have : 4 * a * c ≤ 4 * a * 0 := Int.mul_le_mul_of_nonneg_left (by omega) (by omega)
          have := sq_pos' b
          omega
        · exact h3
  · have hj' : smallF a b c = (3, j) := hj
    rw [hj'] at h
    simp at h

def RetReduce (w : World) (a b c : Int) : Ending → World → Prop := fun e w' => ∃ A B C p q r s : Int, e = .returned (.tuple #[.agg #[.int .i64 A, .int .i64 B, .int .i64 C], .agg #[.int .i64 p, .int .i64 q, .int .i64 r, .int .i64 s], fv (formF a b c)]) ∧ ((formF a b c).1 ≠ 0 → A = 0 ∧ B = 0 ∧ C = 0 ∧ p = 0 ∧ q = 0 ∧ r = 0 ∧ s = 0) ∧ ((formF a b c).1 = 0 → RInv a b c A B C p q r s ∧ -A < B ∧ B ≤ A ∧ (A < C ∨ A = C ∧ 0 ≤ B)) ∧ Below w.heap.size w w'

theorem FC.drew {w : World} {g : Nat} {a b : Int} (h : FC w g a b) : FC w.drew g a b := h
/-- the blocks of Reduce's frame -/
structure RcSt (n : Nat) (w wr : World) (a b c : Int) : Prop where
  f : MC wr n a b c
  g : MC wr (n + 1) 0 0 0
  m : TC wr (n + 1 + 1) 0 0 0 0 42
  e : FC wr (n + 1 + 1 + 1) 0 0
  b : Below w.heap.size w wr
theorem RcSt.start (w : World) (A B C : Int) : RcSt w.heap.size w ((((w.alloc (.cells #[.int .i64 A, .int .i64 B, .int .i64 C] 23)).alloc (.cells #[.int .i64 0, .int .i64 0, .int .i64 0] 23)).alloc (.cells #[.int .i64 0, .int .i64 0, .int .i64 0, .int .i64 0] 42)).alloc (.cells #[.int .i64 0, .int .i64 0] 26)) A B C := by
  have s := World.size_alloc
  refine ⟨(((MC.made w A B C).below (bel_obj _ _)).below (bel_obj _ _)).below (bel_obj _ _), ?_, ?_, ?_, ?_⟩
  · have := ((MC.made (w.alloc (.cells #[.int .i64 A, .int .i64 B, .int .i64 C] 23)) 0 0 0).below (bel_obj _ (.cells #[.int .i64 0, .int .i64 0, .int .i64 0, .int .i64 0] 42))).below (bel_obj _ (.cells #[.int .i64 0, .int .i64 0] 26))
    rwa [s] at this
  · have := (TC.made ((w.alloc (.cells #[.int .i64 A, .int .i64 B, .int .i64 C] 23)).alloc (.cells #[.int .i64 0, .int .i64 0, .int .i64 0] 23)) 0 0 0 0 42).below (bel_obj _ (.cells #[.int .i64 0, .int .i64 0] 26))
    rwa [s, s] at this
  · have := FC.fresh (((w.alloc (.cells #[.int .i64 A, .int .i64 B, .int .i64 C] 23)).alloc (.cells #[.int .i64 0, .int .i64 0, .int .i64 0] 23)).alloc (.cells #[.int .i64 0, .int .i64 0, .int .i64 0, .int .i64 0] 42))
    rwa [s, s, s] at this
  · go_grown
theorem RcSt.below {n : Nat} {w wr w' : World} {a b c : Int} (h : RcSt n w wr a b c) (k : Below wr.heap.size wr w') : RcSt n w w' a b c :=
  ⟨h.f.below k, h.g.below k, h.m.below k, h.e.below k, h.b.trans (k.mono h.b.size)⟩

theorem RcSt.done {n : Nat} {w wr : World} {a b c : Int} (h : RcSt n w wr a b c) (hn : n = w.heap.size) (A B C p q r s x y : Int) :
    MC ((((((((((((wr.setCell ⟨n + 1, 0, none⟩ (.int .i64 A)).setCell ⟨n + 1, 1, none⟩ (.int .i64 B)).setCell ⟨n + 1, 2, none⟩ (.int .i64 C)).setCell ⟨n + 1, 0, none⟩ (.int .i64 A)).setCell ⟨n + 1, 1, none⟩ (.int .i64 B)).setCell ⟨n + 1, 2, none⟩ (.int .i64 C)).setCell ⟨n + 1 + 1, 0, none⟩ (.int .i64 p)).setCell ⟨n + 1 + 1, 1, none⟩ (.int .i64 q)).setCell ⟨n + 1 + 1, 2, none⟩ (.int .i64 r)).setCell ⟨n + 1 + 1, 3, none⟩ (.int .i64 s)).setCell ⟨n + 1 + 1 + 1, 0, none⟩ (.int .i64 x)).setCell ⟨n + 1 + 1 + 1, 1, none⟩ (.int .i64 y)) (n + 1) A B C ∧ TC ((((((((((((wr.setCell ⟨n + 1, 0, none⟩ (.int .i64 A)).setCell ⟨n + 1, 1, none⟩ (.int .i64 B)).setCell ⟨n + 1, 2, none⟩ (.int .i64 C)).setCell ⟨n + 1, 0, none⟩ (.int .i64 A)).setCell ⟨n + 1, 1, none⟩ (.int .i64 B)).setCell ⟨n + 1, 2, none⟩ (.int .i64 C)).setCell ⟨n + 1 + 1, 0, none⟩ (.int .i64 p)).setCell ⟨n + 1 + 1, 1, none⟩ (.int .i64 q)).setCell ⟨n + 1 + 1, 2, none⟩ (.int .i64 r)).setCell ⟨n + 1 + 1, 3, none⟩ (.int .i64 s)).setCell ⟨n + 1 + 1 + 1, 0, none⟩ (.int .i64 x)).setCell ⟨n + 1 + 1 + 1, 1, none⟩ (.int .i64 y)) (n + 1 + 1) p q r s 42 ∧ FC ((((((((((((wr.setCell ⟨n + 1, 0, none⟩ (.int .i64 A)).setCell ⟨n + 1, 1, none⟩ (.int .i64 B)).setCell ⟨n + 1, 2, none⟩ (.int .i64 C)).setCell ⟨n + 1, 0, none⟩ (.int .i64 A)).setCell ⟨n + 1, 1, none⟩ (.int .i64 B)).setCell ⟨n + 1, 2, none⟩ (.int .i64 C)).setCell ⟨n + 1 + 1, 0, none⟩ (.int .i64 p)).setCell ⟨n + 1 + 1, 1, none⟩ (.int .i64 q)).setCell ⟨n + 1 + 1, 2, none⟩ (.int .i64 r)).setCell ⟨n + 1 + 1, 3, none⟩ (.int .i64 s)).setCell ⟨n + 1 + 1 + 1, 0, none⟩ (.int .i64 x)).setCell ⟨n + 1 + 1 + 1, 1, none⟩ (.int .i64 y)) (n + 1 + 1 + 1) x y ∧ Below w.heap.size w ((((((((((((wr.setCell ⟨n + 1, 0, none⟩ (.int .i64 A)).setCell ⟨n + 1, 1, none⟩ (.int .i64 B)).setCell ⟨n + 1, 2, none⟩ (.int .i64 C)).setCell ⟨n + 1, 0, none⟩ (.int .i64 A)).setCell ⟨n + 1, 1, none⟩ (.int .i64 B)).setCell ⟨n + 1, 2, none⟩ (.int .i64 C)).setCell ⟨n + 1 + 1, 0, none⟩ (.int .i64 p)).setCell ⟨n + 1 + 1, 1, none⟩ (.int .i64 q)).setCell ⟨n + 1 + 1, 2, none⟩ (.int .i64 r)).setCell ⟨n + 1 + 1, 3, none⟩ (.int .i64 s)).setCell ⟨n + 1 + 1 + 1, 0, none⟩ (.int .i64 x)).setCell ⟨n + 1 + 1 + 1, 1, none⟩ (.int .i64 y)) := by
  have q2 : ∀ k, (⟨n + 1 + 1, k, none⟩ : Addr).block ≠ n + 1 := fun k => by show n + 1 + 1 ≠ n + 1; omega
  have q3 : ∀ k, (⟨n + 1 + 1 + 1, k, none⟩ : Addr).block ≠ n + 1 := fun k => by show n + 1 + 1 + 1 ≠ n + 1; omega
  have r1 : ∀ k, (⟨n + 1, k, none⟩ : Addr).block ≠ n + 1 + 1 := fun k => by show n + 1 ≠ n + 1 + 1; omega
  have r3 : ∀ k, (⟨n + 1 + 1 + 1, k, none⟩ : Addr).block ≠ n + 1 + 1 := fun k => by show n + 1 + 1 + 1 ≠ n + 1 + 1; omega
  have s1 : ∀ k, (⟨n + 1, k, none⟩ : Addr).block ≠ n + 1 + 1 + 1 := fun k => by show n + 1 ≠ n + 1 + 1 + 1; omega
  have s2 : ∀ k, (⟨n + 1 + 1, k, none⟩ : Addr).block ≠ n + 1 + 1 + 1 := fun k => by show n + 1 + 1 ≠ n + 1 + 1 + 1; omega
  have l1 : w.heap.size ≤ n + 1 := by omega
  have l2 : w.heap.size ≤ n + 1 + 1 := by omega
  have l3 : w.heap.size ≤ n + 1 + 1 + 1 := by omega
  have fe : FC ((((((((((wr.setCell ⟨n + 1, 0, none⟩ (.int .i64 A)).setCell ⟨n + 1, 1, none⟩ (.int .i64 B)).setCell ⟨n + 1, 2, none⟩ (.int .i64 C)).setCell ⟨n + 1, 0, none⟩ (.int .i64 A)).setCell ⟨n + 1, 1, none⟩ (.int .i64 B)).setCell ⟨n + 1, 2, none⟩ (.int .i64 C)).setCell ⟨n + 1 + 1, 0, none⟩ (.int .i64 p)).setCell ⟨n + 1 + 1, 1, none⟩ (.int .i64 q)).setCell ⟨n + 1 + 1, 2, none⟩ (.int .i64 r)).setCell ⟨n + 1 + 1, 3, none⟩ (.int .i64 s)) (n + 1 + 1 + 1) 0 0 := by
    unfold FC
    rw [heap_put _ (s2 3)]
    rw [heap_put _ (s2 2)]
    rw [heap_put _ (s2 1)]
    rw [heap_put _ (s2 0)]
    rw [heap_put _ (s1 2)]
    rw [heap_put _ (s1 1)]
    rw [heap_put _ (s1 0)]
    rw [heap_put _ (s1 2)]
    rw [heap_put _ (s1 1)]
    rw [heap_put _ (s1 0)]
    exact h.e
  exact ⟨(((((((((((h.g.set0 A).set1 B).set2 C).set0 A).set1 B).set2 C).other (q2 0) _).other (q2 1) _).other (q2 2) _).other (q2 3) _).other (q3 0) _).other (q3 1) _, ((((((((((((h.m).other (r1 0) _).other (r1 1) _).other (r1 2) _).other (r1 0) _).other (r1 1) _).other (r1 2) _).set0 p).set1 q).set2 r).set3 s).other (r3 0) _).other (r3 1) _, (fe.set0 x).set1 y, ((((((((((((h.b).setCell (p := ⟨n + 1, 0, none⟩) l1 _).setCell (p := ⟨n + 1, 1, none⟩) l1 _).setCell (p := ⟨n + 1, 2, none⟩) l1 _).setCell (p := ⟨n + 1, 0, none⟩) l1 _).setCell (p := ⟨n + 1, 1, none⟩) l1 _).setCell (p := ⟨n + 1, 2, none⟩) l1 _).setCell (p := ⟨n + 1 + 1, 0, none⟩) l2 _).setCell (p := ⟨n + 1 + 1, 1, none⟩) l2 _).setCell (p := ⟨n + 1 + 1, 2, none⟩) l2 _).setCell (p := ⟨n + 1 + 1, 3, none⟩) l2 _).setCell (p := ⟨n + 1 + 1 + 1, 0, none⟩) l3 _).setCell (p := ⟨n + 1 + 1 + 1, 1, none⟩) l3 _⟩
theorem RcSt.lost {n : Nat} {w wr : World} {a b c : Int} (h : RcSt n w wr a b c) (hn : n = w.heap.size) (A B C p q r s x y : Int) :
    MC (((((((((wr.setCell ⟨n + 1, 0, none⟩ (.int .i64 A)).setCell ⟨n + 1, 1, none⟩ (.int .i64 B)).setCell ⟨n + 1, 2, none⟩ (.int .i64 C)).setCell ⟨n + 1 + 1, 0, none⟩ (.int .i64 p)).setCell ⟨n + 1 + 1, 1, none⟩ (.int .i64 q)).setCell ⟨n + 1 + 1, 2, none⟩ (.int .i64 r)).setCell ⟨n + 1 + 1, 3, none⟩ (.int .i64 s)).setCell ⟨n + 1 + 1 + 1, 0, none⟩ (.int .i64 x)).setCell ⟨n + 1 + 1 + 1, 1, none⟩ (.int .i64 y)) (n + 1) A B C ∧ TC (((((((((wr.setCell ⟨n + 1, 0, none⟩ (.int .i64 A)).setCell ⟨n + 1, 1, none⟩ (.int .i64 B)).setCell ⟨n + 1, 2, none⟩ (.int .i64 C)).setCell ⟨n + 1 + 1, 0, none⟩ (.int .i64 p)).setCell ⟨n + 1 + 1, 1, none⟩ (.int .i64 q)).setCell ⟨n + 1 + 1, 2, none⟩ (.int .i64 r)).setCell ⟨n + 1 + 1, 3, none⟩ (.int .i64 s)).setCell ⟨n + 1 + 1 + 1, 0, none⟩ (.int .i64 x)).setCell ⟨n + 1 + 1 + 1, 1, none⟩ (.int .i64 y)) (n + 1 + 1) p q r s 42 ∧ FC (((((((((wr.setCell ⟨n + 1, 0, none⟩ (.int .i64 A)).setCell ⟨n + 1, 1, none⟩ (.int .i64 B)).setCell ⟨n + 1, 2, none⟩ (.int .i64 C)).setCell ⟨n + 1 + 1, 0, none⟩ (.int .i64 p)).setCell ⟨n + 1 + 1, 1, none⟩ (.int .i64 q)).setCell ⟨n + 1 + 1, 2, none⟩ (.int .i64 r)).setCell ⟨n + 1 + 1, 3, none⟩ (.int .i64 s)).setCell ⟨n + 1 + 1 + 1, 0, none⟩ (.int .i64 x)).setCell ⟨n + 1 + 1 + 1, 1, none⟩ (.int .i64 y)) (n + 1 + 1 + 1) x y ∧ Below w.heap.size w (((((((((wr.setCell ⟨n + 1, 0, none⟩ (.int .i64 A)).setCell ⟨n + 1, 1, none⟩ (.int .i64 B)).setCell ⟨n + 1, 2, none⟩ (.int .i64 C)).setCell ⟨n + 1 + 1, 0, none⟩ (.int .i64 p)).setCell ⟨n + 1 + 1, 1, none⟩ (.int .i64 q)).setCell ⟨n + 1 + 1, 2, none⟩ (.int .i64 r)).setCell ⟨n + 1 + 1, 3, none⟩ (.int .i64 s)).setCell ⟨n + 1 + 1 + 1, 0, none⟩ (.int .i64 x)).setCell ⟨n + 1 + 1 + 1, 1, none⟩ (.int .i64 y)) := by
  have q2 : ∀ k, (⟨n + 1 + 1, k, none⟩ : Addr).block ≠ n + 1 := fun k => by show n + 1 + 1 ≠ n + 1; omega
  have q3 : ∀ k, (⟨n + 1 + 1 + 1, k, none⟩ : Addr).block ≠ n + 1 := fun k => by show n + 1 + 1 + 1 ≠ n + 1; omega
  have r1 : ∀ k, (⟨n + 1, k, none⟩ : Addr).block ≠ n + 1 + 1 := fun k => by show n + 1 ≠ n + 1 + 1; omega
  have r3 : ∀ k, (⟨n + 1 + 1 + 1, k, none⟩ : Addr).block ≠ n + 1 + 1 := fun k => by show n + 1 + 1 + 1 ≠ n + 1 + 1; omega
  have s1 : ∀ k, (⟨n + 1, k, none⟩ : Addr).block ≠ n + 1 + 1 + 1 := fun k => by show n + 1 ≠ n + 1 + 1 + 1; omega
  have s2 : ∀ k, (⟨n + 1 + 1, k, none⟩ : Addr).block ≠ n + 1 + 1 + 1 := fun k => by show n + 1 + 1 ≠ n + 1 + 1 + 1; omega
  have l1 : w.heap.size ≤ n + 1 := by omega
  have l2 : w.heap.size ≤ n + 1 + 1 := by omega
  have l3 : w.heap.size ≤ n + 1 + 1 + 1 := by omega
  have fe : FC (((((((wr.setCell ⟨n + 1, 0, none⟩ (.int .i64 A)).setCell ⟨n + 1, 1, none⟩ (.int .i64 B)).setCell ⟨n + 1, 2, none⟩ (.int .i64 C)).setCell ⟨n + 1 + 1, 0, none⟩ (.int .i64 p)).setCell ⟨n + 1 + 1, 1, none⟩ (.int .i64 q)).setCell ⟨n + 1 + 1, 2, none⟩ (.int .i64 r)).setCell ⟨n + 1 + 1, 3, none⟩ (.int .i64 s)) (n + 1 + 1 + 1) 0 0 := by
    unfold FC
    rw [heap_put _ (s2 3)]
    rw [heap_put _ (s2 2)]
    rw [heap_put _ (s2 1)]
    rw [heap_put _ (s2 0)]
    rw [heap_put _ (s1 2)]
    rw [heap_put _ (s1 1)]
    rw [heap_put _ (s1 0)]
    exact h.e
  exact ⟨((((((((h.g.set0 A).set1 B).set2 C).other (q2 0) _).other (q2 1) _).other (q2 2) _).other (q2 3) _).other (q3 0) _).other (q3 1) _, (((((((((h.m).other (r1 0) _).other (r1 1) _).other (r1 2) _).set0 p).set1 q).set2 r).set3 s).other (r3 0) _).other (r3 1) _, (fe.set0 x).set1 y, (((((((((h.b).setCell (p := ⟨n + 1, 0, none⟩) l1 _).setCell (p := ⟨n + 1, 1, none⟩) l1 _).setCell (p := ⟨n + 1, 2, none⟩) l1 _).setCell (p := ⟨n + 1 + 1, 0, none⟩) l2 _).setCell (p := ⟨n + 1 + 1, 1, none⟩) l2 _).setCell (p := ⟨n + 1 + 1, 2, none⟩) l2 _).setCell (p := ⟨n + 1 + 1, 3, none⟩) l2 _).setCell (p := ⟨n + 1 + 1 + 1, 0, none⟩) l3 _).setCell (p := ⟨n + 1 + 1 + 1, 1, none⟩) l3 _⟩

end Go.Proofs.Ytkfjjljdhfjpbaa
