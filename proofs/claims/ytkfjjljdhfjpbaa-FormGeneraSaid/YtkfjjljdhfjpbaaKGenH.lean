/- A map of numbers that a call has made: which keys it has. -/
import Derived.Test.YtkfjjljdhfjpbaaKGenG
import Derived.Maps.RangeWalk
import Derived.Maps.OwnSet
namespace Go.Proofs.Ytkfjjljdhfjpbaa
open Go.RowKit Go.Maps

theorem ikey : Keyed Try.prog 3 := int_keyed Try.underlying3
/-- the map in block m has the keys k below d with S k, and no other -/
def InM (W : World) (m n d : Nat) (S : Nat → Bool) : Prop := ∃ D : DataW Unit, W.ownsMap Try.prog 3 (plainElem Try.prog 4) m n D ∧ IsMap D ∧ ∀ kl, has D kl = true ↔ ∃ k : Nat, k < d ∧ S k = true ∧ kl = .int .i64 (k : Int)
theorem InM.made (w : World) (d : Nat) : InM (w.alloc (.map #[] 0)) w.heap.size 0 d (fun _ => false) :=
  ⟨.map [], World.ownsMap_made w _ _ _, isMap_empty, fun kl => by simp [has]⟩
theorem InM.kept {W W' : World} {m n d : Nat} {S : Nat → Bool} {row : Option Nat} (h : InM W m n d S) (hg : W.grownBy W' row) (hne : some m ≠ row) : InM W' m n d S := by
  obtain ⟨D, h1, h2, h3⟩ := h
  exact ⟨D, h1.kept hg hne, h2, h3⟩
theorem InM.lt {W : World} {m n d : Nat} {S : Nat → Bool} (h : InM W m n d S) : m < W.heap.size := by
  obtain ⟨D, h1, _⟩ := h
  exact h1.lt
theorem wf_natG {x : Nat} (h : x < 1000000) : (Lit.int .i64 (x : Int)).wf = true := by
  have h1 : IntKind.i64.min = -9223372036854775808 := by decide
  have h2 : IntKind.i64.max = 9223372036854775807 := by decide
  simp only [Lit.wf, h1, h2, Bool.and_eq_true, decide_eq_true_eq]
  omega
theorem ikeyOf {k : Nat} (hk : k < 1000000) : keyOf Try.prog 3 (.int .i64 (k : Int)) = some (.int .i64 (k : Int)) :=
  keyOf_int_mk Try.underlying3 (wf_natG hk)
theorem InM.put {W' : World} {m n d : Nat} {S : Nat → Bool} {D : DataW Unit} (h2 : IsMap D) (h3 : ∀ kl, has D kl = true ↔ ∃ k : Nat, k < d ∧ S k = true ∧ kl = .int .i64 (k : Int)) {i : Nat} (hi : i < d) (hd : d ≤ 2000)
    (h1 : W'.ownsMap Try.prog 3 (plainElem Try.prog 4) m n (D.put (.int .i64 (i : Int)) (.lit (.bool true)))) : InM W' m n d (fun j => S j || j == i) := by
  refine ⟨_, h1, h2.put _ _, fun kl => ?_⟩
  by_cases e : kl = .int .i64 (i : Int)
  · subst e
    rw [has_put_same h2 (ikey.key (ikeyOf (by omega)))]
    exact ⟨fun _ => ⟨i, hi, by simp, rfl⟩, fun _ => rfl⟩
  · rw [has_put_other e, h3]
    constructor
    · rintro ⟨k, k1, k2, rfl⟩
      exact ⟨k, k1, by simp [k2], rfl⟩
    · rintro ⟨k, k1, k2, rfl⟩
      refine ⟨k, k1, ?_, rfl⟩
      have hne : k ≠ i := fun h => e (by rw [h])
      simpa [hne] using k2
end Go.Proofs.Ytkfjjljdhfjpbaa
