/- Genus's memory at its main part: the reduced form, the map and its keys. -/
import Derived.Test.YtkfjjljdhfjpbaaKGenI
import Derived.Test.YtkfjjljdhfjpbaaKRedBig
namespace Go.Proofs.Ytkfjjljdhfjpbaa
open Go.RowKit Go.Maps

theorem GKB.frozen {w : World} {g : Nat} {vs : Array Value} {T : TypeId} (h : GKB w g vs T) (k : Nat) : w.frozen? ⟨g, k, none⟩ = false := by
  unfold GKB at h
  simp [World.frozen?, h]
theorem GKB.set {w : World} {g : Nat} {vs : Array Value} {T : TypeId} (h : GKB w g vs T) (i : Nat) (v : Value) : GKB (w.setCell ⟨g, i, none⟩ v) g (vs.setIfInBounds i v) T := by
  unfold GKB at h ⊢
  simp [World.setCell, Array.getElem?_modify, h]
/-- another form is stored -/
theorem GS.put {w W : World} {a b c : Int} (h : GS w W a b c) (A B C : Int) : GS w (((W.setCell ⟨w.heap.size, 0, none⟩ (.int .i64 A)).setCell ⟨w.heap.size, 1, none⟩ (.int .i64 B)).setCell ⟨w.heap.size, 2, none⟩ (.int .i64 C)) A B C := by
  obtain ⟨h1, h2, h3⟩ := h
  refine ⟨((h1.set 0 _).set 1 _).set 2 _, ?_, ((h3.setCell (p := ⟨w.heap.size, 0, none⟩) (Nat.le_refl _) _).setCell (p := ⟨w.heap.size, 1, none⟩) (Nat.le_refl _) _).setCell (p := ⟨w.heap.size, 2, none⟩) (Nat.le_refl _) _⟩
  unfold FC at h2 ⊢
  rw [Below.heap_setCell _ _ _ _ (show w.heap.size + 1 ≠ w.heap.size by omega), Below.heap_setCell _ _ _ _ (show w.heap.size + 1 ≠ w.heap.size by omega), Below.heap_setCell _ _ _ _ (show w.heap.size + 1 ≠ w.heap.size by omega)]
  exact h2
/-- m[i] = true -/
theorem InM.upd {W : World} {m n d : Nat} {S : Nat → Bool} (h : InM W m n d S) (hn : n < maxLen) {i : Nat} (hi : i < d) (hd : d ≤ 2000) :
    ∃ W', (Instr.mapUpdate 46 (.map (some m)) (.int .i64 (i : Int)) (.bool true)).run Try.prog W = .ok () W' ∧ InM W' m (n + 1) d (fun j => S j || j == i) ∧ W.grownBy W' (some m) := by
  obtain ⟨D, h1, h2, h3⟩ := h
  obtain ⟨W', hr, h4, h5⟩ := h1.update ikey Try.underlying46 hn (ikeyOf (k := i) (by omega)) (plainElem_bool Try.underlying4 true)
  exact ⟨W', hr, InM.put h2 h3 hi hd h4, h5⟩
theorem GS.grown {w W W' : World} {a b c : Int} {m : Nat} (h : GS w W a b c) (hg : W.grownBy W' (some m)) (hm : w.heap.size + 1 < m) : GS w W' a b c := by
  obtain ⟨h1, h2, h3⟩ := h
  have k : Below (w.heap.size + 2) W W' := (Below.refl _ _).grown hg (by have := h2.lt; omega) (fun k hk => by injection hk with hk; omega)
  refine ⟨(k.block _ (by omega)).trans h1, (k.block _ (by omega)).trans h2, h3.trans (k.mono (by omega))⟩
end Go.Proofs.Ytkfjjljdhfjpbaa
