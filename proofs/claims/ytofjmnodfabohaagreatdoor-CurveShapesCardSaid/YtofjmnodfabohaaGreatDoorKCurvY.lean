/- The walk of the law CurveGroup. -/
import Derived.Test.YtofjmnodfabohaaGreatDoorKCurvV
import Derived.Test.YtofjmnodfabohaaGreatDoorKCurvX
namespace Go.Proofs.YtofjmnodfabohaaGreatDoor
open Go.RowKit
open CV

/-- blocks that a walk has made -/
structure Blks (w W : World) (l : List (Nat × Array Value × TypeId)) : Prop where
  b : Below w.heap.size w W
  t : TabW w
  k : ∀ e ∈ l, KB W e.1 e.2.1 e.2.2
  n : ∀ e ∈ l, w.heap.size ≤ e.1
theorem Blks.below {w W W' : World} {l : List (Nat × Array Value × TypeId)} (h : Blks w W l) (hb : Below W.heap.size W W') : Blks w W' l :=
  ⟨h.b.trans (hb.mono h.b.size), h.t, fun e he => (h.k e he).below hb, h.n⟩
theorem Blks.tab {w W : World} {l : List (Nat × Array Value × TypeId)} (h : Blks w W l) : TabW W := h.t.below h.b
theorem Blks.get {w W : World} {l : List (Nat × Array Value × TypeId)} (h : Blks w W l) (i : Nat) {e : Nat × Array Value × TypeId} (he : l[i]? = some e) : KB W e.1 e.2.1 e.2.2 := h.k e (List.mem_of_getElem? he)
theorem Blks.new {w W : World} {l : List (Nat × Array Value × TypeId)} (h : Blks w W l) (vs : Array Value) (T : TypeId) : Blks w (W.alloc (.cells vs T)) ((W.heap.size, vs, T) :: l) := by
  have hb := bel_x W (.cells vs T)
  have h1 := h.below hb
  refine ⟨h1.b, h1.t, fun e he => ?_, fun e he => ?_⟩
  · rcases List.mem_cons.1 he with rfl | he
    · exact KB.made W vs T
    · exact h1.k e he
  · rcases List.mem_cons.1 he with rfl | he
    · exact h.b.size
    · exact h.n e he
theorem Blks.two {w W : World} {l : List (Nat × Array Value × TypeId)} (h : Blks w W l) (vs : Array Value) (T : TypeId) (us : Array Value) (U : TypeId) : Blks w ((W.alloc (.cells vs T)).alloc (.cells us U)) ((W.heap.size + 1, us, U) :: (W.heap.size, vs, T) :: l) := by
  have h2 := (h.new vs T).new us U
  rw [World.size_alloc] at h2
  exact h2
/-- a store of what stands there -/
theorem Blks.same {w W : World} {l : List (Nat × Array Value × TypeId)} (h : Blks w W l) {g : Nat} {T : TypeId} {x y : Value} (i : Nat) (hi : l[i]? = some (g, #[x, y], T)) :
    Blks w ((W.setCell ⟨g, 0, none⟩ x).setCell ⟨g, 1, none⟩ y) l := by
  have hg : w.heap.size ≤ g := h.n _ (List.mem_of_getElem? hi)
  have hk : KB W g #[x, y] T := h.get i hi
  have b2 := (h.b.setCell (p := ⟨g, 0, none⟩) hg x).setCell (p := ⟨g, 1, none⟩) hg y
  refine ⟨b2, h.t, fun e he => ?_, h.n⟩
  · have hke := h.k e he
    by_cases hd : e.1 = g
    · have : (Obj.cells e.2.1 e.2.2 (0, 0)) = .cells #[x, y] T (0, 0) := by
        unfold KB at hk hke
        rw [hd, hk] at hke
        exact (Option.some.inj hke).symm
      injection this with h1 h2
      rw [hd, h1, h2]
      exact (hk.set 0 x).set 1 y
    · exact (hke.far (p := ⟨g, 0, none⟩) hd x).far (p := ⟨g, 1, none⟩) hd y

theorem field_codeG (x y : Int) (w : World) : (Instr.field 23 (.agg #[.int .i64 x, .int .i64 y]) 0).run Tryz.prog w = .ok (.int .i64 x) w := by kernel_rfl

end Go.Proofs.YtofjmnodfabohaaGreatDoor
