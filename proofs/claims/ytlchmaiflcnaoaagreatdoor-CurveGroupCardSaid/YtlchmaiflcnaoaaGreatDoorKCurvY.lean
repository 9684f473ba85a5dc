/- The walk of the law CurveGroup. -/
import Derived.Test.YtlchmaiflcnaoaaGreatDoorKCurvV
import Derived.Test.YtlchmaiflcnaoaaGreatDoorKCurvX
namespace Go.Proofs.YtlchmaiflcnaoaaGreatDoor
open Go.RowKit
open CV

/-- blocks that a walk has made -/
structure Blks (w W : World) (l : List (Nat × Array Value × TypeId)) : Prop where
  b : Below w.heap.size w W
  t : TabW w
  k : ∀ e ∈ l, KB W e.1 e.2.1 e.2.2
  n : ∀ e ∈ l, w.heap.size ≤ e.1
theorem Blks.below {w W W' : World} {l : List (Nat × Array Value × TypeId)} (h : Blks w W l) (hb : Below W.heap.size W W') : Blks w W' l :=
  ⟨h.b.trans (hb.mono h.b.size), h.t, fun e he => (h.k e he).below hb, h.n⟩
theorem Blks.tab {w W : World} {l : List (Nat × Array Value × TypeId)} (h : Blks w W l) : TabW W := h.t.below h.b
theorem Blks.get {w W : World} {l : List (Nat × Array Value × TypeId)} (h : Blks w W l) (i : Nat) {e : Nat × Array Value × TypeId} (he : l[i]? = some e) : KB W e.1 e.2.1 e.2.2 := h.k e (List.mem_of_getElem? he)
theorem Blks.new {w W : World} {l : List (Nat × Array Value × TypeId)} (h : Blks w W l) (vs : Array Value) (T : TypeId) : Blks w (W.alloc (.cells vs T)) ((W.heap.size, vs, T) :: l) := by
  have hb := bel_x W (.cells vs T)
  have h1 := h.below hb
  refine ⟨h1.b, h1.t, fun e he => ?_, fun e he => ?_⟩
  · rcases List.mem_cons.1 he with rfl | he
    · exact KB.made W vs T
    · exact h1.k e he
  · rcases List.mem_cons.1 he with rfl | he
    · exact h.b.size
    · exact h.n e he
theorem Blks.two {w W : World} {l : List (Nat × Array Value × TypeId)} (h : Blks w W l) (vs : Array Value) (T : TypeId) (us : Array Value) (U : TypeId) : Blks w ((W.alloc (.cells vs T)).alloc (.cells us U)) ((W.heap.size + 1, us, U) :: (W.heap.size, vs, T) :: l) := by
  have h2 := (h.new vs T).new us U
  rw [World.size_alloc] at h2
  exact h2
/-- a store of what stands there -/
theorem Blks.same {w W : World} {l : List (Nat × Array Value × TypeId)} (h : Blks w W l) {g : Nat} {T : TypeId} {x y : Value} (i : Nat) (hi : l[i]? = some (g, #[x, y], T)) :
    Blks w ((W.setCell ⟨g, 0, none⟩ x).setCell ⟨g, 1, none⟩ y) l := by
  have hg : w.heap.size ≤ g := h.n _ (List.mem_of_getElem? hi)
  have hk : KB W g #[x, y] T := h.get i hi
  have b2 := (h.b.setCell (p := ⟨g, 0, none⟩) hg x).setCell (p := ⟨g, 1, none⟩) hg y
  refine ⟨b2, h.t, fun e he => ?_, h.n⟩
  · have hke := h.k e he
    by_cases hd : e.1 = g
    · have : (Obj.cells e.2.1 e.2.2 (0, 0)) = .cells #[x, y] T (0, 0) := by
        unfold KB at hk hke
        rw [hd, hk] at hke
        exact (Option.some.inj hke).symm
      injection this with h1 h2
      rw [hd, h1, h2]
      exact (hk.set 0 x).set 1 y
    · exact (hke.far (p := ⟨g, 0, none⟩) hd x).far (p := ⟨g, 1, none⟩) hd y

theorem field_codeG (x y : Int) (w : World) : (Instr.field 24 (.agg #[.int .i64 x, .int .i64 y]) 0).run Tryz.prog w = .ok (.int .i64 x) w := by kernel_rfl

set_option maxRecDepth 100000 in
set_option maxHeartbeats 3200000 in
theorem group_bad (p a b n m : Int) (Q R S : CP) (w : World) (hT : TabW w) (h : ¬ ((lookC p a b [Q, R]).1 = 0 ∧ (lookC p a b [S]).1 = 0)) :
    Calls Tryz.prog 5 #[.int .i64 p, .int .i64 a, .int .i64 b, ptv Q, ptv R, ptv S, .int .i64 n, .int .i64 m] w fun e w' => e = .returned (.bool true) ∧ Below w.heap.size w w' := by
  have H0 : Hid (Blks w w []) := hide ⟨Below.refl _ _, hT, by simp, by simp⟩
  have H1 := hide (((H0.out.new #[.int .i64 Q.x, .int .i64 Q.y, .bool Q.far] 39).new #[.int .i64 R.x, .int .i64 R.y, .bool R.far] 39).new #[.int .i64 S.x, .int .i64 S.y, .bool S.far] 39)
  obtain ⟨W1, hW1⟩ : ∃ Z, (((w.alloc (.cells #[.int .i64 Q.x, .int .i64 Q.y, .bool Q.far] 39)).alloc (.cells #[.int .i64 R.x, .int .i64 R.y, .bool R.far] 39)).alloc (.cells #[.int .i64 S.x, .int .i64 S.y, .bool S.far] 39)) = Z := ⟨_, rfl⟩
  simp only [World.size_alloc] at H1
  rw [hW1] at H1
  have CB := fun W (hW : TabW W) => hide (curveBegun_any W hW)
  have CA := fun W (hW : TabW W) => hide (Add_any p a b Q R W hW)
  obtain ⟨X, hX⟩ : ∃ X, addR p a b Q R = X := ⟨_, rfl⟩
  obtain ⟨⟨c, k⟩, hF⟩ : ∃ F, lookC p a b [Q, R] = F := ⟨_, rfl⟩
  rw [hX, hF] at CA
  rw [hF] at h
  unfold RetAdd ptv at CA
  simp only [fv] at CA
  clear hX hF
  clear hT
  unfold ptv
  go_enter Tryz.func5, Tryz.ntmps5
  go_wp2_with fail
  (try rw [hW1])
  clear hW1 H0
  refine (CB W1 H1.out.tab).out.mono ?_
  rintro e w1 ⟨rfl, hb⟩
  have H2 := hide (H1.out.below hb)
  clear hb H1 CB
  obtain ⟨q0, q1, q2⟩ := (H2.out.get 2 rfl).three
  obtain ⟨r0, r1, r2⟩ := (H2.out.get 1 rfl).three
  go_wp2_with fail
  refine (CA w1 H2.out.tab).out.mono ?_
  rintro e w2 ⟨rfl, hb⟩
  have H3 := hide (H2.out.below hb)
  clear hb H2 CA q0 q1 q2 r0 r1 r2
  have H4 := hide (H3.out.two #[.int .i64 X.x, .int .i64 X.y, .bool X.far] 39 #[.int .i64 c, .int .i64 k] 24)
  obtain ⟨W4, hW4⟩ : ∃ Z, ((w2.alloc (.cells #[.int .i64 X.x, .int .i64 X.y, .bool X.far] 39)).alloc (.cells #[.int .i64 c, .int .i64 k] 24)) = Z := ⟨_, rfl⟩
  obtain ⟨g, hg⟩ : ∃ Z, w2.heap.size = Z := ⟨_, rfl⟩
  rw [hW4, hg] at H4
  clear H3
  obtain ⟨s0, s1, s2⟩ := (H4.out.get 2 rfl).three
  have c0 : W4.cell? ⟨g + 1, 0, none⟩ = some (.int .i64 c) := (H4.out.get 0 rfl).cell rfl
  by_cases hc : c = 0
  · subst hc
    have HS : Hid (¬ (lookC p a b [S]).1 = 0) := hide fun k => h ⟨rfl, k⟩
    obtain ⟨⟨d, j⟩, hF⟩ : ∃ F, lookC p a b [S] = F := ⟨_, rfl⟩
    have H5 := hide (H4.out.new #[.int .i64 S.x, .int .i64 S.y, .bool S.far] 39)
    have CO := hide (offCurve_any p a b _ [S] _ (PtS.one (w := W4) S) (by simp))
    rw [hF] at CO HS
    unfold RetOff at CO
    simp only [fv] at CO
    have q1 : (d != 0) = true := by simpa using HS.out
    clear h hF
    go_wp2_with fail
    refine CO.out.mono ?_
    rintro e w5 ⟨rfl, hb⟩
    have H6 := hide (H5.out.below hb)
    clear hb H5 CO hW4 s0 s1 s2 c0
    have KF := field_codeG
    go_wp2_with fail
    go_ret
    exact ⟨rfl, H6.out.b⟩
  · have q1 : (c != 0) = true := by simpa using hc
    clear h
    go_wp2_with fail
    go_ret
    exact ⟨rfl, H4.out.b⟩
end Go.Proofs.YtlchmaiflcnaoaaGreatDoor
