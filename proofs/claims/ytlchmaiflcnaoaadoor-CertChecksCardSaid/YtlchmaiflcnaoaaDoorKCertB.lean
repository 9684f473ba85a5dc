/- The walk of the certificate's looker. -/
import Derived.Test.YtlchmaiflcnaoaaDoorK0
import Derived.Test.YtlchmaiflcnaoaaDoorKPow
namespace Go.Proofs.YtlchmaiflcnaoaaDoor
open Go.RowKit

theorem cfault_any (c n : Int) (w : World) :
    Calls Tryd.prog 19 #[.int .i64 c, .int .i64 n] w fun e w' => e = .returned (.agg #[.int .i64 c, .int .i64 n]) ∧ Below w.heap.size w w' := by
  go_enter Tryd.func19, Tryd.ntmps19
  go_wp2
  exact bodyPost_ret (v := .agg #[.int .i64 c, .int .i64 n]) (by simp [results, Tryd.results19, go_sem]) rfl ⟨rfl, (Below.refl _ _).alloc (Nat.le_refl _) _⟩

theorem bel_o (w : World) (o : Obj) : Below w.heap.size w (w.alloc o) := (Below.refl _ _).alloc (Nat.le_refl _) o
/-- block kb holds the looker's number -/
def KAt (w : World) (kb : Nat) (k : Int) : Prop := w.heap[kb]? = some (.cells #[.int .i64 k] 37 (0, 0))
theorem KAt.lt {w : World} {kb : Nat} {k : Int} (h : KAt w kb k) : kb < w.heap.size := heap_lt h
theorem KAt.below {w w' : World} {kb : Nat} {k : Int} (h : KAt w kb k) (b : Below w.heap.size w w') : KAt w' kb k := (b.block kb h.lt).trans h
theorem KAt.cells {w : World} {kb : Nat} {k : Int} (h : KAt w kb k) : w.cell? ⟨kb, 0, none⟩ = some (.int .i64 k) ∧ w.frozen? ⟨kb, 0, none⟩ = false := by
  unfold KAt at h
  exact ⟨by simp [World.cell?, h], by simp [World.frozen?, h]⟩
theorem KAt.set {w : World} {kb : Nat} {k : Int} (h : KAt w kb k) (x : Int) : KAt (w.setCell ⟨kb, 0, none⟩ (.int .i64 x)) kb x := by
  unfold KAt at h ⊢
  simp [World.setCell, Array.getElem?_modify, h]

/-- the frame of look -/
structure LSt (w W : World) (kb : Nat) (k n r : Int) (s : Value) : Prop where
  f : CB W w.heap.size n r s
  e : FC W (w.heap.size + 1) 0 0
  k : KAt W kb k
  g : w.grownBy W (some kb)
  l : kb < w.heap.size
theorem LSt.start {w : World} {kb : Nat} {k : Int} (h : KAt w kb k) (n r : Int) (s : Value) : LSt w ((w.alloc (.cells #[.int .i64 n, .int .i64 r, s] 24)).alloc (.cells #[.int .i64 0, .int .i64 0] 28)) kb k n r s := by
  refine ⟨(CB.made w n r s).below (bel_o _ _), ?_, (h.below (bel_o _ _)).below (bel_o _ _), grown_of_below _ ((bel_o w _).trans ((bel_o _ _).mono (by simp))), h.lt⟩
  have := FC.made (w.alloc (.cells #[.int .i64 n, .int .i64 r, s] 24)) 0 0
  rwa [World.size_alloc] at this
theorem LSt.start1 {w : World} {kb : Nat} {k : Int} (h : KAt w kb k) (x n r : Int) (s : Value) : LSt w (((w.setCell ⟨kb, 0, none⟩ (.int .i64 x)).alloc (.cells #[.int .i64 n, .int .i64 r, s] 24)).alloc (.cells #[.int .i64 0, .int .i64 0] 28)) kb x n r s := by
  have hs : (w.setCell ⟨kb, 0, none⟩ (.int .i64 x)).heap.size = w.heap.size := by simp
  obtain ⟨h1, h2, h3, h4, h5⟩ := LSt.start (h.set x) n r s
  rw [hs] at h1 h2 h5
  exact ⟨h1, h2, h3, ⟨h4.os, h4.tape, h4.output, by have := h4.size; rwa [hs] at this, fun i hi hne => (h4.block i (by rw [hs]; exact hi) hne).trans (Below.heap_setCell _ ⟨kb, 0, none⟩ _ i (fun e => hne (by rw [e])))⟩, h5⟩
theorem LSt.below {w W W' : World} {kb : Nat} {k n r : Int} {s : Value} (h : LSt w W kb k n r s) (b : Below W.heap.size W W') : LSt w W' kb k n r s :=
  ⟨h.f.below b, h.e.below b, h.k.below b, ⟨b.os.trans h.g.os, b.tape.trans h.g.tape, b.output.trans h.g.output, Nat.le_trans h.g.size b.size, fun i hi hne => (b.block i (Nat.lt_of_lt_of_le hi h.g.size)).trans (h.g.block i hi hne)⟩, h.l⟩
theorem LSt.step {w W : World} {kb : Nat} {k n r : Int} {s : Value} (h : LSt w W kb k n r s) (x : Int) : LSt w (W.setCell ⟨kb, 0, none⟩ (.int .i64 x)) kb x n r s := by
  have l := h.l
  refine ⟨(Below.heap_setCell _ ⟨kb, 0, none⟩ _ _ (by simp; omega)).trans h.f, (Below.heap_setCell _ ⟨kb, 0, none⟩ _ _ (by simp; omega)).trans h.e, h.k.set x, ?_, l⟩
  exact ⟨h.g.os, h.g.tape, h.g.output, by simp; exact h.g.size, fun i hi hne => (Below.heap_setCell _ ⟨kb, 0, none⟩ _ i (fun e => hne (by rw [e]))).trans (h.g.block i hi hne)⟩
theorem LSt.grown {w W W' : World} {kb : Nat} {k k' n r : Int} {s : Value} (h : LSt w W kb k n r s) (b : W.grownBy W' (some kb)) (hk : KAt W' kb k') : LSt w W' kb k' n r s := by
  have l := h.l
  refine ⟨(b.block _ h.f.lt (fun e => by injection e with e; omega)).trans h.f, (b.block _ h.e.lt (fun e => by injection e with e; omega)).trans h.e, hk, ?_, l⟩
  exact ⟨b.os.trans h.g.os, b.tape.trans h.g.tape, b.output.trans h.g.output, Nat.le_trans h.g.size b.size, fun i hi hne => (b.block i (Nat.lt_of_lt_of_le hi h.g.size) hne).trans (h.g.block i hi hne)⟩
theorem LSt.fin {w W : World} {kb : Nat} {k n r : Int} {s : Value} (h : LSt w W kb k n r s) (x y : Int) : FC ((W.setCell ⟨w.heap.size + 1, 0, none⟩ (.int .i64 x)).setCell ⟨w.heap.size + 1, 1, none⟩ (.int .i64 y)) (w.heap.size + 1) x y ∧ w.grownBy ((W.setCell ⟨w.heap.size + 1, 0, none⟩ (.int .i64 x)).setCell ⟨w.heap.size + 1, 1, none⟩ (.int .i64 y)) (some kb) ∧ KAt ((W.setCell ⟨w.heap.size + 1, 0, none⟩ (.int .i64 x)).setCell ⟨w.heap.size + 1, 1, none⟩ (.int .i64 y)) kb k := by
  have l := h.l
  refine ⟨(h.e.set0 x).set1 y, ⟨h.g.os, h.g.tape, h.g.output, by simp; exact h.g.size, fun i hi hne => ?_⟩, ?_⟩
  · exact (Below.heap_setCell _ ⟨w.heap.size + 1, 1, none⟩ _ i (by simp; omega)).trans ((Below.heap_setCell _ ⟨w.heap.size + 1, 0, none⟩ _ i (by simp; omega)).trans (h.g.block i hi hne))
  · exact (Below.heap_setCell _ ⟨w.heap.size + 1, 1, none⟩ _ kb (by simp; omega)).trans ((Below.heap_setCell _ ⟨w.heap.size + 1, 0, none⟩ _ kb (by simp; omega)).trans h.k)

theorem lookT_eq (t : Tree) (k : Nat) : lookT t k = if 1000 ≤ k then ((2, 0), k + 1) else if nodeF t.n t.r (t.l.map Tree.n) ≠ 0 then ((nodeF t.n t.r (t.l.map Tree.n), (k : Int)), k + 1) else looksT t.l (k + 1) := by
  cases t; rw [lookT]; rfl
theorem looksT_at {l : List Tree} {i k : Nat} {x : Tree} (h : l[i]? = some x) : looksT (l.drop i) k = if (lookT x k).1.1 ≠ 0 then lookT x k else looksT (l.drop (i + 1)) (lookT x k).2 := by
  obtain ⟨hi, rfl⟩ := List.getElem?_eq_some_iff.1 h
  rw [List.drop_eq_getElem_cons hi, looksT]
theorem looksT_end {l : List Tree} {k : Nat} : looksT (l.drop l.length) k = ((0, 0), k) := by rw [List.drop_length, looksT]
mutual
theorem lookT_le : ∀ (t : Tree) (k : Nat), k ≤ 1000 → (lookT t k).1.1 = 0 → (lookT t k).2 ≤ 1000
  | .mk n r l, k, hk, h => by
    rw [lookT] at h ⊢
    split at h
    · simp at h
    · rename_i h1
      rw [if_neg h1]
      split at h
      · rename_i h2
        exact absurd h h2
      · rename_i h2
        rw [if_neg h2]
        exact looksT_le l _ (by omega) h
theorem looksT_le : ∀ (l : List Tree) (k : Nat), k ≤ 1000 → (looksT l k).1.1 = 0 → (looksT l k).2 ≤ 1000
  | [], k, hk, h => by rw [looksT]; exact hk
  | t :: ts, k, hk, h => by
    rw [looksT] at h ⊢
    split at h
    · rename_i h1
      exact absurd h h1
    · rename_i h1
      rw [if_neg h1]
      exact looksT_le ts _ (lookT_le t k hk (Classical.byContradiction fun h3 => h1 h3)) h
end
theorem chkP_bad {ns : List Int} {i left : Nat} {last q : Int} (h : ns[i]? = some q) (hc : q ≤ last ∨ (left : Int) % q ≠ 0) : chkP left last (ns.drop i) = false := by
  obtain ⟨hi, rfl⟩ := List.getElem?_eq_some_iff.1 h
  rw [List.drop_eq_getElem_cons hi, chkP, if_pos hc]
theorem chkP_go {ns : List Int} {i left : Nat} {last q : Int} (h : ns[i]? = some q) (hc : ¬ (q ≤ last ∨ (left : Int) % q ≠ 0)) : chkP left last (ns.drop i) = chkP (strip q.toNat left) q (ns.drop (i + 1)) := by
  obtain ⟨hi, rfl⟩ := List.getElem?_eq_some_iff.1 h
  rw [List.drop_eq_getElem_cons hi, chkP, if_neg hc]
theorem chkP_end {ns : List Int} {left : Nat} {last : Int} : chkP left last (ns.drop ns.length) = decide (left = 1) := by rw [List.drop_length, chkP]
def pwB (E n r : Nat) (q : Int) : Bool := decide (r ^ (E / q.toNat) % n ≠ 1)
theorem all_take {ns : List Int} {i : Nat} {q : Int} {f : Int → Bool} (h : ns[i]? = some q) : (ns.take (i + 1)).all f = ((ns.take i).all f && f q) := by
  obtain ⟨hi, rfl⟩ := List.getElem?_eq_some_iff.1 h
  rw [List.take_add_one, h, List.all_append]
  simp

/-- what look leaves -/
def RetLk (w : World) (kb : Nat) (v : (Int × Int) × Nat) : Ending → World → Prop := fun e w' => e = .returned (fv v.1) ∧ w.grownBy w' (some kb) ∧ KAt w' kb (v.2 : Nat)

set_option maxRecDepth 100000 in
set_option maxHeartbeats 1600000 in
theorem look_a (n : Int) (r : Int) (A : Option Addr) (N cap k kb : Nat) (w : World) (hK : KAt w kb k) (h : k = 1000) :
    Calls Tryd.prog 11 #[.pointer (some ⟨kb, 0, none⟩), .agg #[.int .i64 n, .int .i64 r, .slice A N cap]] w (RetLk w kb ((2, 0), k + 1)) := by
  have S0 := hide (LSt.start hK n r (.slice A N cap))
  have S1 := hide (LSt.start1 hK ((k : Int) + 1) n r (.slice A N cap))
  have lk := S0.out.l
  have w1 : wrap64 ((k : Int) + 1) = (k : Int) + 1 := by unfold wrap64; omega
  have CF := fun W => hide (cfault_any 2 0 W)
  have q1 : decide (1000 ≤ (k : Int)) = true := by rw [decide_eq_true_eq]; omega
  clear h
  clear hK
  go_enter Tryd.func11, Tryd.ntmps11
  obtain ⟨k0, k1⟩ := S0.out.k.cells
  go_upto_region 3 with (fail)
  obtain ⟨W1, hW⟩ : ∃ Z, ((w.setCell ⟨kb, 0, none⟩ (.int .i64 ((k : Int) + 1))).alloc (.cells #[.int .i64 n, .int .i64 r, .slice A N cap] 24)).alloc (.cells #[.int .i64 0, .int .i64 0] 28) = Z := ⟨_, rfl⟩
  rw [hW] at S1
  (try rw [hW])
  clear hW k0 k1 S0
  obtain ⟨c0, c1, c2⟩ := S1.out.f.cells
  go_wp2_with fail
  refine (CF _).out.mono ?_
  rintro e w5 ⟨rfl, hb⟩
  have S5 := hide (S1.out.below hb)
  clear hb c0 c1 c2
  obtain ⟨e0, e1, e2, e3⟩ := S5.out.e.cells
  go_wp2_with fail
  obtain ⟨F1, F2, F3⟩ := S5.out.fin (2) (0)
  obtain ⟨G0, G1, _, _⟩ := F1.cells
  exact bodyPost_ret (v := .agg #[.int .i64 (2), .int .i64 (0)]) (by simp [results, Tryd.results11, go_sem, G0, G1]) rfl ⟨rfl, F2, by simpa using F3⟩

set_option maxRecDepth 100000 in
set_option maxHeartbeats 1600000 in
theorem look_b1 (n : Int) (r : Int) (A : Option Addr) (N cap k kb : Nat) (w : World) (hK : KAt w kb k) (h : k < 1000) (h2 : n < 2) :
    Calls Tryd.prog 11 #[.pointer (some ⟨kb, 0, none⟩), .agg #[.int .i64 n, .int .i64 r, .slice A N cap]] w (RetLk w kb ((3, (k : Int)), k + 1)) := by
  have S0 := hide (LSt.start hK n r (.slice A N cap))
  have S1 := hide (LSt.start1 hK ((k : Int) + 1) n r (.slice A N cap))
  have lk := S0.out.l
  have w1 : wrap64 ((k : Int) + 1) = (k : Int) + 1 := by unfold wrap64; omega
  have CF := fun W => hide (cfault_any 3 (k : Int) W)
  have q1 : decide (1000 ≤ (k : Int)) = false := by rw [decide_eq_false_iff_not]; omega
  have q2 : decide (n < 2) = true := by rw [decide_eq_true_eq]; exact h2
  clear h h2
  clear hK
  go_enter Tryd.func11, Tryd.ntmps11
  obtain ⟨k0, k1⟩ := S0.out.k.cells
  go_upto_region 3 with (fail)
  obtain ⟨W1, hW⟩ : ∃ Z, ((w.setCell ⟨kb, 0, none⟩ (.int .i64 ((k : Int) + 1))).alloc (.cells #[.int .i64 n, .int .i64 r, .slice A N cap] 24)).alloc (.cells #[.int .i64 0, .int .i64 0] 28) = Z := ⟨_, rfl⟩
  rw [hW] at S1
  (try rw [hW])
  clear hW k0 k1 S0
  obtain ⟨c0, c1, c2⟩ := S1.out.f.cells
  go_wp2_with fail
  refine (CF _).out.mono ?_
  rintro e w5 ⟨rfl, hb⟩
  have S5 := hide (S1.out.below hb)
  clear hb c0 c1 c2
  obtain ⟨e0, e1, e2, e3⟩ := S5.out.e.cells
  go_wp2_with fail
  obtain ⟨F1, F2, F3⟩ := S5.out.fin (3) ((k : Int))
  obtain ⟨G0, G1, _, _⟩ := F1.cells
  exact bodyPost_ret (v := .agg #[.int .i64 (3), .int .i64 ((k : Int))]) (by simp [results, Tryd.results11, go_sem, G0, G1]) rfl ⟨rfl, F2, by simpa using F3⟩

set_option maxRecDepth 100000 in
set_option maxHeartbeats 1600000 in
theorem look_b2 (n : Int) (r : Int) (A : Option Addr) (N cap k kb : Nat) (w : World) (hK : KAt w kb k) (h : k < 1000) (h2 : 1000000000000000000 < n) :
    Calls Tryd.prog 11 #[.pointer (some ⟨kb, 0, none⟩), .agg #[.int .i64 n, .int .i64 r, .slice A N cap]] w (RetLk w kb ((3, (k : Int)), k + 1)) := by
  have S0 := hide (LSt.start hK n r (.slice A N cap))
  have S1 := hide (LSt.start1 hK ((k : Int) + 1) n r (.slice A N cap))
  have lk := S0.out.l
  have w1 : wrap64 ((k : Int) + 1) = (k : Int) + 1 := by unfold wrap64; omega
  have CF := fun W => hide (cfault_any 3 (k : Int) W)
  have q1 : decide (1000 ≤ (k : Int)) = false := by rw [decide_eq_false_iff_not]; omega
  have q2 : decide (n < 2) = false := by rw [decide_eq_false_iff_not]; omega
  have CO := fun W => hide (ok_any n W)
  rw [show okB n = false by unfold okB; simp; omega] at CO
  clear h h2
  clear hK
  go_enter Tryd.func11, Tryd.ntmps11
  obtain ⟨k0, k1⟩ := S0.out.k.cells
  go_upto_region 3 with (fail)
  obtain ⟨W1, hW⟩ : ∃ Z, ((w.setCell ⟨kb, 0, none⟩ (.int .i64 ((k : Int) + 1))).alloc (.cells #[.int .i64 n, .int .i64 r, .slice A N cap] 24)).alloc (.cells #[.int .i64 0, .int .i64 0] 28) = Z := ⟨_, rfl⟩
  rw [hW] at S1
  (try rw [hW])
  clear hW k0 k1 S0
  obtain ⟨c0, c1, c2⟩ := S1.out.f.cells
  go_wp2_with fail
  refine (CO _).out.mono ?_
  rintro e w4 ⟨rfl, rfl⟩
  go_wp2_with fail
  refine (CF _).out.mono ?_
  rintro e w5 ⟨rfl, hb⟩
  have S5 := hide (S1.out.below hb)
  clear hb c0 c1 c2
  obtain ⟨e0, e1, e2, e3⟩ := S5.out.e.cells
  go_wp2_with fail
  obtain ⟨F1, F2, F3⟩ := S5.out.fin (3) ((k : Int))
  obtain ⟨G0, G1, _, _⟩ := F1.cells
  exact bodyPost_ret (v := .agg #[.int .i64 (3), .int .i64 ((k : Int))]) (by simp [results, Tryd.results11, go_sem, G0, G1]) rfl ⟨rfl, F2, by simpa using F3⟩

set_option maxRecDepth 100000 in
set_option maxHeartbeats 1600000 in
theorem look_c1 (r : Int) (A : Option Addr) (N cap k kb : Nat) (w : World) (hK : KAt w kb k) (h : k < 1000) (h3 : r ≠ 0) :
    Calls Tryd.prog 11 #[.pointer (some ⟨kb, 0, none⟩), .agg #[.int .i64 2, .int .i64 r, .slice A N cap]] w (RetLk w kb ((6, (k : Int)), k + 1)) := by
  have S0 := hide (LSt.start hK 2 r (.slice A N cap))
  have S1 := hide (LSt.start1 hK ((k : Int) + 1) 2 r (.slice A N cap))
  have lk := S0.out.l
  have w1 : wrap64 ((k : Int) + 1) = (k : Int) + 1 := by unfold wrap64; omega
  have CF := fun W => hide (cfault_any 6 (k : Int) W)
  have q1 : decide (1000 ≤ (k : Int)) = false := by rw [decide_eq_false_iff_not]; omega
  have CO := fun W => hide (ok_any 2 W)
  rw [show okB 2 = true by rfl] at CO
  have q3 : (r != 0) = true := by simpa using h3
  clear h h3
  clear hK
  go_enter Tryd.func11, Tryd.ntmps11
  obtain ⟨k0, k1⟩ := S0.out.k.cells
  go_upto_region 3 with (fail)
  obtain ⟨W1, hW⟩ : ∃ Z, ((w.setCell ⟨kb, 0, none⟩ (.int .i64 ((k : Int) + 1))).alloc (.cells #[.int .i64 2, .int .i64 r, .slice A N cap] 24)).alloc (.cells #[.int .i64 0, .int .i64 0] 28) = Z := ⟨_, rfl⟩
  rw [hW] at S1
  (try rw [hW])
  clear hW k0 k1 S0
  obtain ⟨c0, c1, c2⟩ := S1.out.f.cells
  go_wp2_with fail
  refine (CO _).out.mono ?_
  rintro e w4 ⟨rfl, rfl⟩
  go_wp2_with fail
  refine (CF _).out.mono ?_
  rintro e w5 ⟨rfl, hb⟩
  have S5 := hide (S1.out.below hb)
  clear hb c0 c1 c2
  obtain ⟨e0, e1, e2, e3⟩ := S5.out.e.cells
  go_wp2_with fail
  obtain ⟨F1, F2, F3⟩ := S5.out.fin (6) ((k : Int))
  obtain ⟨G0, G1, _, _⟩ := F1.cells
  exact bodyPost_ret (v := .agg #[.int .i64 (6), .int .i64 ((k : Int))]) (by simp [results, Tryd.results11, go_sem, G0, G1]) rfl ⟨rfl, F2, by simpa using F3⟩

set_option maxRecDepth 100000 in
set_option maxHeartbeats 1600000 in
theorem look_c2 (A : Option Addr) (N cap k kb : Nat) (w : World) (hK : KAt w kb k) (h : k < 1000) (h4 : 0 < N) :
    Calls Tryd.prog 11 #[.pointer (some ⟨kb, 0, none⟩), .agg #[.int .i64 2, .int .i64 0, .slice A N cap]] w (RetLk w kb ((6, (k : Int)), k + 1)) := by
  have S0 := hide (LSt.start hK 2 0 (.slice A N cap))
  have S1 := hide (LSt.start1 hK ((k : Int) + 1) 2 0 (.slice A N cap))
  have lk := S0.out.l
  have w1 : wrap64 ((k : Int) + 1) = (k : Int) + 1 := by unfold wrap64; omega
  have CF := fun W => hide (cfault_any 6 (k : Int) W)
  have q1 : decide (1000 ≤ (k : Int)) = false := by rw [decide_eq_false_iff_not]; omega
  have CO := fun W => hide (ok_any 2 W)
  rw [show okB 2 = true by rfl] at CO
  clear h
  clear hK
  go_enter Tryd.func11, Tryd.ntmps11
  obtain ⟨k0, k1⟩ := S0.out.k.cells
  go_upto_region 3 with (fail)
  obtain ⟨W1, hW⟩ : ∃ Z, ((w.setCell ⟨kb, 0, none⟩ (.int .i64 ((k : Int) + 1))).alloc (.cells #[.int .i64 2, .int .i64 0, .slice A N cap] 24)).alloc (.cells #[.int .i64 0, .int .i64 0] 28) = Z := ⟨_, rfl⟩
  rw [hW] at S1
  (try rw [hW])
  clear hW k0 k1 S0
  obtain ⟨c0, c1, c2⟩ := S1.out.f.cells
  go_wp2_with fail
  refine (CO _).out.mono ?_
  rintro e w4 ⟨rfl, rfl⟩
  go_wp2_with fail
  refine (CF _).out.mono ?_
  rintro e w5 ⟨rfl, hb⟩
  have S5 := hide (S1.out.below hb)
  clear hb c0 c1 c2
  obtain ⟨e0, e1, e2, e3⟩ := S5.out.e.cells
  go_wp2_with fail
  obtain ⟨F1, F2, F3⟩ := S5.out.fin (6) ((k : Int))
  obtain ⟨G0, G1, _, _⟩ := F1.cells
  exact bodyPost_ret (v := .agg #[.int .i64 (6), .int .i64 ((k : Int))]) (by simp [results, Tryd.results11, go_sem, G0, G1]) rfl ⟨rfl, F2, by simpa using F3⟩

set_option maxRecDepth 100000 in
set_option maxHeartbeats 1600000 in
theorem look_c3 (A : Option Addr) (cap k kb : Nat) (w : World) (hK : KAt w kb k) (h : k < 1000) :
    Calls Tryd.prog 11 #[.pointer (some ⟨kb, 0, none⟩), .agg #[.int .i64 2, .int .i64 0, .slice A 0 cap]] w (RetLk w kb ((0, 0), k + 1)) := by
  have S0 := hide (LSt.start hK 2 0 (.slice A 0 cap))
  have S1 := hide (LSt.start1 hK ((k : Int) + 1) 2 0 (.slice A 0 cap))
  have lk := S0.out.l
  have w1 : wrap64 ((k : Int) + 1) = (k : Int) + 1 := by unfold wrap64; omega
  have CF := fun W => hide (cfault_any 0 0 W)
  have q1 : decide (1000 ≤ (k : Int)) = false := by rw [decide_eq_false_iff_not]; omega
  have CO := fun W => hide (ok_any 2 W)
  rw [show okB 2 = true by rfl] at CO
  clear h CF
  clear hK
  go_enter Tryd.func11, Tryd.ntmps11
  obtain ⟨k0, k1⟩ := S0.out.k.cells
  go_upto_region 3 with (fail)
  obtain ⟨W1, hW⟩ : ∃ Z, ((w.setCell ⟨kb, 0, none⟩ (.int .i64 ((k : Int) + 1))).alloc (.cells #[.int .i64 2, .int .i64 0, .slice A 0 cap] 24)).alloc (.cells #[.int .i64 0, .int .i64 0] 28) = Z := ⟨_, rfl⟩
  rw [hW] at S1
  (try rw [hW])
  clear hW k0 k1 S0
  obtain ⟨c0, c1, c2⟩ := S1.out.f.cells
  obtain ⟨e0, e1, e2, e3⟩ := S1.out.e.cells
  go_wp2_with fail
  refine (CO _).out.mono ?_
  rintro e w4 ⟨rfl, rfl⟩
  go_wp2_with fail
  obtain ⟨F1, F2, F3⟩ := S1.out.fin 0 0
  obtain ⟨G0, G1, _, _⟩ := F1.cells
  exact bodyPost_ret (v := .agg #[.int .i64 0, .int .i64 0]) (by simp [results, Tryd.results11, go_sem, G0, G1]) rfl ⟨rfl, F2, by simpa using F3⟩

set_option maxRecDepth 100000 in
set_option maxHeartbeats 1600000 in
theorem look_d1 (n : Int) (r : Int) (A : Option Addr) (N cap k kb : Nat) (w : World) (hK : KAt w kb k) (h : k < 1000) (h2 : 2 < n) (h3 : n ≤ 1000000000000000000) (h4 : r < 2) :
    Calls Tryd.prog 11 #[.pointer (some ⟨kb, 0, none⟩), .agg #[.int .i64 n, .int .i64 r, .slice A N cap]] w (RetLk w kb ((6, (k : Int)), k + 1)) := by
  have S0 := hide (LSt.start hK n r (.slice A N cap))
  have S1 := hide (LSt.start1 hK ((k : Int) + 1) n r (.slice A N cap))
  have lk := S0.out.l
  have w1 : wrap64 ((k : Int) + 1) = (k : Int) + 1 := by unfold wrap64; omega
  have CF := fun W => hide (cfault_any 6 (k : Int) W)
  have q1 : decide (1000 ≤ (k : Int)) = false := by rw [decide_eq_false_iff_not]; omega
  have q2 : decide (n < 2) = false := by rw [decide_eq_false_iff_not]; omega
  have CO := fun W => hide (ok_any n W)
  rw [show okB n = true by unfold okB; simp; omega] at CO
  have q3 : decide (n = 2) = false := by rw [decide_eq_false_iff_not]; omega
  have q3' : (n == 2) = false := by simp; omega
  have q4 : decide (r < 2) = true := by rw [decide_eq_true_eq]; exact h4
  clear h h2 h3 h4
  clear hK
  go_enter Tryd.func11, Tryd.ntmps11
  obtain ⟨k0, k1⟩ := S0.out.k.cells
  go_upto_region 3 with (fail)
  obtain ⟨W1, hW⟩ : ∃ Z, ((w.setCell ⟨kb, 0, none⟩ (.int .i64 ((k : Int) + 1))).alloc (.cells #[.int .i64 n, .int .i64 r, .slice A N cap] 24)).alloc (.cells #[.int .i64 0, .int .i64 0] 28) = Z := ⟨_, rfl⟩
  rw [hW] at S1
  (try rw [hW])
  clear hW k0 k1 S0
  obtain ⟨c0, c1, c2⟩ := S1.out.f.cells
  go_wp2_with fail
  refine (CO _).out.mono ?_
  rintro e w4 ⟨rfl, rfl⟩
  go_wp2_with fail
  refine (CF _).out.mono ?_
  rintro e w5 ⟨rfl, hb⟩
  have S5 := hide (S1.out.below hb)
  clear hb c0 c1 c2
  obtain ⟨e0, e1, e2, e3⟩ := S5.out.e.cells
  go_wp2_with fail
  obtain ⟨F1, F2, F3⟩ := S5.out.fin (6) ((k : Int))
  obtain ⟨G0, G1, _, _⟩ := F1.cells
  exact bodyPost_ret (v := .agg #[.int .i64 (6), .int .i64 ((k : Int))]) (by simp [results, Tryd.results11, go_sem, G0, G1]) rfl ⟨rfl, F2, by simpa using F3⟩

set_option maxRecDepth 100000 in
set_option maxHeartbeats 1600000 in
theorem look_d2 (n : Int) (r : Int) (A : Option Addr) (N cap k kb : Nat) (w : World) (hK : KAt w kb k) (h : k < 1000) (h2 : 2 < n) (h3 : n ≤ 1000000000000000000) (h4 : 2 ≤ r) (h5 : n ≤ r) :
    Calls Tryd.prog 11 #[.pointer (some ⟨kb, 0, none⟩), .agg #[.int .i64 n, .int .i64 r, .slice A N cap]] w (RetLk w kb ((6, (k : Int)), k + 1)) := by
  have S0 := hide (LSt.start hK n r (.slice A N cap))
  have S1 := hide (LSt.start1 hK ((k : Int) + 1) n r (.slice A N cap))
  have lk := S0.out.l
  have w1 : wrap64 ((k : Int) + 1) = (k : Int) + 1 := by unfold wrap64; omega
  have CF := fun W => hide (cfault_any 6 (k : Int) W)
  have q1 : decide (1000 ≤ (k : Int)) = false := by rw [decide_eq_false_iff_not]; omega
  have q2 : decide (n < 2) = false := by rw [decide_eq_false_iff_not]; omega
  have CO := fun W => hide (ok_any n W)
  rw [show okB n = true by unfold okB; simp; omega] at CO
  have q3 : decide (n = 2) = false := by rw [decide_eq_false_iff_not]; omega
  have q3' : (n == 2) = false := by simp; omega
  have q4 : decide (r < 2) = false := by rw [decide_eq_false_iff_not]; omega
  have q5 : decide (n ≤ r) = true := by rw [decide_eq_true_eq]; exact h5
  clear h h2 h3 h4 h5
  clear hK
  go_enter Tryd.func11, Tryd.ntmps11
  obtain ⟨k0, k1⟩ := S0.out.k.cells
  go_upto_region 3 with (fail)
  obtain ⟨W1, hW⟩ : ∃ Z, ((w.setCell ⟨kb, 0, none⟩ (.int .i64 ((k : Int) + 1))).alloc (.cells #[.int .i64 n, .int .i64 r, .slice A N cap] 24)).alloc (.cells #[.int .i64 0, .int .i64 0] 28) = Z := ⟨_, rfl⟩
  rw [hW] at S1
  (try rw [hW])
  clear hW k0 k1 S0
  obtain ⟨c0, c1, c2⟩ := S1.out.f.cells
  go_wp2_with fail
  refine (CO _).out.mono ?_
  rintro e w4 ⟨rfl, rfl⟩
  go_wp2_with fail
  refine (CF _).out.mono ?_
  rintro e w5 ⟨rfl, hb⟩
  have S5 := hide (S1.out.below hb)
  clear hb c0 c1 c2
  obtain ⟨e0, e1, e2, e3⟩ := S5.out.e.cells
  go_wp2_with fail
  obtain ⟨F1, F2, F3⟩ := S5.out.fin (6) ((k : Int))
  obtain ⟨G0, G1, _, _⟩ := F1.cells
  exact bodyPost_ret (v := .agg #[.int .i64 (6), .int .i64 ((k : Int))]) (by simp [results, Tryd.results11, go_sem, G0, G1]) rfl ⟨rfl, F2, by simpa using F3⟩
end Go.Proofs.YtlchmaiflcnaoaaDoor
