/- The walk of quad.Compose at the document's example. -/
import Derived.Test.YtkfjjljdhfjpbaaKFormG
import Derived.Deep.RegionHeld3
namespace Go.Proofs.Ytkfjjljdhfjpbaa
open Go.RowKit

/-- block g holds the cells vs -/
def Row (w : World) (g : Nat) (vs : Array Value) (T : TypeId) : Prop := w.heap[g]? = some (.cells vs T (0, 0))
theorem Row.made (w : World) (vs : Array Value) (T : TypeId) : Row (w.alloc (.cells vs T)) w.heap.size vs T := by
  show (w.heap.push _)[w.heap.size]? = _
  simp
theorem Row.lt {w : World} {g : Nat} {vs : Array Value} {T : TypeId} (h : Row w g vs T) : g < w.heap.size := heap_lt h
theorem Row.below {w w' : World} {g : Nat} {vs : Array Value} {T : TypeId} (h : Row w g vs T) (k : Below w.heap.size w w') : Row w' g vs T := (k.block g h.lt).trans h
theorem Row.cell {w : World} {g : Nat} {vs : Array Value} {T : TypeId} (h : Row w g vs T) (k : Nat) : w.cell? ⟨g, k, none⟩ = vs[k]? := by
  unfold Row at h
  simp [World.cell?, h]

/-- the blocks of Compose's frame at the example -/
def CB (w W : World) : Prop := MC W w.heap.size 2 1 3 ∧ MC W (w.heap.size + 1) 2 1 3 ∧ MC W (w.heap.size + 1 + 1) 0 0 0 ∧ FC W (w.heap.size + 1 + 1 + 1) 0 0 ∧ Row W (w.heap.size + 1 + 1 + 1 + 1) #[.int .i64 2, .int .i64 1, .int .i64 3, .int .i64 2, .int .i64 1, .int .i64 3] 23 ∧ Below w.heap.size w W
theorem CB.below {w W W' : World} (h : CB w W) (k : Below W.heap.size W W') : CB w W' := by
  obtain ⟨h1, h2, h3, h4, h5, h6⟩ := h
  exact ⟨h1.below k, h2.below k, h3.below k, h4.below k, h5.below k, h6.trans (k.mono h6.size)⟩
theorem CB.start (w : World) : CB w (((((w.alloc (.cells #[.int .i64 2, .int .i64 1, .int .i64 3] 23)).alloc (.cells #[.int .i64 2, .int .i64 1, .int .i64 3] 23)).alloc (.cells #[.int .i64 0, .int .i64 0, .int .i64 0] 23)).alloc (.cells #[.int .i64 0, .int .i64 0] 26)).alloc (.cells #[.int .i64 2, .int .i64 1, .int .i64 3, .int .i64 2, .int .i64 1, .int .i64 3] 23)) := by
  have s := World.size_alloc
  refine ⟨?_, ?_, ?_, ?_, ?_, ?_⟩
  · exact ((((MC.made w 2 1 3).below (bel_obj _ _)).below (bel_obj _ _)).below (bel_obj _ _)).below (bel_obj _ _)
  · have := (((MC.made (w.alloc (.cells #[.int .i64 2, .int .i64 1, .int .i64 3] 23)) 2 1 3).below (bel_obj _ (.cells #[.int .i64 0, .int .i64 0, .int .i64 0] 23))).below (bel_obj _ (.cells #[.int .i64 0, .int .i64 0] 26))).below (bel_obj _ (.cells #[.int .i64 2, .int .i64 1, .int .i64 3, .int .i64 2, .int .i64 1, .int .i64 3] 23))
    rwa [s] at this
  · have := ((MC.made ((w.alloc (.cells #[.int .i64 2, .int .i64 1, .int .i64 3] 23)).alloc (.cells #[.int .i64 2, .int .i64 1, .int .i64 3] 23)) 0 0 0).below (bel_obj _ (.cells #[.int .i64 0, .int .i64 0] 26))).below (bel_obj _ (.cells #[.int .i64 2, .int .i64 1, .int .i64 3, .int .i64 2, .int .i64 1, .int .i64 3] 23))
    rwa [s, s] at this
  · have := (FC.fresh (((w.alloc (.cells #[.int .i64 2, .int .i64 1, .int .i64 3] 23)).alloc (.cells #[.int .i64 2, .int .i64 1, .int .i64 3] 23)).alloc (.cells #[.int .i64 0, .int .i64 0, .int .i64 0] 23))).below (bel_obj _ (.cells #[.int .i64 2, .int .i64 1, .int .i64 3, .int .i64 2, .int .i64 1, .int .i64 3] 23))
    rwa [s, s, s] at this
  · have := Row.made ((((w.alloc (.cells #[.int .i64 2, .int .i64 1, .int .i64 3] 23)).alloc (.cells #[.int .i64 2, .int .i64 1, .int .i64 3] 23)).alloc (.cells #[.int .i64 0, .int .i64 0, .int .i64 0] 23)).alloc (.cells #[.int .i64 0, .int .i64 0] 26)) #[.int .i64 2, .int .i64 1, .int .i64 3, .int .i64 2, .int .i64 1, .int .i64 3] 23
    rwa [s, s, s, s] at this
  · go_grown
theorem CB.cells {w W : World} (h : CB w W) : (W.cell? ⟨w.heap.size, 0, none⟩ = some (.int .i64 2) ∧ W.cell? ⟨w.heap.size, 1, none⟩ = some (.int .i64 1) ∧ W.cell? ⟨w.heap.size, 2, none⟩ = some (.int .i64 3)) ∧ (W.cell? ⟨w.heap.size + 1, 0, none⟩ = some (.int .i64 2) ∧ W.cell? ⟨w.heap.size + 1, 1, none⟩ = some (.int .i64 1) ∧ W.cell? ⟨w.heap.size + 1, 2, none⟩ = some (.int .i64 3)) ∧ (W.cell? ⟨w.heap.size + 1 + 1 + 1 + 1, 0, none⟩ = some (.int .i64 2) ∧ W.cell? ⟨w.heap.size + 1 + 1 + 1 + 1, 1, none⟩ = some (.int .i64 1) ∧ W.cell? ⟨w.heap.size + 1 + 1 + 1 + 1, 2, none⟩ = some (.int .i64 3)) ∧ (W.cell? ⟨w.heap.size + 1 + 1 + 1 + 1, 3, none⟩ = some (.int .i64 2) ∧ W.cell? ⟨w.heap.size + 1 + 1 + 1 + 1, 4, none⟩ = some (.int .i64 1) ∧ W.cell? ⟨w.heap.size + 1 + 1 + 1 + 1, 5, none⟩ = some (.int .i64 3)) := by
  obtain ⟨h1, h2, _, _, h5, _⟩ := h
  exact ⟨h1.cells, h2.cells, ⟨h5.cell 0, h5.cell 1, h5.cell 2⟩, ⟨h5.cell 3, h5.cell 4, h5.cell 5⟩⟩

theorem heap_put {W : World} {g : Nat} {p : Addr} (v : Value) (h : p.block ≠ g) : (W.setCell p v).heap[g]? = W.heap[g]? := Below.heap_setCell _ _ _ _ (Ne.symm h)
/-- three cells of a block set -/
def put3 (W : World) (g : Nat) (a b c : Int) : World := ((W.setCell ⟨g, 0, none⟩ (.int .i64 a)).setCell ⟨g, 1, none⟩ (.int .i64 b)).setCell ⟨g, 2, none⟩ (.int .i64 c)
theorem put3_heap {W : World} {g j : Nat} (a b c : Int) (h : g ≠ j) : (put3 W g a b c).heap[j]? = W.heap[j]? := by
  unfold put3
  rw [heap_put _ h, heap_put _ h, heap_put _ h]
theorem put3_size (W : World) (g : Nat) (a b c : Int) : (put3 W g a b c).heap.size = W.heap.size := by unfold put3; simp
theorem MC.put {W : World} {g : Nat} {a b c : Int} (h : MC W g a b c) (x y z : Int) : MC (put3 W g x y z) g x y z := ((h.set0 x).set1 y).set2 z
theorem CB.put1 {w W : World} (h : CB w W) : CB w (put3 W w.heap.size 2 1 3) := by
  obtain ⟨h1, h2, h3, h4, h5, h6⟩ := h
  refine ⟨h1.put 2 1 3, ?_, ?_, ?_, ?_, ?_⟩
  · exact (put3_heap _ _ _ (by omega)).trans h2
  · exact (put3_heap _ _ _ (by omega)).trans h3
  · exact (put3_heap _ _ _ (by omega)).trans h4
  · exact (put3_heap _ _ _ (by omega)).trans h5
  · exact ((h6.setCell (p := ⟨_, 0, none⟩) (Nat.le_refl _) _).setCell (p := ⟨_, 1, none⟩) (Nat.le_refl _) _).setCell (p := ⟨_, 2, none⟩) (Nat.le_refl _) _
theorem CB.put2 {w W : World} (h : CB w W) : CB w (put3 W (w.heap.size + 1) 2 1 3) := by
  obtain ⟨h1, h2, h3, h4, h5, h6⟩ := h
  refine ⟨?_, h2.put 2 1 3, ?_, ?_, ?_, ?_⟩
  · exact (put3_heap _ _ _ (by omega)).trans h1
  · exact (put3_heap _ _ _ (by omega)).trans h3
  · exact (put3_heap _ _ _ (by omega)).trans h4
  · exact (put3_heap _ _ _ (by omega)).trans h5
  · exact ((h6.setCell (p := ⟨_, 0, none⟩) (Nat.le_succ _) _).setCell (p := ⟨_, 1, none⟩) (Nat.le_succ _) _).setCell (p := ⟨_, 2, none⟩) (Nat.le_succ _) _
theorem CB.keep {w W : World} (h : CB w W) : (W.cell? ⟨w.heap.size, 0, none⟩ = some (.int .i64 2) ∧ W.cell? ⟨w.heap.size, 1, none⟩ = some (.int .i64 1) ∧ W.cell? ⟨w.heap.size, 2, none⟩ = some (.int .i64 3)) ∧ (W.cell? ⟨w.heap.size + 1, 0, none⟩ = some (.int .i64 2) ∧ W.cell? ⟨w.heap.size + 1, 1, none⟩ = some (.int .i64 1) ∧ W.cell? ⟨w.heap.size + 1, 2, none⟩ = some (.int .i64 3)) ∧ Hid (CB w W) :=
  ⟨h.cells.1, h.cells.2.1, h⟩

set_option maxRecDepth 100000 in
set_option maxHeartbeats 6400000 in
theorem compose_begun (w : World) : Calls Try.prog 14 #[.agg #[.int .i64 2, .int .i64 1, .int .i64 3], .agg #[.int .i64 2, .int .i64 1, .int .i64 3]] w fun e w' => e = .returned (.tuple #[.agg #[.int .i64 2, .int .i64 (-1), .int .i64 3], fv (0, 0)]) ∧ Below w.heap.size w w' := by
  have CK := fun W => hide (check_any 2 1 3 W)
  unfold RetFault at CK
  rw [show formF 2 1 3 = (0, 0) from by decide] at CK
  simp only [fv] at CK
  have CD := fun W => hide (disc_any 2 1 3 W (by omega) (by omega) (by omega))
  have CR := fun W => hide (reduce_213 W)
  have CC := fun W => hide (compose_213 W)
  have H0 := hide (CB.start w)
  go_enter Try.func14, Try.ntmps14
  go_wp2_with fail
  refine wp_loop_rounds 3 ?_
  rw [rounds_succ]
  go_wp2_with fail
  refine (CK _).out.mono ?_
  rintro e w1 ⟨rfl, hb⟩
  have H1 := hide (H0.out.below (below_new hb))
  obtain ⟨⟨a0, a1, a2⟩, ⟨b0, b1, b2⟩, ⟨c0, c1, c2⟩, d0, d1, d2⟩ := H1.out.cells
  have hl1 := H1.out.2.2.2.2.1.lt
  clear hb
  go_wp2_with fail
  rw [rounds_succ]
  go_wp2_with fail
  refine (CK _).out.mono ?_
  rintro e w2 ⟨rfl, hb⟩
  have H2 := hide (H1.out.below (below_new (below_new hb)))
  clear hb a0 a1 a2 b0 b1 b2 c0 c1 c2 d0 d1 d2 hl1
  obtain ⟨⟨a0, a1, a2⟩, ⟨b0, b1, b2⟩, ⟨c0, c1, c2⟩, d0, d1, d2⟩ := H2.out.cells
  have hl2 := H2.out.2.2.2.2.1.lt
  go_wp2_with fail
  rw [rounds_succ]
  go_wp2_with fail
  have H3 := hide (H2.out.below (bel_obj w2 (.cells #[.int .i64 0, .int .i64 0] 26)))
  clear a0 a1 a2 b0 b1 b2 c0 c1 c2 d0 d1 d2
  obtain ⟨⟨a0, a1, a2⟩, ⟨b0, b1, b2⟩, -⟩ := H3.out.cells
  go_region_held3 (fun W => (W.cell? ⟨w.heap.size, 0, none⟩ = some (.int .i64 2) ∧ W.cell? ⟨w.heap.size, 1, none⟩ = some (.int .i64 1) ∧ W.cell? ⟨w.heap.size, 2, none⟩ = some (.int .i64 3)) ∧ (W.cell? ⟨w.heap.size + 1, 0, none⟩ = some (.int .i64 2) ∧ W.cell? ⟨w.heap.size + 1, 1, none⟩ = some (.int .i64 1) ∧ W.cell? ⟨w.heap.size + 1, 2, none⟩ = some (.int .i64 3)) ∧ Hid (CB w W)) (first | exact CB.keep (H3.out.below (below_drewN (Below.refl _ _) 1)) | (have hx := ‹(_ ∧ _ ∧ _) ∧ (_ ∧ _ ∧ _) ∧ Hid (CB w _)›; have hy := hx.2.2.out.below hb; clear hx hb; exact CB.keep hy)) (first | (go_at_call 16; refine (CD _).out.mono ?_; rintro e w4 ⟨rfl, hb⟩))
  rename_i hS
  have H4 := hS.2.2
  clear hS hb a0 a1 a2 b0 b1 b2 hl2
  obtain ⟨⟨a0, a1, a2⟩, ⟨b0, b1, b2⟩, -⟩ := H4.out.cells
  go_wp2_with fail
  refine (CR _).out.mono ?_
  rintro e w5 ⟨rfl, hb⟩
  have H5 := H4.out.below hb
  have f0 := H5.1.frozen 0
  have f1 := H5.1.frozen 1
  have f2 := H5.1.frozen 2
  clear hb a0 a1 a2 b0 b1 b2
  obtain ⟨⟨a0, a1, a2⟩, ⟨b0, b1, b2⟩, -⟩ := H5.cells
  have H6 : Hid (CB w (((w5.setCell ⟨w.heap.size, 0, none⟩ (.int .i64 2)).setCell ⟨w.heap.size, 1, none⟩ (.int .i64 1)).setCell ⟨w.heap.size, 2, none⟩ (.int .i64 3))) := H5.put1
  clear H5
  go_wp2_with fail
  refine (CR _).out.mono ?_
  rintro e w6 ⟨rfl, hb⟩
  have H7 := H6.out.below hb
  clear hb a0 a1 a2 b0 b1 b2 f0 f1 f2
  have f0 := H7.2.1.frozen 0
  have f1 := H7.2.1.frozen 1
  have f2 := H7.2.1.frozen 2
  obtain ⟨⟨a0, a1, a2⟩, ⟨b0, b1, b2⟩, -⟩ := H7.cells
  have H8 : CB w (((w6.setCell ⟨w.heap.size + 1, 0, none⟩ (.int .i64 2)).setCell ⟨w.heap.size + 1, 1, none⟩ (.int .i64 1)).setCell ⟨w.heap.size + 1, 2, none⟩ (.int .i64 3)) := H7.put2
  obtain ⟨⟨x0, x1, x2⟩, ⟨y0, y1, y2⟩, -⟩ := H8.cells
  have H9 := hide H8
  clear H7 H8
  go_wp2_with fail
  refine (CC _).out.mono ?_
  rintro e w7 ⟨rfl, hb⟩
  have HA := H9.out.below hb
  clear hb a0 a1 a2 b0 b1 b2 f0 f1 f2 x0 x1 x2 y0 y1 y2
  obtain ⟨-, -, m3, m4, -, m6⟩ := HA
  obtain ⟨c0, c1, c2⟩ := m3.cells
  obtain ⟨d0, d1, e0, e1⟩ := m4.cells
  have f0 := m3.frozen 0
  have f1 := m3.frozen 1
  have f2 := m3.frozen 2
  have M3 := hide m3
  have M4 := hide m4
  have M6 := hide m6
  clear m3 m4 m6
  go_wp2_with fail
  have p0 := (M3.out.set0 2).cells.1
  have p1 := ((M3.out.set0 2).set1 (-1)).cells.2.1
  have p2 := (((M3.out.set0 2).set1 (-1)).set2 3).cells.2.2
  have F4 : FC (((w7.setCell ⟨w.heap.size + 1 + 1, 0, none⟩ (.int .i64 2)).setCell ⟨w.heap.size + 1 + 1, 1, none⟩ (.int .i64 (-1))).setCell ⟨w.heap.size + 1 + 1, 2, none⟩ (.int .i64 3)) (w.heap.size + 1 + 1 + 1) 0 0 := (put3_heap 2 (-1) 3 (by omega)).trans M4.out
  obtain ⟨q0, q1⟩ := F4.put 0 0
  refine bodyPost_ret (v := .tuple #[.agg #[.int .i64 2, .int .i64 (-1), .int .i64 3], fv (0, 0)]) (by simp [results, Try.results14, go_sem, fv, p0, p1, p2, q0, q1]) rfl ⟨rfl, ?_⟩
  exact ((((M6.out.setCell (p := ⟨_, 0, none⟩) (Nat.le_add_right _ 2) _).setCell (p := ⟨_, 1, none⟩) (Nat.le_add_right _ 2) _).setCell (p := ⟨_, 2, none⟩) (Nat.le_add_right _ 2) _).setCell (p := ⟨_, 0, none⟩) (Nat.le_add_right _ 3) _).setCell (p := ⟨_, 1, none⟩) (Nat.le_add_right _ 3) _
end Go.Proofs.Ytkfjjljdhfjpbaa
