/- quad.Compose at whatever two forms. -/
import Derived.Test.YtkfjjljdhfjpbaaKCompW
import Derived.Test.YtkfjjljdhfjpbaaKRedR
namespace Go.Proofs.Ytkfjjljdhfjpbaa
open Go.RowKit

/-- the blocks of Compose's frame -/
def DB (w W : World) (a1 b1 c1 a2 b2 c2 : Int) : Prop := MC W w.heap.size a1 b1 c1 ∧ MC W (w.heap.size + 1) a2 b2 c2 ∧ MC W (w.heap.size + 1 + 1) 0 0 0 ∧ FC W (w.heap.size + 1 + 1 + 1) 0 0 ∧ Row W (w.heap.size + 1 + 1 + 1 + 1) #[.int .i64 a1, .int .i64 b1, .int .i64 c1, .int .i64 a2, .int .i64 b2, .int .i64 c2] 23 ∧ Below w.heap.size w W
theorem DB.below {w W W' : World} {a1 b1 c1 a2 b2 c2 : Int} (h : DB w W a1 b1 c1 a2 b2 c2) (k : Below W.heap.size W W') : DB w W' a1 b1 c1 a2 b2 c2 := by
  obtain ⟨h1, h2, h3, h4, h5, h6⟩ := h
  exact ⟨h1.below k, h2.below k, h3.below k, h4.below k, h5.below k, h6.trans (k.mono h6.size)⟩
theorem DB.start (w : World) (a1 b1 c1 a2 b2 c2 : Int) : DB w (((((w.alloc (.cells #[.int .i64 a1, .int .i64 b1, .int .i64 c1] 23)).alloc (.cells #[.int .i64 a2, .int .i64 b2, .int .i64 c2] 23)).alloc (.cells #[.int .i64 0, .int .i64 0, .int .i64 0] 23)).alloc (.cells #[.int .i64 0, .int .i64 0] 26)).alloc (.cells #[.int .i64 a1, .int .i64 b1, .int .i64 c1, .int .i64 a2, .int .i64 b2, .int .i64 c2] 23)) a1 b1 c1 a2 b2 c2 := by
  have s := World.size_alloc
  refine ⟨?_, ?_, ?_, ?_, ?_, ?_⟩
  · exact ((((MC.made w a1 b1 c1).below (bel_obj _ _)).below (bel_obj _ _)).below (bel_obj _ _)).below (bel_obj _ _)
  · have := (((MC.made (w.alloc (.cells #[.int .i64 a1, .int .i64 b1, .int .i64 c1] 23)) a2 b2 c2).below (bel_obj _ (.cells #[.int .i64 0, .int .i64 0, .int .i64 0] 23))).below (bel_obj _ (.cells #[.int .i64 0, .int .i64 0] 26))).below (bel_obj _ (.cells #[.int .i64 a1, .int .i64 b1, .int .i64 c1, .int .i64 a2, .int .i64 b2, .int .i64 c2] 23))
    rwa [s] at this
  · have := ((MC.made ((w.alloc (.cells #[.int .i64 a1, .int .i64 b1, .int .i64 c1] 23)).alloc (.cells #[.int .i64 a2, .int .i64 b2, .int .i64 c2] 23)) 0 0 0).below (bel_obj _ (.cells #[.int .i64 0, .int .i64 0] 26))).below (bel_obj _ (.cells #[.int .i64 a1, .int .i64 b1, .int .i64 c1, .int .i64 a2, .int .i64 b2, .int .i64 c2] 23))
    rwa [s, s] at this
  · have := (FC.fresh (((w.alloc (.cells #[.int .i64 a1, .int .i64 b1, .int .i64 c1] 23)).alloc (.cells #[.int .i64 a2, .int .i64 b2, .int .i64 c2] 23)).alloc (.cells #[.int .i64 0, .int .i64 0, .int .i64 0] 23))).below (bel_obj _ (.cells #[.int .i64 a1, .int .i64 b1, .int .i64 c1, .int .i64 a2, .int .i64 b2, .int .i64 c2] 23))
    rwa [s, s, s] at this
  · have := Row.made ((((w.alloc (.cells #[.int .i64 a1, .int .i64 b1, .int .i64 c1] 23)).alloc (.cells #[.int .i64 a2, .int .i64 b2, .int .i64 c2] 23)).alloc (.cells #[.int .i64 0, .int .i64 0, .int .i64 0] 23)).alloc (.cells #[.int .i64 0, .int .i64 0] 26)) #[.int .i64 a1, .int .i64 b1, .int .i64 c1, .int .i64 a2, .int .i64 b2, .int .i64 c2] 23
    rwa [s, s, s, s] at this
  · go_grown
theorem DB.cells {w W : World} {a1 b1 c1 a2 b2 c2 : Int} (h : DB w W a1 b1 c1 a2 b2 c2) : (W.cell? ⟨w.heap.size, 0, none⟩ = some (.int .i64 a1) ∧ W.cell? ⟨w.heap.size, 1, none⟩ = some (.int .i64 b1) ∧ W.cell? ⟨w.heap.size, 2, none⟩ = some (.int .i64 c1)) ∧ (W.cell? ⟨w.heap.size + 1, 0, none⟩ = some (.int .i64 a2) ∧ W.cell? ⟨w.heap.size + 1, 1, none⟩ = some (.int .i64 b2) ∧ W.cell? ⟨w.heap.size + 1, 2, none⟩ = some (.int .i64 c2)) ∧ (W.cell? ⟨w.heap.size + 1 + 1 + 1 + 1, 0, none⟩ = some (.int .i64 a1) ∧ W.cell? ⟨w.heap.size + 1 + 1 + 1 + 1, 1, none⟩ = some (.int .i64 b1) ∧ W.cell? ⟨w.heap.size + 1 + 1 + 1 + 1, 2, none⟩ = some (.int .i64 c1)) ∧ (W.cell? ⟨w.heap.size + 1 + 1 + 1 + 1, 3, none⟩ = some (.int .i64 a2) ∧ W.cell? ⟨w.heap.size + 1 + 1 + 1 + 1, 4, none⟩ = some (.int .i64 b2) ∧ W.cell? ⟨w.heap.size + 1 + 1 + 1 + 1, 5, none⟩ = some (.int .i64 c2)) := by
  obtain ⟨h1, h2, _, _, h5, _⟩ := h
  exact ⟨h1.cells, h2.cells, ⟨h5.cell 0, h5.cell 1, h5.cell 2⟩, ⟨h5.cell 3, h5.cell 4, h5.cell 5⟩⟩


/-- .. without the row -/
structure DU (w W : World) (a1 b1 c1 a2 b2 c2 : Int) : Prop where
  f : MC W w.heap.size a1 b1 c1
  g : MC W (w.heap.size + 1) a2 b2 c2
  z : MC W (w.heap.size + 1 + 1) 0 0 0
  e : FC W (w.heap.size + 1 + 1 + 1) 0 0
  b : Below w.heap.size w W
theorem DB.du {w W : World} {a1 b1 c1 a2 b2 c2 : Int} (h : DB w W a1 b1 c1 a2 b2 c2) : DU w W a1 b1 c1 a2 b2 c2 := ⟨h.1, h.2.1, h.2.2.1, h.2.2.2.1, h.2.2.2.2.2⟩
theorem DU.below {w W W' : World} {a1 b1 c1 a2 b2 c2 : Int} (h : DU w W a1 b1 c1 a2 b2 c2) (k : Below W.heap.size W W') : DU w W' a1 b1 c1 a2 b2 c2 :=
  ⟨h.f.below k, h.g.below k, h.z.below k, h.e.below k, h.b.trans (k.mono h.b.size)⟩
theorem DU.put1 {w W : World} {a1 b1 c1 a2 b2 c2 : Int} (h : DU w W a1 b1 c1 a2 b2 c2) (x y z : Int) : DU w (put3 W w.heap.size x y z) x y z a2 b2 c2 :=
  ⟨h.f.put x y z, (put3_heap _ _ _ (by omega)).trans h.g, (put3_heap _ _ _ (by omega)).trans h.z, (put3_heap _ _ _ (by omega)).trans h.e, ((h.b.setCell (p := ⟨_, 0, none⟩) (Nat.le_refl _) _).setCell (p := ⟨_, 1, none⟩) (Nat.le_refl _) _).setCell (p := ⟨_, 2, none⟩) (Nat.le_refl _) _⟩
theorem DU.put2 {w W : World} {a1 b1 c1 a2 b2 c2 : Int} (h : DU w W a1 b1 c1 a2 b2 c2) (x y z : Int) : DU w (put3 W (w.heap.size + 1) x y z) a1 b1 c1 x y z :=
  ⟨(put3_heap _ _ _ (by omega)).trans h.f, h.g.put x y z, (put3_heap _ _ _ (by omega)).trans h.z, (put3_heap _ _ _ (by omega)).trans h.e, ((h.b.setCell (p := ⟨_, 0, none⟩) (Nat.le_succ _) _).setCell (p := ⟨_, 1, none⟩) (Nat.le_succ _) _).setCell (p := ⟨_, 2, none⟩) (Nat.le_succ _) _⟩
/-- the results written -/
theorem DU.fin {w W : World} {a1 b1 c1 a2 b2 c2 : Int} (h : DU w W a1 b1 c1 a2 b2 c2) (A B C k n : Int) :
    MC (((put3 W (w.heap.size + 1 + 1) A B C).setCell ⟨w.heap.size + 1 + 1 + 1, 0, none⟩ (.int .i64 k)).setCell ⟨w.heap.size + 1 + 1 + 1, 1, none⟩ (.int .i64 n)) (w.heap.size + 1 + 1) A B C ∧ FC (((put3 W (w.heap.size + 1 + 1) A B C).setCell ⟨w.heap.size + 1 + 1 + 1, 0, none⟩ (.int .i64 k)).setCell ⟨w.heap.size + 1 + 1 + 1, 1, none⟩ (.int .i64 n)) (w.heap.size + 1 + 1 + 1) k n ∧ Below w.heap.size w (((put3 W (w.heap.size + 1 + 1) A B C).setCell ⟨w.heap.size + 1 + 1 + 1, 0, none⟩ (.int .i64 k)).setCell ⟨w.heap.size + 1 + 1 + 1, 1, none⟩ (.int .i64 n)) := by
  have l2 : w.heap.size ≤ w.heap.size + 1 + 1 := by omega
  have l3 : w.heap.size ≤ w.heap.size + 1 + 1 + 1 := by omega
  refine ⟨((h.z.put A B C).other (by show w.heap.size + 1 + 1 + 1 ≠ _; omega) _).other (by show w.heap.size + 1 + 1 + 1 ≠ _; omega) _, ?_, ?_⟩
  · have : FC (put3 W (w.heap.size + 1 + 1) A B C) (w.heap.size + 1 + 1 + 1) 0 0 := (put3_heap _ _ _ (by omega)).trans h.e
    exact (this.set0 k).set1 n
  · exact ((((h.b.setCell (p := ⟨_, 0, none⟩) l2 _).setCell (p := ⟨_, 1, none⟩) l2 _).setCell (p := ⟨_, 2, none⟩) l2 _).setCell (p := ⟨_, 0, none⟩) l3 _).setCell (p := ⟨_, 1, none⟩) l3 _

/-- what Compose answers -/
def RetCompose (w : World) (a1 b1 c1 a2 b2 c2 : Int) : Ending → World → Prop := fun e w' => ∃ A B C k n : Int, e = .returned (.tuple #[.agg #[.int .i64 A, .int .i64 B, .int .i64 C], .agg #[.int .i64 k, .int .i64 n]]) ∧
  ((k ≠ 0 ∧ A = 0 ∧ B = 0 ∧ C = 0 ∧ ((k, n) = if (formF a1 b1 c1).1 ≠ 0 then formF a1 b1 c1 else if (formF a2 b2 c2).1 ≠ 0 then formF a2 b2 c2 else (8, 1)) ∧ ((formF a1 b1 c1).1 = 0 → (formF a2 b2 c2).1 = 0 → b1 * b1 - 4 * a1 * c1 ≠ b2 * b2 - 4 * a2 * c2)) ∨
   (k = 0 ∧ n = 0 ∧ (formF a1 b1 c1).1 = 0 ∧ (formF a2 b2 c2).1 = 0 ∧ b1 * b1 - 4 * a1 * c1 = b2 * b2 - 4 * a2 * c2 ∧ RedF A B C ∧ b1 * b1 - 4 * a1 * c1 = B * B - 4 * A * C ∧ Int.gcd A (Int.gcd B C) = 1 ∧ Sim (b1 * b1 - 4 * a1 * c1) (Pr (b1 * b1 - 4 * a1 * c1) (Lf a1 b1) (Lf a2 b2)) (Lf A B))) ∧ Below w.heap.size w w'

set_option maxRecDepth 100000 in
set_option maxHeartbeats 6400000 in
theorem Compose_f1 (a1 b1 c1 a2 b2 c2 : Int) (w : World) (h1 : (formF a1 b1 c1).1 ≠ 0) : Calls Try.prog 14 #[.agg #[.int .i64 a1, .int .i64 b1, .int .i64 c1], .agg #[.int .i64 a2, .int .i64 b2, .int .i64 c2]] w (RetCompose w a1 b1 c1 a2 b2 c2) := by
  have CK := fun W => hide (check_any a1 b1 c1 W)
  unfold RetFault at CK
  have H1 := hide h1
  obtain ⟨k, n, hkn⟩ : ∃ k n, formF a1 b1 c1 = (k, n) := ⟨_, _, rfl⟩
  have HKN := hide hkn
  rw [hkn] at CK h1
  simp only [fv] at CK
  simp only at h1
  have H0 := hide (DB.start w a1 b1 c1 a2 b2 c2)
  have k1 : (k != 0) = true := by simpa using h1
  have k2 : decide (k = 0) = false := by simpa using h1
  clear hkn
  go_enter Try.func14, Try.ntmps14
  go_wp2_with fail
  refine wp_loop_rounds 3 ?_
  rw [rounds_succ]
  go_wp2_with fail
  refine (CK _).out.mono ?_
  rintro e w1 ⟨rfl, hb⟩
  have H2 := hide (H0.out.below (below_new hb))
  obtain ⟨⟨a0, a1', a2'⟩, ⟨b0, b1', b2'⟩, ⟨c0, c1', c2'⟩, d0, d1, d2⟩ := H2.out.cells
  have hl1 := H2.out.2.2.2.2.1.lt
  have F1 := FC.made w1 k n
  obtain ⟨x0, x1, _, _⟩ := F1.cells
  clear hb
  go_upto_region 6 with (fail)
  have D2 := hide (H2.out.du.below (bel_obj w1 (.cells #[.int .i64 k, .int .i64 n] 26)))
  have hq : w.heap.size + 1 + 1 + 1 + 1 < w1.heap.size := hl1
  obtain ⟨W2, hW2⟩ : ∃ Z, w1.alloc (.cells #[.int .i64 k, .int .i64 n] 26) = Z := ⟨_, rfl⟩
  rw [hW2] at F1 D2 x0 x1
  (try rw [hW2])
  obtain ⟨q, hqq⟩ : ∃ q, w1.heap.size = q := ⟨_, rfl⟩
  rw [hqq] at F1 x0 x1 hq
  (try rw [hqq])
  have FIN := hide (D2.out.fin 0 0 0 k n)
  have z0 := D2.out.z.frozen 0
  have z1 := D2.out.z.frozen 1
  have z2 := D2.out.z.frozen 2
  obtain ⟨v0, v1, v2⟩ := D2.out.z.cells
  obtain ⟨u0, u1, e0, e1⟩ := D2.out.e.cells
  have X1 : FC (put3 W2 (w.heap.size + 1 + 1) 0 0 0) q k n := (put3_heap _ _ _ (by omega)).trans F1
  have E1 : FC (put3 W2 (w.heap.size + 1 + 1) 0 0 0) (w.heap.size + 1 + 1 + 1) 0 0 := (put3_heap _ _ _ (by omega)).trans D2.out.e
  obtain ⟨s0, s1, _, _⟩ := X1.cells
  obtain ⟨t0, t1, t2, t3⟩ := E1.cells
  unfold put3 at s0 s1 t0 t1 t2 t3
  clear X1 E1 hW2 hqq F1 a0 a1' a2' b0 b1' b2' c0 c1' c2' d0 d1 d2 CK
  unfold put3 at FIN
  go_region
  generalize hX : World.setCell _ _ _ = w9
  have F := FIN.out
  rw [hX] at F
  clear hX FIN z0 z1 z2 v0 v1 v2 u0 u1 e0 e1 s0 s1 t0 t1 t2 t3
  obtain ⟨F1, F2, F3⟩ := F
  obtain ⟨G0, G1, G2⟩ := F1.drew.cells
  obtain ⟨G3, G4, _, _⟩ := F2.drew.cells
  go_wp2_with fail
  exact bodyPost_ret (v := .tuple #[.agg #[.int .i64 0, .int .i64 0, .int .i64 0], .agg #[.int .i64 k, .int .i64 n]]) (by simp [results, Try.results14, go_sem, G0, G1, G2, G3, G4]) rfl ⟨0, 0, 0, k, n, rfl, .inl ⟨h1, rfl, rfl, rfl, by rw [if_pos H1.out, HKN.out], fun h => absurd h H1.out⟩, below_drewN F3 1⟩

set_option maxRecDepth 100000 in
set_option maxHeartbeats 6400000 in
theorem Compose_f2 (a1 b1 c1 a2 b2 c2 : Int) (w : World) (h1 : (formF a1 b1 c1).1 = 0) (h2 : (formF a2 b2 c2).1 ≠ 0) : Calls Try.prog 14 #[.agg #[.int .i64 a1, .int .i64 b1, .int .i64 c1], .agg #[.int .i64 a2, .int .i64 b2, .int .i64 c2]] w (RetCompose w a1 b1 c1 a2 b2 c2) := by
  have CK := fun W => hide (check_any a1 b1 c1 W)
  unfold RetFault at CK
  have H1 := hide h1
  have q1 := (formF_zero h1).1
  rw [q1] at CK
  simp only [fv] at CK
  have H0 := hide (DB.start w a1 b1 c1 a2 b2 c2)
  have CK2 := fun W => hide (check_any a2 b2 c2 W)
  unfold RetFault at CK2
  have H9 := hide h2
  obtain ⟨k, n, hkn⟩ : ∃ k n, formF a2 b2 c2 = (k, n) := ⟨_, _, rfl⟩
  have HKN := hide hkn
  rw [hkn] at CK2 h2
  simp only [fv] at CK2
  simp only at h2
  have k1 : (k != 0) = true := by simpa using h2
  have k2 : decide (k = 0) = false := by simpa using h2
  clear hkn
  clear h1 q1
  go_enter Try.func14, Try.ntmps14
  go_wp2_with fail
  refine wp_loop_rounds 3 ?_
  rw [rounds_succ]
  go_wp2_with fail
  refine (CK _).out.mono ?_
  rintro e w1 ⟨rfl, hb⟩
  have H2 := hide (H0.out.below (below_new hb))
  obtain ⟨⟨a0, a1', a2'⟩, ⟨b0, b1', b2'⟩, ⟨c0, c1', c2'⟩, d0, d1, d2⟩ := H2.out.cells
  have hl1 := H2.out.2.2.2.2.1.lt
  clear hb
  go_wp2_with fail
  rw [rounds_succ]
  go_wp2_with fail
  refine (CK2 _).out.mono ?_
  rintro e w2 ⟨rfl, hb⟩
  have H3 := hide (H2.out.below (below_new (below_new hb)))
  clear hb a0 a1' a2' b0 b1' b2' c0 c1' c2' d0 d1 d2 hl1
  obtain ⟨⟨a0, a1', a2'⟩, ⟨b0, b1', b2'⟩, ⟨c0, c1', c2'⟩, d0, d1, d2⟩ := H3.out.cells
  have hl2 := H3.out.2.2.2.2.1.lt
  have F1 := FC.made w2 k n
  obtain ⟨x0, x1, _, _⟩ := F1.cells
  go_upto_region 6 with (fail)
  have D2 := hide (H3.out.du.below (bel_obj w2 (.cells #[.int .i64 k, .int .i64 n] 26)))
  have hq : w.heap.size + 1 + 1 + 1 + 1 < w2.heap.size := hl2
  obtain ⟨W2, hW2⟩ : ∃ Z, w2.alloc (.cells #[.int .i64 k, .int .i64 n] 26) = Z := ⟨_, rfl⟩
  rw [hW2] at F1 D2 x0 x1
  (try rw [hW2])
  obtain ⟨q, hqq⟩ : ∃ q, w2.heap.size = q := ⟨_, rfl⟩
  rw [hqq] at F1 x0 x1 hq
  (try rw [hqq])
  have FIN := hide (D2.out.fin 0 0 0 k n)
  have z0 := D2.out.z.frozen 0
  have z1 := D2.out.z.frozen 1
  have z2 := D2.out.z.frozen 2
  obtain ⟨v0, v1, v2⟩ := D2.out.z.cells
  obtain ⟨u0, u1, e0, e1⟩ := D2.out.e.cells
  have X1 : FC (put3 W2 (w.heap.size + 1 + 1) 0 0 0) q k n := (put3_heap _ _ _ (by omega)).trans F1
  have E1 : FC (put3 W2 (w.heap.size + 1 + 1) 0 0 0) (w.heap.size + 1 + 1 + 1) 0 0 := (put3_heap _ _ _ (by omega)).trans D2.out.e
  obtain ⟨s0, s1, _, _⟩ := X1.cells
  obtain ⟨t0, t1, t2, t3⟩ := E1.cells
  unfold put3 at s0 s1 t0 t1 t2 t3
  clear X1 E1 hW2 hqq F1 a0 a1' a2' b0 b1' b2' c0 c1' c2' d0 d1 d2 CK CK2
  unfold put3 at FIN
  go_region
  generalize hX : World.setCell _ _ _ = w9
  have F := FIN.out
  rw [hX] at F
  clear hX FIN z0 z1 z2 v0 v1 v2 u0 u1 e0 e1 s0 s1 t0 t1 t2 t3
  obtain ⟨F1, F2, F3⟩ := F
  obtain ⟨G0, G1, G2⟩ := F1.drew.cells
  obtain ⟨G3, G4, _, _⟩ := F2.drew.cells
  go_wp2_with fail
  exact bodyPost_ret (v := .tuple #[.agg #[.int .i64 0, .int .i64 0, .int .i64 0], .agg #[.int .i64 k, .int .i64 n]]) (by simp [results, Try.results14, go_sem, G0, G1, G2, G3, G4]) rfl ⟨0, 0, 0, k, n, rfl, .inl ⟨h2, rfl, rfl, rfl, by rw [if_neg (fun h => h H1.out), if_pos H9.out, HKN.out], fun _ h => absurd h H9.out⟩, below_drewN F3 1⟩

set_option maxRecDepth 100000 in
set_option maxHeartbeats 6400000 in
theorem Compose_d (a1 b1 c1 a2 b2 c2 : Int) (w : World) (h1 : (formF a1 b1 c1).1 = 0) (h2 : (formF a2 b2 c2).1 = 0) (hd : b1 * b1 - 4 * a1 * c1 ≠ b2 * b2 - 4 * a2 * c2) : Calls Try.prog 14 #[.agg #[.int .i64 a1, .int .i64 b1, .int .i64 c1], .agg #[.int .i64 a2, .int .i64 b2, .int .i64 c2]] w (RetCompose w a1 b1 c1 a2 b2 c2) := by
  have CK := fun W => hide (check_any a1 b1 c1 W)
  unfold RetFault at CK
  have H1 := hide h1
  have q1 := (formF_zero h1).1
  rw [q1] at CK
  simp only [fv] at CK
  have H0 := hide (DB.start w a1 b1 c1 a2 b2 c2)
  have CK2 := fun W => hide (check_any a2 b2 c2 W)
  unfold RetFault at CK2
  have H9 := hide h2
  have q2 := (formF_zero h2)
  rw [q2.1] at CK2
  simp only [fv] at CK2
  obtain ⟨_, p1, p2, p3, p4, p5, p6, p7⟩ := formF_zero h1
  obtain ⟨_, o1, o2, o3, o4, o5, o6, o7⟩ := q2
  have CD1 := fun W => hide (disc_any a1 b1 c1 W (by omega) (by omega) (by omega))
  have CD2 := fun W => hide (disc_any a2 b2 c2 W (by omega) (by omega) (by omega))
  have HD := hide hd
  have CF := fun W => hide (qfault_any 8 1 W)
  obtain ⟨x, hx⟩ : ∃ x, b1 * b1 - 4 * a1 * c1 = x := ⟨_, rfl⟩
  obtain ⟨y, hy⟩ : ∃ y, b2 * b2 - 4 * a2 * c2 = y := ⟨_, rfl⟩
  rw [hx] at CD1 hd
  rw [hy] at CD2 hd
  have k1 : (x != y) = true := by simpa using hd
  have k2 : decide (x = y) = false := by simpa using hd
  clear hx hy p1 p2 p3 p4 p5 p6 p7 o1 o2 o3 o4 o5 o6 o7 h2 hd
  clear h1 q1
  go_enter Try.func14, Try.ntmps14
  go_wp2_with fail
  refine wp_loop_rounds 3 ?_
  rw [rounds_succ]
  go_wp2_with fail
  refine (CK _).out.mono ?_
  rintro e w1 ⟨rfl, hb⟩
  have H2 := hide (H0.out.below (below_new hb))
  obtain ⟨⟨a0, a1', a2'⟩, ⟨b0, b1', b2'⟩, ⟨c0, c1', c2'⟩, d0, d1, d2⟩ := H2.out.cells
  have hl1 := H2.out.2.2.2.2.1.lt
  clear hb
  go_wp2_with fail
  rw [rounds_succ]
  go_wp2_with fail
  refine (CK2 _).out.mono ?_
  rintro e w2 ⟨rfl, hb⟩
  have H3 := hide (H2.out.below (below_new (below_new hb)))
  clear hb a0 a1' a2' b0 b1' b2' c0 c1' c2' d0 d1 d2 hl1
  obtain ⟨⟨a0, a1', a2'⟩, ⟨b0, b1', b2'⟩, ⟨c0, c1', c2'⟩, d0, d1, d2⟩ := H3.out.cells
  have hl2 := H3.out.2.2.2.2.1.lt
  go_wp2_with fail
  rw [rounds_succ]
  go_wp2_with fail
  have H4 := hide (H3.out.du.below (bel_obj w2 (.cells #[.int .i64 0, .int .i64 0] 26)))
  have KD := fun W (h : DU w W a1 b1 c1 a2 b2 c2) => hide (show (W.cell? ⟨w.heap.size, 0, none⟩ = some (.int .i64 a1) ∧ W.cell? ⟨w.heap.size, 1, none⟩ = some (.int .i64 b1) ∧ W.cell? ⟨w.heap.size, 2, none⟩ = some (.int .i64 c1)) ∧ (W.cell? ⟨w.heap.size + 1, 0, none⟩ = some (.int .i64 a2) ∧ W.cell? ⟨w.heap.size + 1, 1, none⟩ = some (.int .i64 b2) ∧ W.cell? ⟨w.heap.size + 1, 2, none⟩ = some (.int .i64 c2)) ∧ Hid (DU w W a1 b1 c1 a2 b2 c2) from ⟨h.f.cells, h.g.cells, h⟩)
  clear a0 a1' a2' b0 b1' b2' c0 c1' c2' d0 d1 d2
  obtain ⟨a0, a1', a2'⟩ := H4.out.f.cells
  obtain ⟨b0, b1', b2'⟩ := H4.out.g.cells
  go_region_held3 (fun W => (W.cell? ⟨w.heap.size, 0, none⟩ = some (.int .i64 a1) ∧ W.cell? ⟨w.heap.size, 1, none⟩ = some (.int .i64 b1) ∧ W.cell? ⟨w.heap.size, 2, none⟩ = some (.int .i64 c1)) ∧ (W.cell? ⟨w.heap.size + 1, 0, none⟩ = some (.int .i64 a2) ∧ W.cell? ⟨w.heap.size + 1, 1, none⟩ = some (.int .i64 b2) ∧ W.cell? ⟨w.heap.size + 1, 2, none⟩ = some (.int .i64 c2)) ∧ Hid (DU w W a1 b1 c1 a2 b2 c2)) (first | exact (KD _ (H4.out.below (below_drewN (Below.refl _ _) 1))).out | (have hx := ‹(_ ∧ _ ∧ _) ∧ (_ ∧ _ ∧ _) ∧ Hid (DU w _ _ _ _ _ _ _)›; have hy := hx.2.2.out.below hb; clear hx hb; exact (KD _ hy).out)) (first | (go_at_call 16; first | (with_reducible refine (CD1 _).out.mono ?_); (rintro e w4 ⟨rfl, hb⟩) | (with_reducible refine (CD2 _).out.mono ?_); (rintro e w4 ⟨rfl, hb⟩)))
  rename_i hS
  have H5 := hS.2.2
  clear hS hb a0 a1' a2' b0 b1' b2' hl2 KD CK CK2
  go_wp2_with fail
  refine (CF _).out.mono ?_
  rintro e w5 ⟨rfl, hb⟩
  have H6 := hide (H5.out.below hb)
  have FIN := hide (H6.out.fin 0 0 0 8 1)
  have z0 := H6.out.z.frozen 0
  have z1 := H6.out.z.frozen 1
  have z2 := H6.out.z.frozen 2
  obtain ⟨v0, v1, v2⟩ := H6.out.z.cells
  obtain ⟨u0, u1, e0, e1⟩ := H6.out.e.cells
  have E1 : FC (put3 w5 (w.heap.size + 1 + 1) 0 0 0) (w.heap.size + 1 + 1 + 1) 0 0 := (put3_heap _ _ _ (by omega)).trans H6.out.e
  obtain ⟨t0, t1, t2, t3⟩ := E1.cells
  unfold put3 at t0 t1 t2 t3
  unfold put3 at FIN
  clear hb E1
  go_wp2_with fail
  obtain ⟨F1, F2, F3⟩ := FIN.out
  obtain ⟨G0, G1, G2⟩ := F1.cells
  obtain ⟨G3, G4, _, _⟩ := F2.cells
  exact bodyPost_ret (v := .tuple #[.agg #[.int .i64 0, .int .i64 0, .int .i64 0], .agg #[.int .i64 8, .int .i64 1]]) (by simp [results, Try.results14, go_sem, G0, G1, G2, G3, G4]) rfl ⟨0, 0, 0, 8, 1, rfl, .inl ⟨by omega, rfl, rfl, rfl, by rw [if_neg (fun h => h H1.out), if_neg (fun h => h H9.out)], fun _ _ => HD.out⟩, F3⟩

/-- what the reduction of a form brings -/
theorem red_of {a b c A B C p q r s : Int} (h : RInv a b c A B C p q r s) (h1 : -A < B) (h2 : B ≤ A) (h3 : A < C ∨ A = C ∧ 0 ≤ B) : RedF A B C ∧ B * B - 4 * A * C = b * b - 4 * a * c ∧ (∀ t : Int, (t ∣ A ∧ t ∣ B ∧ t ∣ C) ↔ (t ∣ a ∧ t ∣ b ∧ t ∣ c)) ∧ (a ≠ 0 → Sim (b * b - 4 * a * c) (Lf a b) (Lf A B)) := by
  have ha := h.a1
  exact ⟨⟨by omega, h1, h2, by omega, by omega⟩, h.d, h.g, fun h0 => sim_turn (c := c) h.det (by rw [h.va]; rfl) h.vb h0 (by omega)⟩
theorem gcd_same {a b c A B C : Int} (g : ∀ t : Int, (t ∣ A ∧ t ∣ B ∧ t ∣ C) ↔ (t ∣ a ∧ t ∣ b ∧ t ∣ c)) (h : Int.gcd a (Int.gcd b c) = 1) : Int.gcd A (Int.gcd B C) = 1 := by
  have h1 : (Int.gcd A (Int.gcd B C) : Int) ∣ A ∧ (Int.gcd A (Int.gcd B C) : Int) ∣ B ∧ (Int.gcd A (Int.gcd B C) : Int) ∣ C :=
    ⟨Int.gcd_dvd_left .., Int.dvd_trans (Int.gcd_dvd_right ..) (Int.gcd_dvd_left ..), Int.dvd_trans (Int.gcd_dvd_right ..) (Int.gcd_dvd_right ..)⟩
  obtain ⟨k1, k2, k3⟩ := (g _).1 h1
  have h2 : (Int.gcd A (Int.gcd B C) : Int) ∣ (Int.gcd a (Int.gcd b c) : Int) := Int.dvd_coe_gcd k1 (Int.dvd_coe_gcd k2 k3)
  rw [h] at h2
  have h3 : Int.gcd A (Int.gcd B C) ∣ 1 := by exact_mod_cast h2
  exact Nat.dvd_one.1 h3
theorem compose_ready {a1 b1 c1 a2 b2 c2 A1 B1 C1 A2 B2 C2 : Int} (hp : 1 ≤ a1 ∧ 1 ≤ a2 ∧ b1 * b1 - 4 * a1 * c1 < 0 ∧ Int.gcd a1 (Int.gcd b1 c1) = 1 ∧ Int.gcd a2 (Int.gcd b2 c2) = 1 ∧ -4000000000000 ≤ b1 * b1 - 4 * a1 * c1) (hd : b1 * b1 - 4 * a1 * c1 = b2 * b2 - 4 * a2 * c2)
    (r1 : RedF A1 B1 C1 ∧ B1 * B1 - 4 * A1 * C1 = b1 * b1 - 4 * a1 * c1 ∧ (∀ t : Int, (t ∣ A1 ∧ t ∣ B1 ∧ t ∣ C1) ↔ (t ∣ a1 ∧ t ∣ b1 ∧ t ∣ c1)) ∧ (a1 ≠ 0 → Sim (b1 * b1 - 4 * a1 * c1) (Lf a1 b1) (Lf A1 B1)))
    (r2 : RedF A2 B2 C2 ∧ B2 * B2 - 4 * A2 * C2 = b2 * b2 - 4 * a2 * c2 ∧ (∀ t : Int, (t ∣ A2 ∧ t ∣ B2 ∧ t ∣ C2) ↔ (t ∣ a2 ∧ t ∣ b2 ∧ t ∣ c2)) ∧ (a2 ≠ 0 → Sim (b2 * b2 - 4 * a2 * c2) (Lf a2 b2) (Lf A2 B2))) :
    b1 * b1 - 4 * a1 * c1 = B1 * B1 - 4 * A1 * C1 ∧ b1 * b1 - 4 * a1 * c1 = B2 * B2 - 4 * A2 * C2 ∧ Int.gcd A1 (Int.gcd B1 C1) = 1 ∧ Int.gcd A2 (Int.gcd B2 C2) = 1 :=
  ⟨r1.2.1.symm, by rw [hd, r2.2.1], gcd_same r1.2.2.1 hp.2.2.2.1, gcd_same r2.2.2.1 hp.2.2.2.2.1⟩
theorem compose_done {a1 b1 c1 a2 b2 c2 A1 B1 C1 A2 B2 C2 A B C : Int} (hp : 1 ≤ a1 ∧ 1 ≤ a2 ∧ b1 * b1 - 4 * a1 * c1 < 0 ∧ Int.gcd a1 (Int.gcd b1 c1) = 1 ∧ Int.gcd a2 (Int.gcd b2 c2) = 1 ∧ -4000000000000 ≤ b1 * b1 - 4 * a1 * c1) (hd : b1 * b1 - 4 * a1 * c1 = b2 * b2 - 4 * a2 * c2)
    (r1 : RedF A1 B1 C1 ∧ B1 * B1 - 4 * A1 * C1 = b1 * b1 - 4 * a1 * c1 ∧ (∀ t : Int, (t ∣ A1 ∧ t ∣ B1 ∧ t ∣ C1) ↔ (t ∣ a1 ∧ t ∣ b1 ∧ t ∣ c1)) ∧ (a1 ≠ 0 → Sim (b1 * b1 - 4 * a1 * c1) (Lf a1 b1) (Lf A1 B1)))
    (r2 : RedF A2 B2 C2 ∧ B2 * B2 - 4 * A2 * C2 = b2 * b2 - 4 * a2 * c2 ∧ (∀ t : Int, (t ∣ A2 ∧ t ∣ B2 ∧ t ∣ C2) ↔ (t ∣ a2 ∧ t ∣ b2 ∧ t ∣ c2)) ∧ (a2 ≠ 0 → Sim (b2 * b2 - 4 * a2 * c2) (Lf a2 b2) (Lf A2 B2)))
    (hred : RedF A B C) (hdd : b1 * b1 - 4 * a1 * c1 = B * B - 4 * A * C) (hsim : Sim (b1 * b1 - 4 * a1 * c1) (Pr (b1 * b1 - 4 * a1 * c1) (Lf A1 B1) (Lf A2 B2)) (Lf A B)) :
    RedF A B C ∧ b1 * b1 - 4 * a1 * c1 = B * B - 4 * A * C ∧ Int.gcd A (Int.gcd B C) = 1 ∧ Sim (b1 * b1 - 4 * a1 * c1) (Pr (b1 * b1 - 4 * a1 * c1) (Lf a1 b1) (Lf a2 b2)) (Lf A B) := by
  have s1 := r1.2.2.2 (by omega)
  have s2 := r2.2.2.2 (by omega)
  rw [← hd] at s2
  have S := (Sim.prod2 hp.2.2.1 s1 s2).trans hp.2.2.1 hsim
  exact ⟨hred, hdd, prim_comp hp.2.2.1 rfl hd hdd (by omega) (by omega) hp.2.2.2.1 hp.2.2.2.2.1 S, S⟩

set_option maxRecDepth 100000 in
set_option maxHeartbeats 6400000 in
theorem Compose_ok (a1 b1 c1 a2 b2 c2 : Int) (w : World) (h1 : (formF a1 b1 c1).1 = 0) (h2 : (formF a2 b2 c2).1 = 0) (hd : b1 * b1 - 4 * a1 * c1 = b2 * b2 - 4 * a2 * c2) : Calls Try.prog 14 #[.agg #[.int .i64 a1, .int .i64 b1, .int .i64 c1], .agg #[.int .i64 a2, .int .i64 b2, .int .i64 c2]] w (RetCompose w a1 b1 c1 a2 b2 c2) := by
  have CK := fun W => hide (check_any a1 b1 c1 W)
  unfold RetFault at CK
  have H1 := hide h1
  have q1 := (formF_zero h1).1
  rw [q1] at CK
  simp only [fv] at CK
  have H0 := hide (DB.start w a1 b1 c1 a2 b2 c2)
  have CK2 := fun W => hide (check_any a2 b2 c2 W)
  unfold RetFault at CK2
  have H9 := hide h2
  have q2 := (formF_zero h2)
  rw [q2.1] at CK2
  simp only [fv] at CK2
  obtain ⟨_, p1, p2, p3, p4, p5, p6, p7⟩ := formF_zero h1
  obtain ⟨_, o1, o2, o3, o4, o5, o6, o7⟩ := q2
  have CD1 := fun W => hide (disc_any a1 b1 c1 W (by omega) (by omega) (by omega))
  have CD2 := fun W => hide (disc_any a2 b2 c2 W (by omega) (by omega) (by omega))
  have HD := hide hd
  have CR1 := fun W => hide (reduce_any a1 b1 c1 W (by omega) (by omega) (by omega) (by omega) p6)
  have CR2 := fun W => hide (reduce_any a2 b2 c2 W (by omega) (by omega) (by omega) (by omega) o6)
  have hlow : -4000000000000 ≤ b1 * b1 - 4 * a1 * c1 := by
    have h1 : a1 * c1 ≤ 1000000 * 1000000 := Int.mul_le_mul (by omega) (by omega) (by omega) (by omega)
    have h2 := sq_nn b1
    have h3 : 4 * a1 * c1 = 4 * (a1 * c1) := Int.mul_assoc ..
    omega
  have HP := hide (And.intro p4 (And.intro o4 (And.intro p6 (And.intro p7 (And.intro o7 hlow)))))
  obtain ⟨x, hx⟩ : ∃ x, b1 * b1 - 4 * a1 * c1 = x := ⟨_, rfl⟩
  have hy : b2 * b2 - 4 * a2 * c2 = x := by rw [← hd, hx]
  rw [hx] at CD1
  rw [hy] at CD2
  clear hx hy p1 p2 p3 p4 p5 p6 p7 o1 o2 o3 o4 o5 o6 o7 h2 hd hlow
  clear h1 q1
  go_enter Try.func14, Try.ntmps14
  go_wp2_with fail
  refine wp_loop_rounds 3 ?_
  rw [rounds_succ]
  go_wp2_with fail
  refine (CK _).out.mono ?_
  rintro e w1 ⟨rfl, hb⟩
  have H2 := hide (H0.out.below (below_new hb))
  obtain ⟨⟨a0, a1', a2'⟩, ⟨b0, b1', b2'⟩, ⟨c0, c1', c2'⟩, d0, d1, d2⟩ := H2.out.cells
  have hl1 := H2.out.2.2.2.2.1.lt
  clear hb
  go_wp2_with fail
  rw [rounds_succ]
  go_wp2_with fail
  refine (CK2 _).out.mono ?_
  rintro e w2 ⟨rfl, hb⟩
  have H3 := hide (H2.out.below (below_new (below_new hb)))
  clear hb a0 a1' a2' b0 b1' b2' c0 c1' c2' d0 d1 d2 hl1
  obtain ⟨⟨a0, a1', a2'⟩, ⟨b0, b1', b2'⟩, ⟨c0, c1', c2'⟩, d0, d1, d2⟩ := H3.out.cells
  have hl2 := H3.out.2.2.2.2.1.lt
  go_wp2_with fail
  rw [rounds_succ]
  go_wp2_with fail
  have H4 := hide (H3.out.du.below (bel_obj w2 (.cells #[.int .i64 0, .int .i64 0] 26)))
  have KD := fun W (h : DU w W a1 b1 c1 a2 b2 c2) => hide (show (W.cell? ⟨w.heap.size, 0, none⟩ = some (.int .i64 a1) ∧ W.cell? ⟨w.heap.size, 1, none⟩ = some (.int .i64 b1) ∧ W.cell? ⟨w.heap.size, 2, none⟩ = some (.int .i64 c1)) ∧ (W.cell? ⟨w.heap.size + 1, 0, none⟩ = some (.int .i64 a2) ∧ W.cell? ⟨w.heap.size + 1, 1, none⟩ = some (.int .i64 b2) ∧ W.cell? ⟨w.heap.size + 1, 2, none⟩ = some (.int .i64 c2)) ∧ Hid (DU w W a1 b1 c1 a2 b2 c2) from ⟨h.f.cells, h.g.cells, h⟩)
  clear a0 a1' a2' b0 b1' b2' c0 c1' c2' d0 d1 d2
  obtain ⟨a0, a1', a2'⟩ := H4.out.f.cells
  obtain ⟨b0, b1', b2'⟩ := H4.out.g.cells
  go_region_held3 (fun W => (W.cell? ⟨w.heap.size, 0, none⟩ = some (.int .i64 a1) ∧ W.cell? ⟨w.heap.size, 1, none⟩ = some (.int .i64 b1) ∧ W.cell? ⟨w.heap.size, 2, none⟩ = some (.int .i64 c1)) ∧ (W.cell? ⟨w.heap.size + 1, 0, none⟩ = some (.int .i64 a2) ∧ W.cell? ⟨w.heap.size + 1, 1, none⟩ = some (.int .i64 b2) ∧ W.cell? ⟨w.heap.size + 1, 2, none⟩ = some (.int .i64 c2)) ∧ Hid (DU w W a1 b1 c1 a2 b2 c2)) (first | exact (KD _ (H4.out.below (below_drewN (Below.refl _ _) 1))).out | (have hx := ‹(_ ∧ _ ∧ _) ∧ (_ ∧ _ ∧ _) ∧ Hid (DU w _ _ _ _ _ _ _)›; have hy := hx.2.2.out.below hb; clear hx hb; exact (KD _ hy).out)) (first | (go_at_call 16; first | (with_reducible refine (CD1 _).out.mono ?_); (rintro e w4 ⟨rfl, hb⟩) | (with_reducible refine (CD2 _).out.mono ?_); (rintro e w4 ⟨rfl, hb⟩)))
  rename_i hS
  have H5 := hS.2.2
  clear hS hb a0 a1' a2' b0 b1' b2' hl2 KD CK CK2
  obtain ⟨a0, a1', a2'⟩ := H5.out.f.cells
  obtain ⟨b0, b1', b2'⟩ := H5.out.g.cells
  go_wp2_with fail
  refine (CR1 _).out.mono ?_
  rintro e w5 ⟨A1, B1, C1, m1, m2, m3, m4, rfl, hI1, hl1, hh1, ha1, hb⟩
  have H6 := H5.out.below hb
  have f0 := H6.f.frozen 0
  have f1 := H6.f.frozen 1
  have f2 := H6.f.frozen 2
  have H7 := hide (H6.put1 A1 B1 C1)
  clear hb a0 a1' a2' b0 b1' b2'
  obtain ⟨a0, a1', a2'⟩ := H6.f.cells
  obtain ⟨b0, b1', b2'⟩ := H7.out.g.cells
  have R1 := hide (red_of hI1 hl1 hh1 ha1)
  unfold put3 at H7 b0 b1' b2'
  clear H6 hI1 hl1 hh1 ha1
  go_wp2_with fail
  refine (CR2 _).out.mono ?_
  rintro e w6 ⟨A2, B2, C2, m5, m6, m7, m8, rfl, hI1, hl1, hh1, ha1, hb⟩
  have H8 := H7.out.below hb
  have R2 := hide (red_of hI1 hl1 hh1 ha1)
  clear hb a0 a1' a2' b0 b1' b2' f0 f1 f2 hI1 hl1 hh1 ha1 H7
  have f0 := H8.g.frozen 0
  have f1 := H8.g.frozen 1
  have f2 := H8.g.frozen 2
  obtain ⟨b0, b1', b2'⟩ := H8.g.cells
  have H10 := hide (H8.put2 A2 B2 C2)
  obtain ⟨a0, a1', a2'⟩ := H10.out.f.cells
  obtain ⟨d0, d1, d2⟩ := H10.out.g.cells
  unfold put3 at H10 a0 a1' a2' d0 d1 d2
  have HCO := hide (compose_ready HP.out HD.out R1.out R2.out)
  have CC := fun W => hide (compose_any A1 B1 C1 A2 B2 C2 (b1 * b1 - 4 * a1 * c1) W R1.out.1 R2.out.1 HCO.out.1 HCO.out.2.1 HP.out.2.2.2.2.2 HCO.out.2.2.1 HCO.out.2.2.2)
  clear H8
  go_wp2_with fail
  refine (CC _).out.mono ?_
  rintro e w7 ⟨A, B, C, rfl, hred, hdd, hsim, hb⟩
  have H11 := hide (H10.out.below hb)
  have HEND := hide (compose_done HP.out HD.out R1.out R2.out hred hdd hsim)
  clear hb hred hdd hsim CC H10 a0 a1' a2' b0 b1' b2' d0 d1 d2 f0 f1 f2
  have FIN := hide (H11.out.fin A B C 0 0)
  have z0 := H11.out.z.frozen 0
  have z1 := H11.out.z.frozen 1
  have z2 := H11.out.z.frozen 2
  obtain ⟨v0, v1, v2⟩ := H11.out.z.cells
  obtain ⟨u0, u1, e0, e1⟩ := H11.out.e.cells
  have E1 : FC (put3 w7 (w.heap.size + 1 + 1) A B C) (w.heap.size + 1 + 1 + 1) 0 0 := (put3_heap _ _ _ (by omega)).trans H11.out.e
  obtain ⟨t0, t1, t2, t3⟩ := E1.cells
  unfold put3 at t0 t1 t2 t3
  unfold put3 at FIN
  clear E1
  go_wp2_with fail
  obtain ⟨F1, F2, F3⟩ := FIN.out
  obtain ⟨G0, G1, G2⟩ := F1.cells
  obtain ⟨G3, G4, _, _⟩ := F2.cells
  exact bodyPost_ret (v := .tuple #[.agg #[.int .i64 A, .int .i64 B, .int .i64 C], .agg #[.int .i64 0, .int .i64 0]]) (by simp [results, Try.results14, go_sem, G0, G1, G2, G3, G4]) rfl ⟨A, B, C, 0, 0, rfl, .inr ⟨rfl, rfl, H1.out, H9.out, HD.out, HEND.out⟩, F3⟩

theorem Compose_any (a1 b1 c1 a2 b2 c2 : Int) (w : World) : Calls Try.prog 14 #[.agg #[.int .i64 a1, .int .i64 b1, .int .i64 c1], .agg #[.int .i64 a2, .int .i64 b2, .int .i64 c2]] w (RetCompose w a1 b1 c1 a2 b2 c2) := by
  by_cases h1 : (formF a1 b1 c1).1 = 0
  · by_cases h2 : (formF a2 b2 c2).1 = 0
    · by_cases hd : b1 * b1 - 4 * a1 * c1 = b2 * b2 - 4 * a2 * c2
      · exact Compose_ok a1 b1 c1 a2 b2 c2 w h1 h2 hd
      · exact Compose_d a1 b1 c1 a2 b2 c2 w h1 h2 hd
    · exact Compose_f2 a1 b1 c1 a2 b2 c2 w h1 h2
  · exact Compose_f1 a1 b1 c1 a2 b2 c2 w h1
end Go.Proofs.Ytkfjjljdhfjpbaa
