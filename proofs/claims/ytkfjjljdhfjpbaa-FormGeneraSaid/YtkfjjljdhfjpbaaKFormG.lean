/- The walks of reduce, compose and Compose at the document's example. -/
import Derived.Test.YtkfjjljdhfjpbaaKFormF
import Derived.Test.YtkfjjljdhfjpbaaKTimes
import Derived.Test.YtkfjjljdhfjpbaaKBezout
namespace Go.Proofs.Ytkfjjljdhfjpbaa
open Go.RowKit

set_option maxRecDepth 100000 in
set_option maxHeartbeats 6400000 in
theorem reduce_453 (w : World) : Calls Try.prog 18 #[.agg #[.int .i64 4, .int .i64 5, .int .i64 3]] w fun e w' => e = .returned (.tuple #[.agg #[.int .i64 2, .int .i64 (-1), .int .i64 3], .agg #[.int .i64 (-1), .int .i64 0, .int .i64 1, .int .i64 (-1)]]) ∧ Below w.heap.size w w' := by
  have C := fun W => hide (qfloor_any (-1) 8 W (by omega) (by omega) (by omega) (by omega))
  have C2 := fun W => hide (qfloor_any (-1) 4 W (by omega) (by omega) (by omega) (by omega))
  rw [show (-1 : Int) / 8 = -1 from by decide] at C
  rw [show (-1 : Int) / 4 = -1 from by decide] at C2
  go_enter Try.func18, Try.ntmps18
  go_wp2_with fail
  refine wp_loop_rounds 2 ?_
  rw [rounds_succ]
  go_wp2_with fail
  refine (C _).out.mono ?_
  rintro e w1 ⟨rfl, rfl⟩
  go_wp2_with fail
  rw [rounds_succ]
  go_wp2_with fail
  refine (C2 _).out.mono ?_
  rintro e w1 ⟨rfl, rfl⟩
  go_wp2_with fail
  go_region
  all_goals
    go_wp2_with fail
    refine bodyPost_ret (v := .tuple #[.agg #[.int .i64 2, .int .i64 (-1), .int .i64 3], .agg #[.int .i64 (-1), .int .i64 0, .int .i64 1, .int .i64 (-1)]]) (by simp [results, Try.results18, go_sem]) rfl ⟨rfl, ?_⟩
    go_grown

theorem bez_22 {g u v : Int} (h : BezOk 2 2 g u v) : g = 2 ∧ u = 0 ∧ v = 1 := by
  have h1 := h.gcd
  have h2 := h.eq
  have h3 := h.pos (by decide)
  rw [show Int.gcd 2 2 = 2 from by decide] at h1 h3
  have h4 : ((Int.natAbs 2 / 2 : Nat) : Int) = 1 := by decide
  rw [h4] at h3
  omega
theorem bez_12 {g u v : Int} (h : BezOk 1 2 g u v) : g = 1 ∧ u = 1 ∧ v = 0 := by
  have h1 := h.gcd
  have h2 := h.eq
  have h3 := h.pos (by decide)
  rw [show Int.gcd 1 2 = 1 from by decide] at h1 h3
  have h4 : ((Int.natAbs 2 / 1 : Nat) : Int) = 2 := by decide
  rw [h4] at h3
  omega

set_option maxRecDepth 100000 in
set_option maxHeartbeats 800000 in
theorem euclid_22 (w : World) : Calls Try.prog 32 #[.int .i64 2, .int .i64 2] w fun e w' => e = .returned (.tuple #[.int .i64 2, .int .i64 0, .int .i64 1]) ∧ Below w.heap.size w w' := by
  have C := fun W => hide (bezout_any 2 2 W)
  go_enter Try.func32, Try.ntmps32
  go_wp2_with fail
  refine (C _).out.mono ?_
  rintro e w1 ⟨g, u, v, rfl, hok, _, hb⟩
  obtain ⟨rfl, rfl, rfl⟩ := bez_22 (hok (by decide))
  rw [show lookK 0 [2, 2] = (0, 0) from by decide]
  simp only [fv]
  have HB := hide hb
  clear hb hok
  go_wp2_with fail
  go_ret3
  exact ⟨rfl, HB.out.alloc HB.out.size _⟩

set_option maxRecDepth 100000 in
set_option maxHeartbeats 800000 in
theorem euclid_12 (w : World) : Calls Try.prog 32 #[.int .i64 1, .int .i64 2] w fun e w' => e = .returned (.tuple #[.int .i64 1, .int .i64 1, .int .i64 0]) ∧ Below w.heap.size w w' := by
  have C := fun W => hide (bezout_any 1 2 W)
  go_enter Try.func32, Try.ntmps32
  go_wp2_with fail
  refine (C _).out.mono ?_
  rintro e w1 ⟨g, u, v, rfl, hok, _, hb⟩
  obtain ⟨rfl, rfl, rfl⟩ := bez_12 (hok (by decide))
  rw [show lookK 0 [1, 2] = (0, 0) from by decide]
  simp only [fv]
  have HB := hide hb
  clear hb hok
  go_wp2_with fail
  go_ret3
  exact ⟨rfl, HB.out.alloc HB.out.size _⟩

theorem MC.set0 {w : World} {g : Nat} {a b c : Int} (h : MC w g a b c) (x : Int) : MC (w.setCell ⟨g, 0, none⟩ (.int .i64 x)) g x b c := by
  unfold MC at h ⊢
  simp [World.setCell, Array.getElem?_modify, h]
theorem MC.set1 {w : World} {g : Nat} {a b c : Int} (h : MC w g a b c) (x : Int) : MC (w.setCell ⟨g, 1, none⟩ (.int .i64 x)) g a x c := by
  unfold MC at h ⊢
  simp [World.setCell, Array.getElem?_modify, h]
theorem MC.set2 {w : World} {g : Nat} {a b c : Int} (h : MC w g a b c) (x : Int) : MC (w.setCell ⟨g, 2, none⟩ (.int .i64 x)) g a b x := by
  unfold MC at h ⊢
  simp [World.setCell, Array.getElem?_modify, h]
theorem MC.other {w : World} {g : Nat} {a b c : Int} (h : MC w g a b c) {p : Addr} (hp : p.block ≠ g) (v : Value) : MC (w.setCell p v) g a b c := by
  unfold MC at h ⊢
  simp [World.setCell, Array.getElem?_modify, hp, h]
theorem MC.frozen {w : World} {g : Nat} {a b c : Int} (h : MC w g a b c) (k : Nat) : w.frozen? ⟨g, k, none⟩ = false := by
  unfold MC at h
  simp [World.frozen?, h]
theorem quiet_of1 {P : Program} {f : FuncId} {args : Array Value} {w : World} {k n : Nat} {v : Value}
    (h : Calls P f args (w.drewN (k + n)) fun e w' => e = .returned v ∧ ∃ m, w' = (w.drewN (k + n)).drewN m) : Calls P f args (w.drewN (k + n)) fun e w'' => e = .returned v ∧ ∃ m, w'' = w.drewN (k + m) :=
  h.mono fun _ _ ⟨he, m, hm⟩ => ⟨he, n + m, by rw [hm, World.drewN_drewN, Nat.add_assoc]⟩
theorem quiet_same1 {P : Program} {f : FuncId} {args : Array Value} {w : World} {k n : Nat} {v : Value}
    (h : Calls P f args (w.drewN (k + n)) fun e w' => e = .returned v ∧ w' = w.drewN (k + n)) : Calls P f args (w.drewN (k + n)) fun e w'' => e = .returned v ∧ ∃ m, w'' = w.drewN (k + m) :=
  h.mono fun _ _ ⟨he, hm⟩ => ⟨he, n, hm⟩

set_option maxRecDepth 100000 in
set_option maxHeartbeats 6400000 in
theorem compose_213 (w : World) : Calls Try.prog 27 #[.agg #[.int .i64 2, .int .i64 1, .int .i64 3], .agg #[.int .i64 2, .int .i64 1, .int .i64 3]] w fun e w' => e = .returned (.agg #[.int .i64 2, .int .i64 (-1), .int .i64 3]) ∧ Below w.heap.size w w' := by
  have C1 := fun W => hide (euclid_22 W)
  have C2 := fun W => hide (euclid_12 W)
  have T1 := fun W => hide (times_any 0 0 2 W (by omega) (by omega) (by omega) (by omega) (by omega) (by omega))
  have T2 := fun W => hide (times_any 1 3 2 W (by omega) (by omega) (by omega) (by omega) (by omega) (by omega))
  have M1 := fun W => hide ((mod_any (-1) 2 W (by omega) (by omega) (by omega) (by omega)).mono fun _ _ h => (⟨h.1, h.2.symm⟩ : _ ∧ _ = W))
  rw [show (0 : Int) * 0 % 2 = 0 from by decide] at T1
  rw [show (1 : Int) * 3 % 2 = 1 from by decide] at T2
  rw [show (-1 : Int) % 2 = 1 from by decide] at M1
  have CR := fun W => hide (reduce_453 W)
  have B0 : Hid (Below w.heap.size w (((w.alloc (.cells #[.int .i64 2, .int .i64 1, .int .i64 3] 23)).alloc (.cells #[.int .i64 2, .int .i64 1, .int .i64 3] 23)).alloc (.cells #[.int .i64 0, .int .i64 0, .int .i64 0] 23))) := bel3 _ _ _ _
  have P1 := hide ((MC.made w 2 1 3).below (((bel_obj _ (.cells #[.int .i64 2, .int .i64 1, .int .i64 3] 23))).trans ((bel_obj _ (.cells #[.int .i64 0, .int .i64 0, .int .i64 0] 23)).mono (by simp))))
  have P2 : Hid (MC (((w.alloc (.cells #[.int .i64 2, .int .i64 1, .int .i64 3] 23)).alloc (.cells #[.int .i64 2, .int .i64 1, .int .i64 3] 23)).alloc (.cells #[.int .i64 0, .int .i64 0, .int .i64 0] 23)) (w.heap.size + 1) 2 1 3) := by
    have := (MC.made (w.alloc (.cells #[.int .i64 2, .int .i64 1, .int .i64 3] 23)) 2 1 3).below (bel_obj _ (.cells #[.int .i64 0, .int .i64 0, .int .i64 0] 23))
    unfold Hid
    rwa [World.size_alloc] at this
  have P3 : Hid (MC (((w.alloc (.cells #[.int .i64 2, .int .i64 1, .int .i64 3] 23)).alloc (.cells #[.int .i64 2, .int .i64 1, .int .i64 3] 23)).alloc (.cells #[.int .i64 0, .int .i64 0, .int .i64 0] 23)) (w.heap.size + 1 + 1) 0 0 0) := by
    have := MC.made ((w.alloc (.cells #[.int .i64 2, .int .i64 1, .int .i64 3] 23)).alloc (.cells #[.int .i64 2, .int .i64 1, .int .i64 3] 23)) 0 0 0
    unfold Hid
    rwa [World.size_alloc, World.size_alloc] at this
  go_enter Try.func27, Try.ntmps27
  go_wp2_with fail
  refine (C1 _).out.mono ?_
  rintro e w1 ⟨rfl, hb⟩
  have B1 := hide (B0.out.trans (hb.mono B0.out.size))
  have Q1 := hide (P1.out.below hb)
  have Q2 := hide (P2.out.below hb)
  have Q3 := hide (P3.out.below hb)
  obtain ⟨a0, a1, a2⟩ := Q1.out.cells
  obtain ⟨b0, b1, b2⟩ := Q2.out.cells
  clear hb
  go_wp2_with fail
  refine (C2 _).out.mono ?_
  rintro e w2 ⟨rfl, hb⟩
  have B2 := hide (B1.out.trans (hb.mono B1.out.size))
  have R1 := hide (Q1.out.below hb)
  have R2 := hide (Q2.out.below hb)
  have R3 := hide (Q3.out.below hb)
  clear hb a0 a1 a2 b0 b1 b2
  obtain ⟨a0, a1, a2⟩ := R1.out.cells
  obtain ⟨b0, b1, b2⟩ := R2.out.cells
  go_wp2_with fail
  go_region
  go_wp2_with fail
  go_quiet (first | (go_at_call 33; first | (with_reducible refine quiet_of1 (T1 _).out) | (with_reducible refine quiet_of1 (T2 _).out)) | (go_at_call 20; with_reducible refine quiet_same1 (M1 _).out))
  go_wp2_with fail
  have NW : MC ((w2.drewN (1 + nq + 1)).alloc (.cells #[.int .i64 0, .int .i64 0, .int .i64 0] 23)) w2.heap.size 0 0 0 := by simpa using MC.made (w2.drewN (1 + nq + 1)) 0 0 0
  have KB : Below w2.heap.size w2 ((w2.drewN (1 + nq + 1)).alloc (.cells #[.int .i64 0, .int .i64 0, .int .i64 0] 23)) := (below_drewN (Below.refl _ _) _).alloc (Nat.le_refl _) _
  obtain ⟨n0, n1, n2⟩ := NW.cells
  obtain ⟨c0, c1, c2⟩ := (R1.out.below KB).cells
  obtain ⟨d0, d1, d2⟩ := (R2.out.below KB).cells
  have f0 : ∀ k, ((w2.drewN (1 + nq + 1)).alloc (.cells #[.int .i64 0, .int .i64 0, .int .i64 0] 23)).frozen? ⟨w2.heap.size, k, none⟩ = false := fun k => by
    unfold MC at NW
    generalize ((w2.drewN (1 + nq + 1)).alloc (.cells #[.int .i64 0, .int .i64 0, .int .i64 0] 23)) = W at NW ⊢
    simp [World.frozen?, NW]
  have f00 := f0 0
  have f01 := f0 1
  have f02 := f0 2
  have HNW := hide NW
  have HKB := hide KB
  clear KB
  clear NW f0
  go_region
  go_wp2_with fail
  refine (CR _).out.mono ?_
  rintro e w3 ⟨rfl, hb⟩
  have M9 := (((HNW.out.set0 4).set1 5).set2 3).below hb
  have G : Below w2.heap.size w2 w3 := by
    refine Below.trans ?_ (hb.mono ?_)
    · go_grown
      exact below_drewN (Below.refl _ _) _
    · simp
  have T0 := hide (B2.out.trans (G.mono B2.out.size))
  have S3 := R3.out.below G
  obtain ⟨z0, z1, z2⟩ := S3.cells
  obtain ⟨y0, y1, y2⟩ := M9.cells
  have f30 := S3.frozen 0
  have f31 := S3.frozen 1
  have f32 := S3.frozen 2
  have f40 := M9.frozen 0
  have f41 := M9.frozen 1
  have f42 := M9.frozen 2
  have hne := R3.out.lt
  have HM9 := hide M9
  have HS3 := hide S3
  have HG := hide G
  clear hb G S3 M9 n0 n1 n2 c0 c1 c2 d0 d1 d2 f00 f01 f02 a0 a1 a2 b0 b1 b2
  go_wp2_with fail
  have RR := ((HS3.out.other (p := ⟨w2.heap.size, 0, none⟩) (Nat.ne_of_gt hne) (.int .i64 2)).other (p := ⟨w2.heap.size, 1, none⟩) (Nat.ne_of_gt hne) (.int .i64 (-1))).other (p := ⟨w2.heap.size, 2, none⟩) (Nat.ne_of_gt hne) (.int .i64 3)
  have p0 := (RR.set0 2).cells.1
  have p1 := ((RR.set0 2).set1 (-1)).cells.2.1
  have p2 := (((RR.set0 2).set1 (-1)).set2 3).cells.2.2
  refine bodyPost_ret (v := .agg #[.int .i64 2, .int .i64 (-1), .int .i64 3]) (by simp [results, Try.results27, go_sem, p0, p1, p2]) rfl ⟨rfl, ?_⟩
  have hn2 := R3.out.lt
  go_grown
  all_goals exact T0.out
end Go.Proofs.Ytkfjjljdhfjpbaa
