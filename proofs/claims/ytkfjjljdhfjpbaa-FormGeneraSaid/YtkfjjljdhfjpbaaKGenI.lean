/- The walk of quad.Genus behind a fault (printed by gen_geni.py). -/
import Derived.Test.YtkfjjljdhfjpbaaKGenH
import Derived.Test.YtkfjjljdhfjpbaaKComposeW
namespace Go.Proofs.Ytkfjjljdhfjpbaa
open Go.RowKit

/-- Genus's memory at its start: the form and the result's fault -/
structure GS (w W : World) (a b c : Int) : Prop where
  f : GKB W w.heap.size #[.int .i64 a, .int .i64 b, .int .i64 c] 23
  r : FC W (w.heap.size + 1) 0 0
  b : Below w.heap.size w W
theorem GS.below {w W W' : World} {a b c : Int} (h : GS w W a b c) (k : Below W.heap.size W W') : GS w W' a b c := ⟨h.f.below k, h.r.below k, h.b.trans (k.mono h.b.size)⟩
theorem GS.start (w : World) (a b c : Int) : GS w ((w.alloc (.cells #[.int .i64 a, .int .i64 b, .int .i64 c] 23)).alloc (.cells #[.int .i64 0, .int .i64 0] 26)) a b c := by
  have hf : GKB (w.alloc (.cells #[.int .i64 a, .int .i64 b, .int .i64 c] 23)) w.heap.size #[.int .i64 a, .int .i64 b, .int .i64 c] 23 := by
    show (w.heap.push _)[w.heap.size]? = _
    simp
  have F := FC.made (w.alloc (.cells #[.int .i64 a, .int .i64 b, .int .i64 c] 23)) 0 0
  rw [World.size_alloc] at F
  exact ⟨hf.below ((Below.refl _ _).alloc (Nat.le_refl _) _), F, ((Below.refl _ _).alloc (Nat.le_refl _) _).alloc (by simp) _⟩

set_option maxRecDepth 100000 in
set_option maxHeartbeats 3200000 in
theorem Genus_bad (a b c : Int) (w : World) (k n : Int) (h : formF a b c = (k, n)) (hk : k ≠ 0) :
    Calls Try.prog 4 #[.agg #[.int .i64 a, .int .i64 b, .int .i64 c]] w fun e w' => e = .returned (.tuple #[.slice none 0 0, fv (k, n)]) ∧ Below w.heap.size w w' := by
  have CK := fun W => hide (check_any a b c W)
  unfold RetFault at CK
  rw [h] at CK
  simp only [fv] at CK
  have k1 : (k != 0) = true := by simpa using hk
  have H1 := hide (GS.start w a b c)
  obtain ⟨W1, hW1⟩ : ∃ ZZ, ((w.alloc (.cells #[.int .i64 a, .int .i64 b, .int .i64 c] 23)).alloc (.cells #[.int .i64 0, .int .i64 0] 26)) = ZZ := ⟨_, rfl⟩
  rw [hW1] at H1
  obtain ⟨a0, a1, a2⟩ : W1.cell? ⟨w.heap.size, 0, none⟩ = some (.int .i64 a) ∧ W1.cell? ⟨w.heap.size, 1, none⟩ = some (.int .i64 b) ∧ W1.cell? ⟨w.heap.size, 2, none⟩ = some (.int .i64 c) := ⟨H1.out.f.cell rfl, H1.out.f.cell rfl, H1.out.f.cell rfl⟩
  clear h hk
  go_enter Try.func4, Try.ntmps4
  go_upto_region 1 with (fail)
  (try rw [hW1])
  clear hW1
  go_wp2_with fail
  refine (CK _).out.mono ?_
  rintro e w2 ⟨rfl, hb⟩
  have H2 := hide ((H1.out.below hb).below ((Below.refl _ _).alloc (Nat.le_refl _) (.cells #[.int .i64 k, .int .i64 n] 26)))
  have HF := hide (FC.made w2 k n)
  obtain ⟨g, hg⟩ : ∃ ZZ, w2.heap.size = ZZ := ⟨_, rfl⟩
  obtain ⟨W3, hW3⟩ : ∃ ZZ, w2.alloc (.cells #[.int .i64 k, .int .i64 n] 26) = ZZ := ⟨_, rfl⟩
  rw [hW3] at H2 HF
  rw [hg] at HF
  clear hb H1 a0 a1 a2 CK
  go_upto_region 2 with (fail)
  (try rw [hW3])
  (try rw [hg])
  clear hW3 hg
  have f0 := HF.out.cells.1
  go_upto_region 3 with (fail)
  clear f0
  have HX := hide (H2.out.below (below_drewN (Below.refl _ _) 1))
  have HG := hide (HF.out.below (below_drewN (Below.refl _ _) 1))
  obtain ⟨W6, hW6⟩ : ∃ ZZ, W3.drewN 1 = ZZ := ⟨_, rfl⟩
  rw [hW6] at HX HG
  have hS0 : (fun W : World => (W.cell? ⟨g, 0, none⟩ = some (.int .i64 k) ∧ W.cell? ⟨g, 1, none⟩ = some (.int .i64 n))) W6 := ⟨HG.out.cells.1, HG.out.cells.2.1⟩
  have HW6 : Hid (W3.drew = W6) := hide hW6
  refine wp_region_P (fun W => (W.cell? ⟨g, 0, none⟩ = some (.int .i64 k) ∧ W.cell? ⟨g, 1, none⟩ = some (.int .i64 n))) 2 (by rfl) (by rw [HW6.out]; exact hS0) ?_
  rw [HW6.out]
  clear hS0 HW6 hW6
  intro hS
  refine wpAnyP_take 0 16 [0, 2] (v := ?_) rfl (by kernel_rfl) (by kernel_rfl) (by kernel_rfl) (by kernel_rfl) (by kernel_rfl) (by kernel_rfl) (by rfl) (fun _ _ _ h => h) (Or.inl ⟨by rfl, ?_⟩) hS ?_; rotate_left
  · (intro w hSw; (try dsimp only at hSw); go_simp; (try with_reducible rfl))
  (try simp only [List.setIfInBounds_toArray, List.set_cons_zero, List.set_cons_succ])
  refine wpAnyP_take 1 2 [1, 2] (v := ?_) rfl (by kernel_rfl) (by kernel_rfl) (by kernel_rfl) (by kernel_rfl) (by kernel_rfl) (by kernel_rfl) (by rfl) (fun _ _ _ h => h) (Or.inl ⟨by rfl, ?_⟩) hS ?_; rotate_left
  · (intro w hSw; (try dsimp only at hSw); go_simp; (try with_reducible rfl))
  (try simp only [List.setIfInBounds_toArray, List.set_cons_zero, List.set_cons_succ])
  obtain ⟨s0, s1, y0, y1⟩ := HX.out.r.cells
  refine wpAnyP_one 2 rfl (by kernel_rfl) (fun K hK => ?_)
  go_simp
  refine hK.out _ _ (fun h => by simp at h) ?_
  clear hK K
  (try simp only [Act.put, List.setIfInBounds_toArray, List.set_cons_zero, List.set_cons_succ])
  refine wpAnyP_done (by kernel_rfl) ?_ _
  have HB := hide (below_fault (u := .int .i64 k) (v := .int .i64 n) HX.out.b (show w.heap.size ≤ w.heap.size + 1 by omega))
  obtain ⟨p0, p1⟩ := HX.out.r.put k n
  clear s0 s1 y0 y1
  go_wp2_with fail
  exact bodyPost_ret (v := .tuple #[.slice none 0 0, fv (k, n)]) (by simp [results, Try.results4, go_sem, fv, p0, p1]) rfl ⟨rfl, HB.out⟩

set_option maxRecDepth 100000 in
set_option maxHeartbeats 3200000 in
theorem Genus_many (a b c D : Int) (w : World) (h : formF a b c = (0, 0)) (ha : a.natAbs ≤ 1000000000) (hb : b.natAbs ≤ 1000000000) (hc : c.natAbs ≤ 1000000000) (hD : b * b - 4 * a * c = D) (hlow : -9000000000000000000 ≤ D) (hd : D < -2000) :
    Calls Try.prog 4 #[.agg #[.int .i64 a, .int .i64 b, .int .i64 c]] w fun e w' => e = .returned (.tuple #[.slice none 0 0, fv (2, 0)]) ∧ Below w.heap.size w w' := by
  have CK := fun W => hide (check_any a b c W)
  unfold RetFault at CK
  rw [h] at CK
  simp only [fv] at CK
  obtain ⟨t, ht⟩ : ∃ t : Int, 0 = t := ⟨_, rfl⟩
  have t1 : (t != 0) = false := by rw [← ht]; rfl
  have t2 : (t == 0) = true := by rw [← ht]; rfl
  simp only [ht] at CK
  clear ht
  have CD := fun W => hide (disc_any a b c W ha hb hc)
  rw [hD] at CD
  have CQ := fun W => hide (qfault_any 2 0 W)
  obtain ⟨dd, hdd⟩ : ∃ z : Int, -D = z := ⟨_, rfl⟩
  have nn : IntKind.i64.wrap (-D) = dd := by rw [IntKind.wrap_i64]; omega
  have g1 : decide ((2000 : Int) < dd) = true := by rw [decide_eq_true_eq]; omega
  have H1 := hide (GS.start w a b c)
  obtain ⟨W1, hW1⟩ : ∃ ZZ, ((w.alloc (.cells #[.int .i64 a, .int .i64 b, .int .i64 c] 23)).alloc (.cells #[.int .i64 0, .int .i64 0] 26)) = ZZ := ⟨_, rfl⟩
  rw [hW1] at H1
  obtain ⟨a0, a1, a2⟩ : W1.cell? ⟨w.heap.size, 0, none⟩ = some (.int .i64 a) ∧ W1.cell? ⟨w.heap.size, 1, none⟩ = some (.int .i64 b) ∧ W1.cell? ⟨w.heap.size, 2, none⟩ = some (.int .i64 c) := ⟨H1.out.f.cell rfl, H1.out.f.cell rfl, H1.out.f.cell rfl⟩
  clear h ha hb hc hD hlow hd hdd
  go_enter Try.func4, Try.ntmps4
  go_upto_region 1 with (fail)
  (try rw [hW1])
  clear hW1
  go_wp2_with fail
  refine (CK _).out.mono ?_
  rintro e w2 ⟨rfl, hb⟩
  have H2 := hide ((H1.out.below hb).below ((Below.refl _ _).alloc (Nat.le_refl _) (.cells #[.int .i64 t, .int .i64 t] 26)))
  have HF := hide (FC.made w2 t t)
  obtain ⟨g, hg⟩ : ∃ ZZ, w2.heap.size = ZZ := ⟨_, rfl⟩
  obtain ⟨W3, hW3⟩ : ∃ ZZ, w2.alloc (.cells #[.int .i64 t, .int .i64 t] 26) = ZZ := ⟨_, rfl⟩
  rw [hW3] at H2 HF
  rw [hg] at HF
  clear hb H1 a0 a1 a2 CK
  go_upto_region 2 with (fail)
  (try rw [hW3])
  (try rw [hg])
  clear hW3 hg
  have f0 := HF.out.cells.1
  obtain ⟨a0, a1, a2⟩ : W3.cell? ⟨w.heap.size, 0, none⟩ = some (.int .i64 a) ∧ W3.cell? ⟨w.heap.size, 1, none⟩ = some (.int .i64 b) ∧ W3.cell? ⟨w.heap.size, 2, none⟩ = some (.int .i64 c) := ⟨H2.out.f.cell rfl, H2.out.f.cell rfl, H2.out.f.cell rfl⟩
  go_wp2_with fail
  refine (CD _).out.mono ?_
  rintro e w4 ⟨rfl, hb⟩
  have H3 := hide (H2.out.below hb)
  clear hb H2 HF f0 a0 a1 a2 CD
  go_wp2_with fail
  refine (CQ _).out.mono ?_
  rintro e w5 ⟨rfl, hb⟩
  have H4 := hide (H3.out.below hb)
  clear hb H3 CQ
  obtain ⟨s0, s1, y0, y1⟩ := H4.out.r.cells
  have HB := hide (below_fault (u := .int .i64 2) (v := .int .i64 0) H4.out.b (show w.heap.size ≤ w.heap.size + 1 by omega))
  obtain ⟨p0, p1⟩ := H4.out.r.put 2 0
  go_wp2_with fail
  exact bodyPost_ret (v := .tuple #[.slice none 0 0, fv (2, 0)]) (by simp [results, Try.results4, go_sem, fv, p0, p1]) rfl ⟨rfl, HB.out⟩
end Go.Proofs.Ytkfjjljdhfjpbaa
