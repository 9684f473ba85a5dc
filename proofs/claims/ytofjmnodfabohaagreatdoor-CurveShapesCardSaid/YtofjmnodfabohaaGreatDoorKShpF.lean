/- The walk of curve.Shape behind a fault, and the law CurveShapes (printed by gen_shpf.py). -/
import Derived.Test.YtofjmnodfabohaaGreatDoorKCurvM
import Derived.Test.YtofjmnodfabohaaGreatDoorKHasE
import Derived.Test.YtofjmnodfabohaaGreatDoorKShpE
namespace Go.Proofs.YtofjmnodfabohaaGreatDoor
open Go.RowKit
open CV

/-- a store of another fault -/
theorem Blks.putF {w W : World} {l : List (Nat × Array Value × TypeId)} {g : Nat} {T : TypeId} {u v : Value} (h : Blks w W l) (i : Nat) (hi : l[i]? = some (g, #[u, v], T)) (hne : ∀ j e, l[j]? = some e → j ≠ i → e.1 ≠ g) (x y : Value) :
    Blks w ((W.setCell ⟨g, 0, none⟩ x).setCell ⟨g, 1, none⟩ y) (l.set i (g, #[x, y], T)) := by
  have hg : w.heap.size ≤ g := h.n _ (List.mem_of_getElem? hi)
  have hk : KB W g #[u, v] T := h.get i hi
  have hm : ∀ e ∈ l.set i (g, #[x, y], T), e = (g, #[x, y], T) ∨ (e ∈ l ∧ e.1 ≠ g) := fun e he => by
    obtain ⟨j, hj⟩ := List.mem_iff_getElem?.1 he
    rw [List.getElem?_set] at hj
    split at hj
    · split at hj
      · exact .inl (Option.some.inj hj).symm
      · cases hj
    · rename_i hij
      exact .inr ⟨List.mem_of_getElem? hj, hne j e hj (fun k => hij k.symm)⟩
  refine ⟨(h.b.setCell (p := ⟨g, 0, none⟩) hg x).setCell (p := ⟨g, 1, none⟩) hg y, h.t, fun e he => ?_, fun e he => ?_⟩
  · rcases hm e he with rfl | ⟨h1, h2⟩
    · exact (hk.set 0 x).set 1 y
    · exact ((h.k e h1).far (p := ⟨g, 0, none⟩) h2 x).far (p := ⟨g, 1, none⟩) h2 y
  · rcases hm e he with rfl | ⟨h1, _⟩
    · exact hg
    · exact h.n e h1

set_option maxRecDepth 100000 in
set_option maxHeartbeats 6400000 in
theorem Shape_bad (p a b : Int) (w : World) (hT : TabW w) (c k : Int) (hchk : chkC p a b = (c, k)) (hc : c ≠ 0) :
    Calls Tryz.prog 4 #[.int .i64 p, .int .i64 a, .int .i64 b] w fun e w' => e = .returned (.tuple #[.int .i64 0, .int .i64 0, fv (c, k)]) ∧ Below w.heap.size w w' := by
  have hlk : lookC p a b [] = (c, k) := by rw [lookC_nil, hchk]
  have q1 : (c != 0) = true := by simpa using hc
  have HC := hide hc
  have H0 : Hid (Blks w w []) := hide ⟨Below.refl _ _, hT, by simp, by simp⟩
  have H1 := hide (H0.out.new #[.int .i64 0, .int .i64 0] 23)
  obtain ⟨W4, hW4⟩ : ∃ ZZ, w.alloc (.cells #[.int .i64 0, .int .i64 0] 23) = ZZ := ⟨_, rfl⟩
  rw [hW4] at H1
  have CL := hide (clook_any p a b (.slice none 0 0) [] W4 H1.out.tab (.inl ⟨rfl, rfl⟩) (by simp))
  rw [hlk] at CL
  clear hT hlk hchk hc
  go_enter Tryz.func4, Tryz.ntmps4
  go_upto_region 1 with (fail)
  (try rw [hW4])
  clear hW4
  go_wp2_with fail
  refine CL.out.mono ?_
  rintro e w1 ⟨rfl, hb⟩
  rw [if_neg HC.out]
  unfold cvv fv
  have HLT : Hid (w.heap.size < w1.heap.size) := hide (Nat.lt_of_lt_of_le (H1.out.get 0 rfl).lt hb.size)
  have H2 := hide ((H1.out.below hb).new #[.int .i64 0, .int .i64 0, .int .i64 0] 36)
  clear hb CL H1 H0
  have d0 := (H2.out.get 1 rfl).cell (i := 0) (v := .int .i64 0) rfl
  have d1 := (H2.out.get 1 rfl).cell (i := 1) (v := .int .i64 0) rfl
  have f0 := (H2.out.get 1 rfl).frozen 0
  have f1 := (H2.out.get 1 rfl).frozen 1
  have H3 := hide (H2.out.putF 1 rfl (by intro j e hj hji; have k1 := HLT.out; match j, hj, hji with | 0, hj, _ => (injection hj with hj; subst hj; show (_ : Nat) ≠ _; omega) | 1, _, hji => exact absurd rfl hji | (q + 2), hj, _ => cases hj) (.int .i64 c) (.int .i64 k))
  go_upto_region 2 with (fail)
  obtain ⟨W5, hW5⟩ : ∃ Z, (((w1.alloc (.cells #[.int .i64 0, .int .i64 0, .int .i64 0] 36)).setCell ⟨w.heap.size, 0, none⟩ (.int .i64 c)).setCell ⟨w.heap.size, 1, none⟩ (.int .i64 k)) = Z := ⟨_, rfl⟩
  rw [hW5] at H3
  rw [hW5]
  clear hW5 d0 d1 f0 f1 H2
  have f0 := (H3.out.get 1 rfl).cell (i := 0) (v := .int .i64 c) rfl
  go_upto_region 3 with (fail)
  clear f0
  have HX := hide (H3.out.below (below_drewN (Below.refl _ _) 1))
  obtain ⟨W6, hW6⟩ : ∃ ZZ, W5.drewN 1 = ZZ := ⟨_, rfl⟩
  rw [hW6] at HX
  have hS0 : (fun W : World => (W.cell? ⟨w.heap.size, 0, none⟩ = some (.int .i64 c) ∧ W.cell? ⟨w.heap.size, 1, none⟩ = some (.int .i64 k))) W6 := ⟨(HX.out.get 1 rfl).cell rfl, (HX.out.get 1 rfl).cell rfl⟩
  have HW6 : Hid (W5.drew = W6) := hide hW6
  refine wp_region_P (fun W => (W.cell? ⟨w.heap.size, 0, none⟩ = some (.int .i64 c) ∧ W.cell? ⟨w.heap.size, 1, none⟩ = some (.int .i64 k))) 3 (by rfl) (by rw [HW6.out]; exact hS0) ?_
  rw [HW6.out]
  clear hS0 HW6 hW6
  intro hS
  refine wpAnyP_take 0 23 [0, 3] (v := ?_) rfl (by kernel_rfl) (by kernel_rfl) (by kernel_rfl) (by kernel_rfl) (by kernel_rfl) (by kernel_rfl) (by rfl) (fun _ _ _ h => h) (Or.inl ⟨by rfl, ?_⟩) hS ?_; rotate_left
  · (intro w hSw; (try dsimp only at hSw); go_simp; (try with_reducible rfl))
  (try simp only [List.setIfInBounds_toArray, List.set_cons_zero, List.set_cons_succ])
  refine wpAnyP_take 1 6 [1, 3] (v := ?_) rfl (by kernel_rfl) (by kernel_rfl) (by kernel_rfl) (by kernel_rfl) (by kernel_rfl) (by kernel_rfl) (by rfl) (fun _ _ _ h => h) (Or.inl ⟨by rfl, ?_⟩) hS ?_; rotate_left
  · (intro w hSw; (try dsimp only at hSw); go_simp; (try with_reducible rfl))
  (try simp only [List.setIfInBounds_toArray, List.set_cons_zero, List.set_cons_succ])
  refine wpAnyP_take 2 7 [2, 3] (v := ?_) rfl (by kernel_rfl) (by kernel_rfl) (by kernel_rfl) (by kernel_rfl) (by kernel_rfl) (by kernel_rfl) (by rfl) (fun _ _ _ h => h) (Or.inl ⟨by rfl, ?_⟩) hS ?_; rotate_left
  · (intro w hSw; (try dsimp only at hSw); go_simp; (try with_reducible rfl))
  (try simp only [List.setIfInBounds_toArray, List.set_cons_zero, List.set_cons_succ])
  obtain ⟨s0, s1, y0, y1⟩ := FC.cells (HX.out.get 1 rfl : KB _ _ _ _)
  refine wpAnyP_one 3 rfl (by kernel_rfl) (fun K hK => ?_)
  go_simp
  refine hK.out _ _ (fun h => by simp at h) ?_
  clear hK K
  (try simp only [Act.put, List.setIfInBounds_toArray, List.set_cons_zero, List.set_cons_succ])
  refine wpAnyP_done (by kernel_rfl) ?_ _
  have HB := hide (below_fault (u := .int .i64 c) (v := .int .i64 k) HX.out.b (Nat.le_refl _))
  obtain ⟨p0, p1⟩ := FC.put (HX.out.get 1 rfl : KB _ _ _ _) c k
  clear s0 s1 y0 y1
  go_wp2_with fail
  exact bodyPost_ret (v := .tuple #[.int .i64 0, .int .i64 0, fv (c, k)]) (by simp [results, Tryz.results4, go_sem, fv, p0, p1]) rfl ⟨rfl, HB.out⟩

/-- points that lie in the block g -/
def PtZ (W : World) (g : Nat) (L : List CP) : Prop := g < W.heap.size ∧
  ∀ (j : Nat) (P : CP), L[j]? = some P → W.cell? ⟨g, j * 3, none⟩ = some (.int .i64 P.x) ∧ W.cell? ⟨g, j * 3 + 1, none⟩ = some (.int .i64 P.y) ∧ W.cell? ⟨g, j * 3 + 2, none⟩ = some (.bool P.far)
theorem PtZ.below {W W' : World} {g : Nat} {L : List CP} (h : PtZ W g L) (k : Below W.heap.size W W') : PtZ W' g L :=
  ⟨Nat.lt_of_lt_of_le h.1 k.size, fun j P hj => by
    obtain ⟨a1, a2, a3⟩ := h.2 j P hj
    exact ⟨(k.cell (p := ⟨g, j * 3, none⟩) h.1).trans a1, (k.cell (p := ⟨g, j * 3 + 1, none⟩) h.1).trans a2, (k.cell (p := ⟨g, j * 3 + 2, none⟩) h.1).trans a3⟩⟩
theorem PtZ.of {W : World} {v : Value} {L : List CP} (h : PtS W v L) (hl : 1 ≤ L.length) : ∃ g c, v = .slice (some ⟨g, 0, none⟩) L.length c ∧ PtZ W g L := by
  rcases h with ⟨rfl, _⟩ | ⟨g, c, h1, h2, h3⟩
  · simp at hl
  · exact ⟨g, c, h1, h2, h3⟩
theorem max_one {p : Nat} {a b : Int} {m n : Nat} (h : MaxOrd p a b m) (k : MaxOrd p a b n) : m = n := by
  obtain ⟨⟨P, hP, hm⟩, h2⟩ := h
  obtain ⟨⟨Q, hQ, hn⟩, k2⟩ := k
  exact Nat.le_antisymm (k2 P hP m hm) (h2 Q hQ n hn)

set_option maxRecDepth 100000 in
set_option maxHeartbeats 6400000 in
theorem cshp_bad (p a b : Int) (w : World) (hT : TabW w) (c k : Int) (hchk : chkC p a b = (c, k)) (hc : c ≠ 0) :
    Calls Tryz.prog 3 #[.int .i64 p, .int .i64 a, .int .i64 b] w fun e w' => e = .returned (.bool true) ∧ Below w.heap.size w w' := by
  have t1 : (c != 0) = true := by simpa using hc
  have CC := fun W (hW : TabW W) => hide (Shape_bad p a b W hW c k hchk hc)
  have CW := fun W => hide (rcf_any p a b W)
  have CB := fun W (hW : TabW W) => hide (curveBegun_any W hW)
  rw [hchk] at CW
  simp only [fv] at CC CW
  clear hchk hc
  have H0 : Hid (Blks w w []) := hide ⟨Below.refl _ _, hT, by simp, by simp⟩
  go_enter Tryz.func3, Tryz.ntmps3
  go_wp2_with fail
  refine (CC _ hT).out.mono ?_
  rintro e w1 ⟨rfl, hb⟩
  have H1 := hide ((H0.out.below hb).new #[.int .i64 c, .int .i64 k] 23)
  obtain ⟨g1, hg1⟩ : ∃ ZZ, w1.heap.size = ZZ := ⟨_, rfl⟩
  obtain ⟨W1, hW1⟩ : ∃ ZZ, w1.alloc (.cells #[.int .i64 c, .int .i64 k] 23) = ZZ := ⟨_, rfl⟩
  rw [hW1, hg1] at H1
  clear hb H0 CC hT
  go_upto_region 2 with (fail)
  (try rw [hW1])
  (try rw [hg1])
  clear hW1 hg1
  go_wp2_with fail
  refine (CW _).out.mono ?_
  rintro e w3 ⟨rfl, hb⟩
  have H3 := hide ((H1.out.below hb).new #[.int .i64 c, .int .i64 k] 23)
  obtain ⟨g3, hg3⟩ : ∃ ZZ, w3.heap.size = ZZ := ⟨_, rfl⟩
  obtain ⟨W3, hW3⟩ : ∃ ZZ, w3.alloc (.cells #[.int .i64 c, .int .i64 k] 23) = ZZ := ⟨_, rfl⟩
  rw [hW3, hg3] at H3
  clear hb H1 CW
  go_upto_region 3 with (fail)
  (try rw [hW3])
  (try rw [hg3])
  clear hW3 hg3
  go_wp2_with fail
  refine (CB _ H3.out.tab).out.mono ?_
  rintro e w4 ⟨rfl, hb⟩
  have H4 := hide (H3.out.below hb)
  clear hb H3 CB
  have a0 := (H4.out.get 0 rfl).cell (i := 0) (v := .int .i64 c) rfl
  have a1 := (H4.out.get 0 rfl).cell (i := 1) (v := .int .i64 k) rfl
  have b0 := (H4.out.get 1 rfl).cell (i := 0) (v := .int .i64 c) rfl
  have b1 := (H4.out.get 1 rfl).cell (i := 1) (v := .int .i64 k) rfl
  go_wp2_with fail
  go_ret
  exact ⟨rfl, H4.out.b⟩

set_option maxRecDepth 100000 in
set_option maxHeartbeats 6400000 in
theorem cshp_ok (p : Nat) (a b : Int) (w : World) (hT : TabW w) (h : OkCv p a b) :
    Calls Tryz.prog 3 #[.int .i64 (p : Int), .int .i64 a, .int .i64 b] w fun e w' => e = .returned (.bool true) ∧ Below w.heap.size w w' := by
  obtain ⟨t, ht⟩ : ∃ t : Int, 0 = t := ⟨_, rfl⟩
  have t1 : (t != 0) = false := by rw [← ht]; rfl
  have hp0 : 0 < p := by have := h.p1; omega
  have CC := fun W (hW : TabW W) => hide (shape_any p a b W h hW)
  have CPX := fun W (hW : TabW W) => hide (Points_ok p a b W hW h)
  have CW := fun W => hide (rcf_any p a b W)
  have CB := fun W (hW : TabW W) => hide (curveBegun_any W hW)
  have HCK := hide (fun (P : CP) (hP : okC p a b P) W (hW : TabW W) => ROrder_any p a b P W hW h hP)
  have HSH := hide (fun (n : Nat) (hm : MaxOrd p a b n) => SH.shape_all h hm)
  have HLN : Hid (1 ≤ (ptsC p a b).length ∧ (ptsC p a b).length ≤ 5000000) := by
    have k1 := pts_len p a b
    have k2 : p * p ≤ 2000 * 2000 := Nat.mul_le_mul (by have := h.p2; omega) (by have := h.p2; omega)
    exact hide ⟨pts_pos p a b, by omega⟩
  have HPP : Hid (5 ≤ p ∧ p ≤ 2000) := hide ⟨by have := h.p1; omega, by have := h.p2; omega⟩
  have HMEM := hide (fun (P : CP) => mem_pts hp0 (a := a) (b := b) (P := P))
  rw [h.chk] at CW
  unfold RetShape at CC
  simp only [fv] at CC CPX CW
  simp only [ht] at CC CPX CW
  clear ht hp0 h
  have H0 : Hid (Blks w w []) := hide ⟨Below.refl _ _, hT, by simp, by simp⟩
  go_enter Tryz.func3, Tryz.ntmps3
  go_wp2_with fail
  refine (CC _ hT).out.mono ?_
  rintro e w1 ⟨n, hmax, hn1, rfl, hb⟩
  have HMAX := hide hmax
  obtain ⟨M, hM, hM0, hMn, hMp⟩ := HSH.out n hmax
  have eM : (ptsC p a b).length / n = M := by rw [hM, Nat.mul_div_cancel _ (by omega)]
  rw [eM]
  obtain ⟨N, hN⟩ : ∃ N, (ptsC p a b).length = N := ⟨_, rfl⟩
  have HN := hide hN
  rw [hN] at HLN
  have HMN : Hid (N = M * n ∧ 0 < M ∧ 1 ≤ n ∧ M ∣ n ∧ M ∣ p - 1) := hide ⟨by rw [← hN, hM], hM0, hn1, hMn, hMp⟩
  obtain ⟨mi, hmi⟩ : ∃ z : Int, (M : Int) = z := ⟨_, rfl⟩
  obtain ⟨ni, hni⟩ : ∃ z : Int, (n : Int) = z := ⟨_, rfl⟩
  have HMI := hide hmi
  have HNI := hide hni
  rw [hmi, hni]
  have H1 := hide ((H0.out.below hb).new #[.int .i64 t, .int .i64 t] 23)
  obtain ⟨g1, hg1⟩ : ∃ ZZ, w1.heap.size = ZZ := ⟨_, rfl⟩
  obtain ⟨W1, hW1⟩ : ∃ ZZ, w1.alloc (.cells #[.int .i64 t, .int .i64 t] 23) = ZZ := ⟨_, rfl⟩
  rw [hW1, hg1] at H1
  clear hb H0 CC hT hmax hn1 hM hM0 hMn hMp eM hN hmi hni
  go_upto_region 2 with (fail)
  (try rw [hW1])
  (try rw [hg1])
  clear hW1 hg1
  go_wp2_with fail
  refine (CW _).out.mono ?_
  rintro e w3 ⟨rfl, hb⟩
  have H3 := hide ((H1.out.below hb).new #[.int .i64 t, .int .i64 t] 23)
  obtain ⟨g3, hg3⟩ : ∃ ZZ, w3.heap.size = ZZ := ⟨_, rfl⟩
  obtain ⟨W3, hW3⟩ : ∃ ZZ, w3.alloc (.cells #[.int .i64 t, .int .i64 t] 23) = ZZ := ⟨_, rfl⟩
  rw [hW3, hg3] at H3
  clear hb H1 CW
  go_upto_region 3 with (fail)
  (try rw [hW3])
  (try rw [hg3])
  clear hW3 hg3
  go_wp2_with fail
  refine (CB _ H3.out.tab).out.mono ?_
  rintro e w4 ⟨rfl, hb⟩
  have H4 := hide (H3.out.below hb)
  clear hb H3 CB
  have a0 := (H4.out.get 0 rfl).cell (i := 0) (v := .int .i64 t) rfl
  have a1 := (H4.out.get 0 rfl).cell (i := 1) (v := .int .i64 t) rfl
  have b0 := (H4.out.get 1 rfl).cell (i := 0) (v := .int .i64 t) rfl
  have b1 := (H4.out.get 1 rfl).cell (i := 1) (v := .int .i64 t) rfl
  go_wp2_with fail
  refine (CPX _ H4.out.tab).out.mono ?_
  rintro e w5 ⟨v, rfl, hrow, hb⟩
  have H5 := hide (H4.out.below hb)
  have hl := (H4.out.get 1 rfl).lt
  have r1 := ownsRow_setCell_below hrow (a := ⟨g1, 0, none⟩) hl (.int .i64 t)
  have r2 := ownsRow_setCell_below r1 (a := ⟨g1, 1, none⟩) hl (.int .i64 t)
  obtain ⟨gs, cp, rfl, hpz⟩ := PtZ.of (pts_open r2) (by rw [HN.out]; exact HLN.out.1)
  rw [HN.out]
  clear a0 a1 b0 b1 hb hrow r1 r2 hl H4 CPX
  have c0 := (H5.out.get 1 rfl).cell (i := 0) (v := .int .i64 t) rfl
  have c1 := (H5.out.get 1 rfl).cell (i := 1) (v := .int .i64 t) rfl
  have f0 := (H5.out.get 1 rfl).frozen 0
  have f1 := (H5.out.get 1 rfl).frozen 1
  have H6 := hide (H5.out.same 1 rfl)
  obtain ⟨W6, hW6⟩ : ∃ ZZ, ((w5.setCell ⟨g1, 0, none⟩ (.int .i64 t)).setCell ⟨g1, 1, none⟩ (.int .i64 t)) = ZZ := ⟨_, rfl⟩
  rw [hW6] at H6 hpz
  have HPZ := hide hpz
  clear hpz H5
  go_upto_region 8 with (fail)
  (try rw [hW6])
  clear c0 c1 f0 f1 hW6
  have c0 := (H6.out.get 1 rfl).cell (i := 0) (v := .int .i64 t) rfl
  obtain ⟨x1, x2, x3, x4, x5⟩ := HMN.out
  have hmi := HMI.out
  have hni := HNI.out
  have hLn := HLN.out
  have hPp := HPP.out
  have s1 : decide (mi < 1) = false := by rw [decide_eq_false_iff_not]; omega
  have s2 : decide (ni < 1) = false := by rw [decide_eq_false_iff_not]; omega
  have s3 : IntKind.i64.wrap (mi * ni) = (N : Int) := by
    rw [← hmi, ← hni, ← Int.natCast_mul, ← x1, IntKind.wrap_i64]; omega
  have s4 : ni.tmod mi = 0 := by
    rw [← hmi, ← hni]
    obtain ⟨q, hq⟩ := x4
    rw [hq, Int.natCast_mul, Int.mul_tmod_right]
  have s5 : IntKind.i64.wrap ((p : Int) - 1) = (p : Int) - 1 := by rw [IntKind.wrap_i64]; omega
  have s6 : ((p : Int) - 1).tmod mi = 0 := by
    rw [← hmi]
    obtain ⟨q, hq⟩ := x5
    rw [show (p : Int) - 1 = ((p - 1 : Nat) : Int) by omega, hq, Int.natCast_mul, Int.mul_tmod_right]
  have s7 : mi ≠ 0 := by omega
  have s8 : ¬ mi = 0 := s7
  have s9 : (mi == 0) = false := by simpa using s7
  clear x1 x2 x3 x4 x5 hmi hni hLn hPp
  go_upto_region 10 with (fail)
  clear c0 s1 s2 s3 s4 s5 s6 s7 s8 s9
  by_cases h100 : 100 < p
  · have q3 : decide ((100 : Int) < (p : Int)) = true := by rw [decide_eq_true_eq]; omega
    have q4 : decide (100 < p) = true := by rw [decide_eq_true_eq]; omega
    clear h100
    go_wp2_with fail
    go_ret
    exact ⟨rfl, H6.out.b⟩
  · have q3 : decide ((100 : Int) < (p : Int)) = false := by rw [decide_eq_false_iff_not]; omega
    have q4 : decide (100 < p) = false := by rw [decide_eq_false_iff_not]; omega
    clear h100
    go_wp2_with fail
    clear q3 q4
    go_loopw [13, 12] (fun jv mv wr => ∃ (j k : Nat) (ki : Int), jv = .int .i64 j ∧ mv = .int .i64 ki ∧ j ≤ N ∧ Hid (ki = (k : Int)) ∧ Hid (MaxI p a b j k) ∧ Hid (Below W6.heap.size W6 wr)) (fun jv _ _ => N - (intOf jv).toNat)
    case atStart => exact ⟨0, 0, 0, rfl, rfl, by omega, hide rfl, hide ⟨.inl ⟨rfl, rfl⟩, fun P hP => by simp at hP⟩, hide (Below.refl _ _)⟩
    case round =>
      obtain ⟨j, k, ki, rfl, rfl, hj, HKI, HI, HB⟩ := hrel
      by_cases hjn : j < N
      · obtain ⟨P, hP⟩ : ∃ P, (ptsC p a b)[j]? = some P := ⟨_, List.getElem?_eq_getElem (by rw [HN.out]; exact hjn)⟩
        have HPJ := hide hP
        obtain ⟨a1, a2, a3⟩ := (HPZ.out.below HB.out).2 j P hP
        have q1 : (j : Int) < (N : Int) := by omega
        have hok := (HMEM.out P).1 (List.mem_of_getElem? hP)
        have CK := hide (HCK.out P hok wr ((H6.out.below HB.out).tab))
        have HJN := hide hjn
        have HJ5 : j ≤ 5000000 := by have := HLN.out; omega
        unfold ptv at CK
        clear hP hok hjn hj
        go_wp2_with fail
        refine CK.out.mono ?_
        rintro e w7 ⟨o, rfl, ho, hb⟩
        have HB5 := hide (HB.out.trans (hb.mono HB.out.size))
        have HI5 := hide (HI.out.next HPJ.out ho)
        clear hb ho a1 a2 a3 HI HB CK
        obtain ⟨oi, hoi⟩ : ∃ v : Int, (o : Int) = v := ⟨_, rfl⟩
        have HOI := hide hoi
        rw [hoi]
        clear hoi
        by_cases hgt : ki < oi
        · have HM5 : Hid (oi = ((max k o : Nat) : Int)) := hide (by have := HKI.out; have := HOI.out; omega)
          have g1 : decide (ki < oi) = true := decide_eq_true hgt
          clear hgt
          go_wp2_with fail
          go_roundw
          case rel => exact ⟨j + 1, max k o, _, by go_num, rfl, by have := HJN.out; omega, HM5, HI5, HB5⟩
          case measure => have := HJN.out; simp [intOf]; omega
        · have HM5 : Hid (ki = ((max k o : Nat) : Int)) := hide (by have := HKI.out; have := HOI.out; omega)
          have g1 : decide (ki < oi) = false := decide_eq_false hgt
          clear hgt
          go_wp2_with fail
          go_roundw
          case rel => exact ⟨j + 1, max k o, _, by go_num, rfl, by have := HJN.out; omega, HM5, HI5, HB5⟩
          case measure => have := HJN.out; simp [intOf]; omega
      · have hje : j = N := by omega
        have hkn : k = n := by
          have HI2 := HI.out
          rw [hje] at HI2
          refine max_one ?_ HMAX.out
          obtain ⟨k1, k2⟩ := HI2
          rw [← HN.out, List.take_length] at k1 k2
          rcases k1 with ⟨k1, _⟩ | ⟨P, hP, hm⟩
          · have := HLN.out
            have := HN.out
            omega
          · exact ⟨⟨P, hP, hm⟩, k2⟩
        have hki : ki = ni := by rw [HKI.out, hkn, HNI.out]
        rw [hki]
        have HBE := hide (H6.out.below HB.out)
        have q1 : decide ((j : Int) < (N : Int)) = false := by rw [decide_eq_false_iff_not]; omega
        have q2 : decide (j < N) = false := by rw [decide_eq_false_iff_not]; omega
        clear hki hkn hje hjn hj HI HB
        go_wp2_with fail
        go_ret
        exact ⟨rfl, HBE.out.b⟩

theorem shapes_law (p a b : Int) (w : World) (hT : TabW w) :
    Calls Tryz.prog 3 #[.int .i64 p, .int .i64 a, .int .i64 b] w fun e w' => e = .returned (.bool true) ∧ Below w.heap.size w w' := by
  by_cases h : (chkC p a b).1 = 0
  · have h1 := chk_zero h
    have hp := h1.p1
    obtain ⟨q, rfl⟩ : ∃ q : Nat, p = q := ⟨p.toNat, by omega⟩
    exact cshp_ok q a b w hT h1
  · exact cshp_bad p a b w hT _ _ rfl h
end Go.Proofs.YtofjmnodfabohaaGreatDoor
