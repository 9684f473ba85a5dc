/- The walk of the law FormPoints. -/
import Derived.Test.YtlchmaiflcnaoaaKPtW
import Derived.Test.YtlchmaiflcnaoaaKPtLw
import Derived.Test.YtlchmaiflcnaoaaKPmW
import Derived.Test.YtlchmaiflcnaoaaKLong
import Derived.Test.YtlchmaiflcnaoaaKFormI
import Derived.Test.YtlchmaiflcnaoaaKOfW
import Derived.Test.YtlchmaiflcnaoaaKFcW
namespace Go.Proofs.Ytlchmaiflcnaoaa
open Go.RowKit Go.Sort

theorem QpA.fin {w W : World} {a b c : Int} (h : QpA w W a b c) (k m : Int) : FC ((W.setCell ⟨w.heap.size + 1, 0, none⟩ (.int .i64 k)).setCell ⟨w.heap.size + 1, 1, none⟩ (.int .i64 m)) (w.heap.size + 1) k m ∧ Below w.heap.size w ((W.setCell ⟨w.heap.size + 1, 0, none⟩ (.int .i64 k)).setCell ⟨w.heap.size + 1, 1, none⟩ (.int .i64 m)) :=
  ⟨(h.e.set0 k).set1 m, (h.b.setCell (p := ⟨w.heap.size + 1, 0, none⟩) (Nat.le_succ _) (.int .i64 k)).setCell (p := ⟨w.heap.size + 1, 1, none⟩) (Nat.le_succ _) (.int .i64 m)⟩

set_option maxRecDepth 100000 in
set_option maxHeartbeats 6400000 in
theorem points_f1 (a b c n k m : Int) (w : World) (hk : k ≠ 0) (h : formF a b c = (k, m)) :
    Calls Try.prog 8 #[.agg #[.int .i64 a, .int .i64 b, .int .i64 c], .int .i64 n] w fun e w' => e = .returned (.tuple #[.slice none 0 0, .agg #[.int .i64 k, .int .i64 m]]) ∧ Below w.heap.size w w' := by
  have CK := fun W => hide (check_any a b c W)
  unfold RetFault at CK
  rw [h] at CK
  simp only [fv] at CK
  have H0 := hide (QpA.start w a b c)
  have k1 : (k != 0) = true := by simpa using hk
  have k2 : decide (k = 0) = false := by simpa using hk
  clear h hk
  go_enter Try.func8, Try.ntmps8
  go_wp2_with fail
  refine (CK _).out.mono ?_
  rintro e w1 ⟨rfl, hb⟩
  have H1 := hide (H0.out.below hb)
  have hq : w.heap.size + 1 < w1.heap.size := H1.out.e.lt
  have F1 := FC.made w1 k m
  obtain ⟨x0, x1, _, _⟩ := F1.cells
  have H2 := hide (H1.out.below (bel_obj w1 (.cells #[.int .i64 k, .int .i64 m] 26)))
  clear hb H0 CK
  go_upto_region 3 with (fail)
  obtain ⟨W2, hW2⟩ : ∃ Z, w1.alloc (.cells #[.int .i64 k, .int .i64 m] 26) = Z := ⟨_, rfl⟩
  rw [hW2] at F1 H2 x0 x1
  (try rw [hW2])
  obtain ⟨q, hqq⟩ : ∃ q, w1.heap.size = q := ⟨_, rfl⟩
  rw [hqq] at F1 x0 x1 hq
  (try rw [hqq])
  obtain ⟨e0, e1, e2, e3⟩ := H2.out.e.cells
  have FIN := hide (H2.out.fin k m)
  clear hW2 hqq F1 H1 H2
  go_region
  generalize hX : World.setCell _ _ _ = w9
  have F := FIN.out
  rw [hX] at F
  clear hX FIN e0 e1 e2 e3 x0 x1
  obtain ⟨F1, F2⟩ := F
  obtain ⟨G0, G1, _, _⟩ := F1.drew.cells
  go_wp2_with fail
  exact bodyPost_ret (v := .tuple #[.slice none 0 0, .agg #[.int .i64 k, .int .i64 m]]) (by simp [results, Try.results8, go_sem, G0, G1]) rfl ⟨rfl, below_drewN F2 1⟩

set_option maxRecDepth 100000 in
set_option maxHeartbeats 6400000 in
theorem points_f2 (a b c n : Int) (w : World) (h : (formF a b c).1 = 0) (hn : n < 0 ∨ 1000000 < n) :
    Calls Try.prog 8 #[.agg #[.int .i64 a, .int .i64 b, .int .i64 c], .int .i64 n] w fun e w' => e = .returned (.tuple #[.slice none 0 0, .agg #[.int .i64 3, .int .i64 0]]) ∧ Below w.heap.size w w' := by
  have CK := fun W => hide (check_any a b c W)
  have CF := fun W => hide (qfault_any 3 0 W)
  unfold RetFault at CK
  rw [(formF_zero h).1] at CK
  simp only [fv] at CK
  have H0 := hide (QpA.start w a b c)
  have hq : decide (n < 0) = true ∨ (decide (n < 0) = false ∧ decide (1000000 < n) = true) := by
    by_cases h0 : n < 0
    · left; simpa using h0
    · right
      refine ⟨by simpa using h0, ?_⟩
      simp; omega
  clear h hn
  go_enter Try.func8, Try.ntmps8
  go_wp2_with fail
  refine (CK _).out.mono ?_
  rintro e w1 ⟨rfl, hb⟩
  have H1 := hide (H0.out.below hb)
  have H2 := hide (H1.out.below (bel_obj w1 (.cells #[.int .i64 0, .int .i64 0] 26)))
  clear hb H0 H1 CK
  rcases hq with h0 | ⟨h0, h1⟩
  all_goals
    go_wp2_with fail
    refine (CF _).out.mono ?_
    rintro e w2 ⟨rfl, hb⟩
    have H3 := hide (H2.out.below hb)
    obtain ⟨e0, e1, e2, e3⟩ := H3.out.e.cells
    have FIN := hide (H3.out.fin 3 0)
    clear hb H2 CF
    go_wp2_with fail
    obtain ⟨F1, F2⟩ := FIN.out
    obtain ⟨G0, G1, _, _⟩ := F1.cells
    exact bodyPost_ret (v := .tuple #[.slice none 0 0, .agg #[.int .i64 3, .int .i64 0]]) (by simp [results, Try.results8, go_sem, G0, G1]) rfl ⟨rfl, F2⟩

structure FpB (w W : World) (q1 q2 : Nat) (a b c k m k2 m2 : Int) : Prop where
  f : MC W w.heap.size a b c
  e : FC W q1 k m
  v : FC W q2 k2 m2
  b : Below w.heap.size w W
  l1 : w.heap.size < q1
  l2 : q1 < q2
theorem FpB.below {w W W' : World} {q1 q2 : Nat} {a b c k m k2 m2 : Int} (h : FpB w W q1 q2 a b c k m k2 m2) (kb : Below W.heap.size W W') : FpB w W' q1 q2 a b c k m k2 m2 := ⟨h.f.below kb, h.e.below kb, h.v.below kb, h.b.trans (kb.mono h.b.size), h.l1, h.l2⟩
structure FpE (w W : World) (q1 : Nat) (a b c k m : Int) : Prop where
  f : MC W w.heap.size a b c
  e : FC W q1 k m
  b : Below w.heap.size w W
  l1 : w.heap.size < q1
theorem PmSt.fpE {w W : World} {a b c : Int} (h : PmSt w W a b c) (k m : Int) : FpE w (W.alloc (.cells #[.int .i64 k, .int .i64 m] 26)) W.heap.size a b c k m :=
  ⟨h.f.below (bel_obj _ _), FC.made W k m, h.b.alloc h.b.size _, h.f.lt⟩
theorem FpE.below {w W W' : World} {q1 : Nat} {a b c k m : Int} (h : FpE w W q1 a b c k m) (kb : Below W.heap.size W W') : FpE w W' q1 a b c k m := ⟨h.f.below kb, h.e.below kb, h.b.trans (kb.mono h.b.size), h.l1⟩
theorem FpE.v {w W : World} {q1 : Nat} {a b c k m : Int} (h : FpE w W q1 a b c k m) (k2 m2 : Int) : FpB w (W.alloc (.cells #[.int .i64 k2, .int .i64 m2] 26)) q1 W.heap.size a b c k m k2 m2 :=
  ⟨h.f.below (bel_obj _ _), h.e.below (bel_obj _ _), FC.made W k2 m2, h.b.alloc h.b.size _, h.l1, h.e.lt⟩
theorem FpB.set {w W : World} {q1 q2 : Nat} {a b c k m k2 m2 : Int} (h : FpB w W q1 q2 a b c k m k2 m2) (x y : Int) : FpB w ((W.setCell ⟨q2, 0, none⟩ (.int .i64 x)).setCell ⟨q2, 1, none⟩ (.int .i64 y)) q1 q2 a b c k m x y := by
  have l1 := h.l1
  have l2 := h.l2
  refine ⟨?_, ?_, (h.v.set0 x).set1 y, (h.b.setCell (p := ⟨q2, 0, none⟩) (Nat.le_of_lt (Nat.lt_trans l1 l2)) (.int .i64 x)).setCell (p := ⟨q2, 1, none⟩) (Nat.le_of_lt (Nat.lt_trans l1 l2)) (.int .i64 y), l1, l2⟩
  · exact (Below.heap_setCell _ ⟨q2, 1, none⟩ _ _ (by simp; omega)).trans ((Below.heap_setCell _ ⟨q2, 0, none⟩ _ _ (by simp; omega)).trans h.f)
  · exact (Below.heap_setCell _ ⟨q2, 1, none⟩ _ _ (by simp; omega)).trans ((Below.heap_setCell _ ⟨q2, 0, none⟩ _ _ (by simp; omega)).trans h.e)

theorem PRow.open_ {w : World} {base : Nat} {v : Value} {L : List (Int × Int)} (h : PRow w base v L) : ∃ A c, v = .slice A L.length c ∧ ∀ (i : Nat) (t : Int × Int), L[i]? = some t → ∃ g, A = some ⟨g, 0, none⟩ ∧ g < w.heap.size ∧ w.cell? ⟨g, i * 2, none⟩ = some (.int .i64 t.1) ∧ w.cell? ⟨g, i * 2 + 1, none⟩ = some (.int .i64 t.2) := by
  rcases h with ⟨rfl, rfl⟩ | ⟨g, c, rfl, h1, h2, h3⟩
  · exact ⟨none, 0, rfl, fun i t ht => by simp at ht⟩
  · exact ⟨_, c, rfl, fun i t ht => ⟨g, rfl, h2, h3 i t ht⟩⟩

set_option maxRecDepth 100000 in
set_option maxHeartbeats 6400000 in
theorem fpoints_c1 (a b c n : Int) (w : World) (h : (formF a b c).1 ≠ 0) : Calls Try.prog 3 #[.agg #[.int .i64 a, .int .i64 b, .int .i64 c], .int .i64 n] w fun e w' => e = .returned (.bool true) ∧ Below w.heap.size w w' := by
  obtain ⟨k, m, hkm⟩ : ∃ k m, formF a b c = (k, m) := ⟨_, _, rfl⟩
  have hk : k ≠ 0 := by rw [hkm] at h; exact h
  have CP := fun W => hide (points_f1 a b c n k m W hk hkm)
  have CF := fun W => hide (formFault_any a b c W)
  unfold RetFault at CF
  rw [hkm] at CF
  simp only [fv] at CF
  have k1 : (k != 0) = true := by simpa using hk
  have k2 : (k == 0) = false := by simpa using hk
  have k3 : decide (k = 0) = false := by simpa using hk
  clear h hkm hk
  have CB := fun W => hide (formBegun_any W)
  have H0 := hide (PmSt.start w a b c)
  go_enter Try.func3, Try.ntmps3
  go_wp2_with fail
  refine (CP _).out.mono ?_
  rintro e w1 ⟨rfl, hb⟩
  have H1 := hide ((H0.out.below hb).fpE k m)
  clear hb H0 CP
  go_upto_region 2 with (fail)
  obtain ⟨W1, hW⟩ : ∃ Z, w1.alloc (.cells #[.int .i64 k, .int .i64 m] 26) = Z := ⟨_, rfl⟩
  rw [hW] at H1
  (try rw [hW])
  obtain ⟨q1, hq⟩ : ∃ q, w1.heap.size = q := ⟨_, rfl⟩
  rw [hq] at H1
  (try rw [hq])
  clear hW hq
  obtain ⟨f0, f1, f2⟩ := H1.out.f.cells
  go_wp2_with fail
  refine (CF _).out.mono ?_
  rintro e w2 ⟨rfl, hb⟩
  have H2 := hide ((H1.out.below hb).v k m)
  clear hb H1 CF f0 f1 f2
  go_upto_region 3 with (fail)
  obtain ⟨W2, hW⟩ : ∃ Z, w2.alloc (.cells #[.int .i64 k, .int .i64 m] 26) = Z := ⟨_, rfl⟩
  rw [hW] at H2
  (try rw [hW])
  obtain ⟨q2, hq⟩ : ∃ q, w2.heap.size = q := ⟨_, rfl⟩
  rw [hq] at H2
  (try rw [hq])
  clear hW hq
  obtain ⟨v0, v1, _, _⟩ := H2.out.v.cells
  go_wp2_with fail
  refine (CB _).out.mono ?_
  rintro e w3 ⟨rfl, hb⟩
  have H3 := hide (H2.out.below hb)
  clear hb H2 v0 v1 CB
  obtain ⟨v0, v1, _, _⟩ := H3.out.v.cells
  obtain ⟨e0, e1, _, _⟩ := H3.out.e.cells
  go_wp2_with fail
  go_ret
  exact ⟨rfl, H3.out.b⟩

set_option maxRecDepth 100000 in
set_option maxHeartbeats 6400000 in
theorem fpoints_c2 (a b c n : Int) (w : World) (h : (formF a b c).1 = 0) (hn : n < 0 ∨ 1000000 < n) : Calls Try.prog 3 #[.agg #[.int .i64 a, .int .i64 b, .int .i64 c], .int .i64 n] w fun e w' => e = .returned (.bool true) ∧ Below w.heap.size w w' := by
  have CP := fun W => hide (points_f2 a b c n W h hn)
  have CF := fun W => hide (formFault_any a b c W)
  unfold RetFault at CF
  rw [(formF_zero h).1] at CF
  simp only [fv] at CF
  have CE := fun W => hide (refF_any 3 0 W)
  have hq : decide (n < 0) = true ∨ (decide (n < 0) = false ∧ decide (1000000 < n) = true) := by
    by_cases h0 : n < 0
    · left; simpa using h0
    · right
      refine ⟨by simpa using h0, ?_⟩
      simp; omega
  clear h hn
  have CB := fun W => hide (formBegun_any W)
  have H0 := hide (PmSt.start w a b c)
  go_enter Try.func3, Try.ntmps3
  go_wp2_with fail
  refine (CP _).out.mono ?_
  rintro e w1 ⟨rfl, hb⟩
  have H1 := hide ((H0.out.below hb).fpE 3 0)
  clear hb H0 CP
  go_upto_region 2 with (fail)
  obtain ⟨W1, hW⟩ : ∃ Z, w1.alloc (.cells #[.int .i64 3, .int .i64 0] 26) = Z := ⟨_, rfl⟩
  rw [hW] at H1
  (try rw [hW])
  obtain ⟨q1, hq⟩ : ∃ q, w1.heap.size = q := ⟨_, rfl⟩
  rw [hq] at H1
  (try rw [hq])
  clear hW hq
  obtain ⟨f0, f1, f2⟩ := H1.out.f.cells
  go_wp2_with fail
  refine (CF _).out.mono ?_
  rintro e w2 ⟨rfl, hb⟩
  have H2 := hide ((H1.out.below hb).v 0 0)
  clear hb H1 CF f0 f1 f2
  go_upto_region 3 with (fail)
  obtain ⟨W2, hW⟩ : ∃ Z, w2.alloc (.cells #[.int .i64 0, .int .i64 0] 26) = Z := ⟨_, rfl⟩
  rw [hW] at H2
  (try rw [hW])
  obtain ⟨q2, hq⟩ : ∃ q, w2.heap.size = q := ⟨_, rfl⟩
  rw [hq] at H2
  (try rw [hq])
  clear hW hq
  obtain ⟨v0, v1, v2, v3⟩ := H2.out.v.cells
  rcases hq with h0 | ⟨h0, h1⟩
  all_goals
    go_wp2_with fail
    refine (CE _).out.mono ?_
    rintro e w3 ⟨rfl, hb⟩
    have H3 := hide ((H2.out.below hb).set 3 0)
    clear v0 v1 v2 v3
    obtain ⟨v0, v1, v2, v3⟩ := (H2.out.below hb).v.cells
    clear hb
    go_upto_region 5 with (fail)
    obtain ⟨W3, hW⟩ : ∃ Z, (w3.setCell ⟨q2, 0, none⟩ (.int .i64 3)).setCell ⟨q2, 1, none⟩ (.int .i64 0) = Z := ⟨_, rfl⟩
    rw [hW] at H3
    (try rw [hW])
    clear hW v0 v1 v2 v3
    go_wp2_with fail
    refine (CB _).out.mono ?_
    rintro e w4 ⟨rfl, hb⟩
    have H4 := hide (H3.out.below hb)
    clear hb H2 H3 CB
    obtain ⟨v0, v1, _, _⟩ := H4.out.v.cells
    obtain ⟨e0, e1, _, _⟩ := H4.out.e.cells
    go_wp2_with fail
    go_ret
    exact ⟨rfl, H4.out.b⟩

set_option maxRecDepth 100000 in
set_option maxHeartbeats 6400000 in
theorem fpoints_c3 (a b c n : Int) (w : World) (h : (formF a b c).1 = 0) (hn : 0 ≤ n) (hn2 : n ≤ 1000000) : Calls Try.prog 3 #[.agg #[.int .i64 a, .int .i64 b, .int .i64 c], .int .i64 n] w fun e w' => e = .returned (.bool true) ∧ Below w.heap.size w w' := by
  have z := formF_zero h
  have CP := fun W => hide (points_ok a b c n W h hn hn2)
  have CF := fun W => hide (formFault_any a b c W)
  unfold RetFault at CF
  rw [z.1] at CF
  simp only [fv] at CF
  have HVAL := hide (fun (L : List (Int × Int)) (x y : Int) (hp : PtsOf a b c n L) (hm : (x, y) ∈ L) => ptsof_val hp z.2.2.2.2.1 z.2.1.2 z.2.2.2.2.2.1 z.2.2.2.1.2 z.2.2.2.2.2.2.1 hn hn2 hm)
  have CL : ∀ x y : Int, -2000000 ≤ x → x ≤ 2000000 → -2000000 ≤ y → y ≤ 2000000 → x * x * a + x * y * b + y * y * c = n → ∀ W, Hid (Calls Try.prog 12 #[.agg #[.int .i64 a, .int .i64 b, .int .i64 c], .int .i64 x, .int .i64 y] W (RetNew W n)) := by
    intro x y h1 h2 h3 h4 e W
    have := longValue_any a b c x y W (by omega) (by omega) (by omega) (by omega) (by omega)
    rw [e] at this
    exact hide this
  have HCL := hide CL
  clear CL
  have C2 := fun W => hide (b_any n W (by omega) (by omega))
  have HV := hide (lim_256 (x := n.natAbs) (by omega))
  have HI := hide (icmp_self n)
  obtain ⟨D, hD⟩ : ∃ D, b * b - 4 * a * c = D := ⟨_, rfl⟩
  have hDn : D < 0 := by rw [← hD]; exact z.2.2.2.2.2.2.1
  have hDl : -4000000000000 ≤ D := by
    have e1 := sq_nn b
    have e2 := mul_le_of (x := a) (y := c) (N := 1000000) (M := 1000000) (by omega) (by omega) (by omega) (by omega)
    rw [Int.mul_assoc 4 a c] at hD
    omega
  have CR := fun W => hide (reducedOf_any a b c D W (OInv.start (by omega) (by omega) (by omega) (by omega) hD.symm) hDn (by omega))
  have CM := fun (A B C : Int) (W : World) (r : RedF A B C) (e : D = B * B - 4 * A * C) => hide (pointsMany_any A B C n D W r e hDl hDn hn hn2)
  have HLN := hide (fun (A B C : Int) (L M : List (Int × Int)) (hp : PtsOf a b c n L) (r : RedF A B C) (o : OInv D a b c A B C) (hM : Has M (fun x y => tA A B C x y = n)) => ptsof_len hp (by omega) hD.symm hDn r o hM)
  unfold RetOf at CR
  have q1 : decide (n < 0) = false := by simp; omega
  have q2 : decide (1000000 < n) = false := by simp; omega
  have CB := fun W => hide (formBegun_any W)
  have H0 := hide (PmSt.start w a b c)
  have HN2 := hide hn2
  clear h z hn hn2 hD hDn hDl
  go_enter Try.func3, Try.ntmps3
  go_wp2_with fail
  refine (CP _).out.mono ?_
  rintro e w1 ⟨⟨v, L, rfl, hr, hp⟩, hb⟩
  obtain ⟨A, cp, rfl, hA⟩ := hr.open_
  have HP := hide hp
  have H1 := hide ((H0.out.below hb).fpE 0 0)
  have hw1 : w1.heap.size ≤ (w1.alloc (.cells #[.int .i64 0, .int .i64 0] 26)).heap.size := by simp
  have HA := hide (fun W (k : Below (w1.alloc (.cells #[.int .i64 0, .int .i64 0] 26)).heap.size (w1.alloc (.cells #[.int .i64 0, .int .i64 0] 26)) W) (i : Nat) (t : Int × Int) (ht : L[i]? = some t) => show ∃ g, A = some ⟨g, 0, none⟩ ∧ W.cell? ⟨g, i * 2, none⟩ = some (.int .i64 t.1) ∧ W.cell? ⟨g, i * 2 + 1, none⟩ = some (.int .i64 t.2) from by
    obtain ⟨g, e1, e2, e3, e4⟩ := hA i t ht
    have kk := (bel_obj w1 (.cells #[.int .i64 0, .int .i64 0] 26)).trans (k.mono hw1)
    exact ⟨g, e1, (kk.cell (p := ⟨g, i * 2, none⟩) e2).trans e3, (kk.cell (p := ⟨g, i * 2 + 1, none⟩) e2).trans e4⟩)
  have HSRT := hide (ptsof_sorted hp)
  have HNL := hide (ptsof_short hp HN2.out)
  obtain ⟨N, hN⟩ : ∃ N, L.length = N := ⟨_, rfl⟩
  have HN := hide hN
  rw [hN] at HNL
  rw [hN]
  clear hr hA hp hb H0 CP hw1 hN
  go_upto_region 2 with (fail)
  obtain ⟨W1, hW⟩ : ∃ Z, w1.alloc (.cells #[.int .i64 0, .int .i64 0] 26) = Z := ⟨_, rfl⟩
  rw [hW] at H1 HA
  (try rw [hW])
  obtain ⟨q1', hq⟩ : ∃ q, w1.heap.size = q := ⟨_, rfl⟩
  rw [hq] at H1
  (try rw [hq])
  clear hW hq
  obtain ⟨f0, f1, f2⟩ := H1.out.f.cells
  go_wp2_with fail
  refine (CF _).out.mono ?_
  rintro e w2 ⟨rfl, hb⟩
  have H2 := hide ((H1.out.below hb).v 0 0)
  have HB2 := hide (hb.alloc hb.size (.cells #[.int .i64 0, .int .i64 0] 26))
  clear hb H1 CF f0 f1 f2
  go_upto_region 3 with (fail)
  obtain ⟨W2, hW⟩ : ∃ Z, w2.alloc (.cells #[.int .i64 0, .int .i64 0] 26) = Z := ⟨_, rfl⟩
  rw [hW] at H2 HB2
  (try rw [hW])
  obtain ⟨q2', hq⟩ : ∃ q, w2.heap.size = q := ⟨_, rfl⟩
  rw [hq] at H2
  (try rw [hq])
  clear hW hq
  obtain ⟨v0, v1, v2, v3⟩ := H2.out.v.cells
  go_wp2_with fail
  refine (CB _).out.mono ?_
  rintro e w4 ⟨rfl, hb⟩
  have H4 := hide (H2.out.below hb)
  have HA4 := hide (fun W (k : Below w4.heap.size w4 W) => HA.out W ((HB2.out.trans (hb.mono HB2.out.size)).trans (k.mono (Nat.le_trans HB2.out.size hb.size))))
  clear hb H2 HB2 HA CB v0 v1 v2 v3 q1 q2
  obtain ⟨v0, v1, _, _⟩ := H4.out.v.cells
  obtain ⟨e0, e1, _, _⟩ := H4.out.e.cells
  have KF := fun W (k : Below w4.heap.size w4 W) => hide ((H4.out.f.below k).cells)
  have HBB := hide H4.out.b
  go_wp2_with fail
  clear v0 v1 e0 e1 H4
  go_loopw [8] (fun iv wr => ∃ i : Nat, i ≤ N ∧ iv = .int .i64 i ∧ Hid (Below w4.heap.size w4 wr)) (fun iv _ => N - (intOf iv).toNat)
  case atStart => exact ⟨0, by omega, rfl, hide (Below.refl _ _)⟩
  case round =>
    obtain ⟨i, hi, rfl, HW⟩ := hrel
    obtain ⟨wo, rfl⟩ : ∃ Z, Z = wr := ⟨_, rfl⟩
    by_cases hin : i < N
    · obtain ⟨t, ht⟩ : ∃ t, L[i]? = some t := ⟨_, List.getElem?_eq_getElem (by rw [HN.out]; exact hin)⟩
      obtain ⟨x, y⟩ := t
      obtain ⟨g, rfl, _, _⟩ := HA4.out wo HW.out i (x, y) ht
      obtain ⟨hv, ⟨hx1, hx2⟩, hy1, hy2⟩ := HVAL.out L x y HP.out (List.mem_of_getElem? ht)
      have C1 := HCL.out x y hx1 hx2 hy1 hy2 hv
      clear hv hx1 hx2 hy1 hy2
      go_upto_region 12 with (fail)
      go_cut [109] (fun bb wd => bb = .bool false ∧ Hid (Below w4.heap.size w4 wd))
      case rest => as_aux_lemma =>
        obtain ⟨rfl, HWD⟩ := hcut
        have I7 : wrap64 ((i : Int) + 1) = (i : Int) + 1 := by have := HNL.out; unfold wrap64; omega
        go_wp2_with fail
        (try simp only [I7])
        exact ⟨⟨i + 1, by omega, rfl, HWD⟩, by simp [intOf]; omega⟩
      case first => cases i with
      | zero =>
        as_aux_lemma =>
        have K0 := fun W (k : Below w4.heap.size w4 W) => hide (show (((W.cell? ⟨w.heap.size, 0, none⟩ = some (.int .i64 a) ∧ W.cell? ⟨w.heap.size, 1, none⟩ = some (.int .i64 b) ∧ W.cell? ⟨w.heap.size, 2, none⟩ = some (.int .i64 c)) ∧ (W.cell? ⟨g, 0, none⟩ = some (.int .i64 x) ∧ W.cell? ⟨g, 1, none⟩ = some (.int .i64 y))) ∧ Hid (Below w4.heap.size w4 W)) from ⟨⟨(KF W k).out, by obtain ⟨g', e, c1, c2⟩ := HA4.out W k 0 (x, y) ht; injection e with e; injection e with e _ _; subst e; simpa using And.intro c1 c2⟩, hide k⟩)
        have q5 : decide ((0 : Int) < ((0 : Nat) : Int)) = false := by decide
        refine wp_region_P (fun W => ((W.cell? ⟨w.heap.size, 0, none⟩ = some (.int .i64 a) ∧ W.cell? ⟨w.heap.size, 1, none⟩ = some (.int .i64 b) ∧ W.cell? ⟨w.heap.size, 2, none⟩ = some (.int .i64 c)) ∧ (W.cell? ⟨g, 0, none⟩ = some (.int .i64 x) ∧ W.cell? ⟨g, 1, none⟩ = some (.int .i64 y))) ∧ Hid (Below w4.heap.size w4 W)) 61 (by rfl) ((K0 _ (HW.out.trans ((below_drewN (Below.refl _ _) 1).mono HW.out.size))).out) ?_
        intro hS
        refine wpAnyP_take 0 48 [0, 11, 14, 16, 61] (v := ?_) rfl (by kernel_rfl) (by kernel_rfl) (by kernel_rfl) (by kernel_rfl) (by kernel_rfl) (by kernel_rfl) (by rfl) (fun _ _ _ h => h) (Or.inl ⟨by rfl, ?_⟩) hS ?_; rotate_left
        · (intro w hSw; (try dsimp only at hSw); go_simp; (try with_reducible rfl))
        (try simp only [List.setIfInBounds_toArray, List.set_cons_zero, List.set_cons_succ])
        refine wpAnyP_take 1 49 [1, 3, 4, 5, 11, 14, 16, 61] (v := ?_) rfl (by kernel_rfl) (by kernel_rfl) (by kernel_rfl) (by kernel_rfl) (by kernel_rfl) (by kernel_rfl) (by rfl) (fun _ _ _ h => h) (Or.inl ⟨by rfl, ?_⟩) hS ?_; rotate_left
        · (intro w hSw; (try dsimp only at hSw); go_simp; (try with_reducible rfl))
        (try simp only [List.setIfInBounds_toArray, List.set_cons_zero, List.set_cons_succ])
        refine wpAnyP_take 2 50 [2, 3, 4, 5, 11, 14, 16, 61] (v := ?_) rfl (by kernel_rfl) (by kernel_rfl) (by kernel_rfl) (by kernel_rfl) (by kernel_rfl) (by kernel_rfl) (by rfl) (fun _ _ _ h => h) (Or.inl ⟨by rfl, ?_⟩) hS ?_; rotate_left
        · (intro w hSw; (try dsimp only at hSw); go_simp; (try with_reducible rfl))
        (try simp only [List.setIfInBounds_toArray, List.set_cons_zero, List.set_cons_succ])
        refine wpAnyP_take 3 51 [3, 4, 5, 11, 14, 16, 61] (v := ?_) rfl (by kernel_rfl) (by kernel_rfl) (by kernel_rfl) (by kernel_rfl) (by kernel_rfl) (by kernel_rfl) (by rfl) (fun _ _ _ h => h) (Or.inl ⟨by rfl, ?_⟩) hS ?_; rotate_left
        · (intro w hSw; (try dsimp only at hSw); go_simp; (try with_reducible rfl))
        (try simp only [List.setIfInBounds_toArray, List.set_cons_zero, List.set_cons_succ])
        refine wpAnyP_take 4 52 [4, 5, 11, 14, 16, 61] (v := ?_) rfl (by kernel_rfl) (by kernel_rfl) (by kernel_rfl) (by kernel_rfl) (by kernel_rfl) (by kernel_rfl) (by rfl) (fun _ _ _ h => h) (Or.inl ⟨by rfl, ?_⟩) hS ?_; rotate_left
        · (intro w hSw; (try dsimp only at hSw); go_simp; (try with_reducible rfl))
        (try simp only [List.setIfInBounds_toArray, List.set_cons_zero, List.set_cons_succ])
        refine wpAnyP_take 5 53 [5, 11, 14, 16, 61] (v := ?_) rfl (by kernel_rfl) (by kernel_rfl) (by kernel_rfl) (by kernel_rfl) (by kernel_rfl) (by kernel_rfl) (by rfl) (fun _ _ _ h => h) (Or.inl ⟨by rfl, ?_⟩) hS ?_; rotate_left
        · (intro w hSw; (try dsimp only at hSw); go_simp; (try with_reducible rfl))
        (try simp only [List.setIfInBounds_toArray, List.set_cons_zero, List.set_cons_succ])
        refine wpAnyP_take 6 54 [6, 8, 9, 10, 11, 14, 16, 61] (v := ?_) rfl (by kernel_rfl) (by kernel_rfl) (by kernel_rfl) (by kernel_rfl) (by kernel_rfl) (by kernel_rfl) (by rfl) (fun _ _ _ h => h) (Or.inl ⟨by rfl, ?_⟩) hS ?_; rotate_left
        · (intro w hSw; (try dsimp only at hSw); go_simp; (try with_reducible rfl))
        (try simp only [List.setIfInBounds_toArray, List.set_cons_zero, List.set_cons_succ])
        refine wpAnyP_take 7 55 [7, 8, 9, 10, 11, 14, 16, 61] (v := ?_) rfl (by kernel_rfl) (by kernel_rfl) (by kernel_rfl) (by kernel_rfl) (by kernel_rfl) (by kernel_rfl) (by rfl) (fun _ _ _ h => h) (Or.inl ⟨by rfl, ?_⟩) hS ?_; rotate_left
        · (intro w hSw; (try dsimp only at hSw); go_simp; (try with_reducible rfl))
        (try simp only [List.setIfInBounds_toArray, List.set_cons_zero, List.set_cons_succ])
        refine wpAnyP_take 8 56 [8, 9, 10, 11, 14, 16, 61] (v := ?_) rfl (by kernel_rfl) (by kernel_rfl) (by kernel_rfl) (by kernel_rfl) (by kernel_rfl) (by kernel_rfl) (by rfl) (fun _ _ _ h => h) (Or.inl ⟨by rfl, ?_⟩) hS ?_; rotate_left
        · (intro w hSw; (try dsimp only at hSw); go_simp; (try with_reducible rfl))
        (try simp only [List.setIfInBounds_toArray, List.set_cons_zero, List.set_cons_succ])
        refine wpAnyP_take 9 57 [9, 10, 11, 14, 16, 61] (v := ?_) rfl (by kernel_rfl) (by kernel_rfl) (by kernel_rfl) (by kernel_rfl) (by kernel_rfl) (by kernel_rfl) (by rfl) (fun _ _ _ h => h) (Or.inl ⟨by rfl, ?_⟩) hS ?_; rotate_left
        · (intro w hSw; (try dsimp only at hSw); go_simp; (try with_reducible rfl))
        (try simp only [List.setIfInBounds_toArray, List.set_cons_zero, List.set_cons_succ])
        refine wpAnyP_take 10 58 [10, 11, 14, 16, 61] (v := ?_) rfl (by kernel_rfl) (by kernel_rfl) (by kernel_rfl) (by kernel_rfl) (by kernel_rfl) (by kernel_rfl) (by rfl) (fun _ _ _ h => h) (Or.inl ⟨by rfl, ?_⟩) hS ?_; rotate_left
        · (intro w hSw; (try dsimp only at hSw); go_simp; (try with_reducible rfl))
        (try simp only [List.setIfInBounds_toArray, List.set_cons_zero, List.set_cons_succ])
        refine wpAnyP_take 12 60 [12, 13, 14, 16, 61] (v := ?_) rfl (by kernel_rfl) (by kernel_rfl) (by kernel_rfl) (by kernel_rfl) (by kernel_rfl) (by kernel_rfl) (by rfl) (fun _ _ _ h => h) (Or.inl ⟨by rfl, ?_⟩) hS ?_; rotate_left
        · (intro w hSw; (try dsimp only at hSw); go_simp; (try with_reducible rfl))
        (try simp only [List.setIfInBounds_toArray, List.set_cons_zero, List.set_cons_succ])
        refine wpAnyP_one 11 rfl (by kernel_rfl) (fun K hK => ?_)
        go_simp
        refine (C1 _).out.mono ?_
        rintro e w5 ⟨g5, rfl, _, i5, hb⟩
        have hy := hS.2.out.trans (hb.mono hS.2.out.size)
        clear hS
        have hS := (K0 _ hy).out
        clear hb hy
        refine hK.out _ _ (fun _ => hS) ?_
        clear hK K
        (try simp only [Act.put, List.setIfInBounds_toArray, List.set_cons_zero, List.set_cons_succ])
        refine wpAnyP_one 13 rfl (by kernel_rfl) (fun K hK => ?_)
        go_simp
        refine (C2 _).out.mono ?_
        rintro e w6 ⟨g6, rfl, _, i6, hb⟩
        have i5 := IntAt.below i5 hb
        have hy := hS.2.out.trans (hb.mono hS.2.out.size)
        clear hS
        have hS := (K0 _ hy).out
        clear hb hy
        refine hK.out _ _ (fun _ => hS) ?_
        clear hK K
        (try simp only [Act.put, List.setIfInBounds_toArray, List.set_cons_zero, List.set_cons_succ])
        refine wpAnyP_one 14 rfl (by kernel_rfl) (fun K hK => ?_)
        go_simp
        refine (cmp_int _ _ n n _ i5 i6 HV.out HV.out).mono ?_
        rintro e w7 ⟨rfl, hb⟩
        rw [HI.out]
        have hy := hS.2.out.trans (hb.mono hS.2.out.size)
        clear hS
        have hS := (K0 _ hy).out
        clear hb hy
        refine hK.out _ _ (fun _ => hS) ?_
        clear hK K
        (try simp only [Act.put, List.setIfInBounds_toArray, List.set_cons_zero, List.set_cons_succ])
        refine wpAnyP_take 15 63 [15, 16, 61] (v := ?_) rfl (by kernel_rfl) (by kernel_rfl) (by kernel_rfl) (by kernel_rfl) (by kernel_rfl) (by kernel_rfl) (by rfl) (fun _ _ _ h => h) (Or.inl ⟨by rfl, ?_⟩) hS ?_; rotate_left
        · (intro w hSw; (try dsimp only at hSw); go_simp; (try with_reducible rfl))
        (try simp only [List.setIfInBounds_toArray, List.set_cons_zero, List.set_cons_succ])
        refine wpAnyP_take 16 64 [16, 61] (v := ?_) rfl (by kernel_rfl) (by kernel_rfl) (by kernel_rfl) (by kernel_rfl) (by kernel_rfl) (by kernel_rfl) (by rfl) (fun _ _ _ h => h) (Or.inl ⟨by rfl, ?_⟩) hS ?_; rotate_left
        · (intro w hSw; (try dsimp only at hSw); go_simp; (try with_reducible rfl))
        (try simp only [List.setIfInBounds_toArray, List.set_cons_zero, List.set_cons_succ])
        refine wpAnyP_take 17 65 [17, 18, 19, 60, 61] (v := ?_) rfl (by kernel_rfl) (by kernel_rfl) (by kernel_rfl) (by kernel_rfl) (by kernel_rfl) (by kernel_rfl) (by rfl) (fun _ _ _ h => h) (Or.inl ⟨by rfl, ?_⟩) hS ?_; rotate_left
        · (intro w hSw; (try dsimp only at hSw); go_simp; (try with_reducible rfl))
        (try simp only [List.setIfInBounds_toArray, List.set_cons_zero, List.set_cons_succ])
        refine wpAnyP_take 18 66 [18, 19, 60, 61] (v := ?_) rfl (by kernel_rfl) (by kernel_rfl) (by kernel_rfl) (by kernel_rfl) (by kernel_rfl) (by kernel_rfl) (by rfl) (fun _ _ _ h => h) (Or.inl ⟨by rfl, ?_⟩) hS ?_; rotate_left
        · (intro w hSw; (try dsimp only at hSw); go_simp; (try with_reducible rfl))
        (try simp only [List.setIfInBounds_toArray, List.set_cons_zero, List.set_cons_succ])
        refine wpAnyP_take 19 67 [19, 60, 61] (v := ?_) rfl (by kernel_rfl) (by kernel_rfl) (by kernel_rfl) (by kernel_rfl) (by kernel_rfl) (by kernel_rfl) (by rfl) (fun _ _ _ h => h) (Or.inl ⟨by rfl, ?_⟩) hS ?_; rotate_left
        · (intro w hSw; (try dsimp only at hSw); go_simp; (try with_reducible rfl))
        (try simp only [List.setIfInBounds_toArray, List.set_cons_zero, List.set_cons_succ])
        refine wpAnyP_take 20 68 [20, 23, 24, 25, 31, 32, 59, 60, 61] (v := undef) rfl (by kernel_rfl) (by kernel_rfl) (by kernel_rfl) (by kernel_rfl) (by kernel_rfl) (by kernel_rfl) (by rfl) (fun _ _ _ h => h) (Or.inr ⟨by rfl, rfl⟩) hS ?_
        (try simp only [List.setIfInBounds_toArray, List.set_cons_zero, List.set_cons_succ])
        refine wpAnyP_take 21 69 [21, 22, 23, 24, 25, 31, 32, 59, 60, 61] (v := undef) rfl (by kernel_rfl) (by kernel_rfl) (by kernel_rfl) (by kernel_rfl) (by kernel_rfl) (by kernel_rfl) (by rfl) (fun _ _ _ h => h) (Or.inr ⟨by rfl, rfl⟩) hS ?_
        (try simp only [List.setIfInBounds_toArray, List.set_cons_zero, List.set_cons_succ])
        refine wpAnyP_take 22 70 [22, 23, 24, 25, 31, 32, 59, 60, 61] (v := undef) rfl (by kernel_rfl) (by kernel_rfl) (by kernel_rfl) (by kernel_rfl) (by kernel_rfl) (by kernel_rfl) (by rfl) (fun _ _ _ h => h) (Or.inr ⟨by rfl, rfl⟩) hS ?_
        (try simp only [List.setIfInBounds_toArray, List.set_cons_zero, List.set_cons_succ])
        refine wpAnyP_take 23 71 [23, 24, 25, 31, 32, 59, 60, 61] (v := undef) rfl (by kernel_rfl) (by kernel_rfl) (by kernel_rfl) (by kernel_rfl) (by kernel_rfl) (by kernel_rfl) (by rfl) (fun _ _ _ h => h) (Or.inr ⟨by rfl, rfl⟩) hS ?_
        (try simp only [List.setIfInBounds_toArray, List.set_cons_zero, List.set_cons_succ])
        refine wpAnyP_take 24 72 [24, 25, 31, 32, 59, 60, 61] (v := undef) rfl (by kernel_rfl) (by kernel_rfl) (by kernel_rfl) (by kernel_rfl) (by kernel_rfl) (by kernel_rfl) (by rfl) (fun _ _ _ h => h) (Or.inr ⟨by rfl, rfl⟩) hS ?_
        (try simp only [List.setIfInBounds_toArray, List.set_cons_zero, List.set_cons_succ])
        refine wpAnyP_take 25 73 [25, 31, 32, 59, 60, 61] (v := undef) rfl (by kernel_rfl) (by kernel_rfl) (by kernel_rfl) (by kernel_rfl) (by kernel_rfl) (by kernel_rfl) (by rfl) (fun _ _ _ h => h) (Or.inr ⟨by rfl, rfl⟩) hS ?_
        (try simp only [List.setIfInBounds_toArray, List.set_cons_zero, List.set_cons_succ])
        refine wpAnyP_take 26 74 [26, 28, 29, 30, 31, 32, 59, 60, 61] (v := undef) rfl (by kernel_rfl) (by kernel_rfl) (by kernel_rfl) (by kernel_rfl) (by kernel_rfl) (by kernel_rfl) (by rfl) (fun _ _ _ h => h) (Or.inr ⟨by rfl, rfl⟩) hS ?_
        (try simp only [List.setIfInBounds_toArray, List.set_cons_zero, List.set_cons_succ])
        refine wpAnyP_take 27 75 [27, 28, 29, 30, 31, 32, 59, 60, 61] (v := undef) rfl (by kernel_rfl) (by kernel_rfl) (by kernel_rfl) (by kernel_rfl) (by kernel_rfl) (by kernel_rfl) (by rfl) (fun _ _ _ h => h) (Or.inr ⟨by rfl, rfl⟩) hS ?_
        (try simp only [List.setIfInBounds_toArray, List.set_cons_zero, List.set_cons_succ])
        refine wpAnyP_take 28 76 [28, 29, 30, 31, 32, 59, 60, 61] (v := undef) rfl (by kernel_rfl) (by kernel_rfl) (by kernel_rfl) (by kernel_rfl) (by kernel_rfl) (by kernel_rfl) (by rfl) (fun _ _ _ h => h) (Or.inr ⟨by rfl, rfl⟩) hS ?_
        (try simp only [List.setIfInBounds_toArray, List.set_cons_zero, List.set_cons_succ])
        refine wpAnyP_take 29 77 [29, 30, 31, 32, 59, 60, 61] (v := undef) rfl (by kernel_rfl) (by kernel_rfl) (by kernel_rfl) (by kernel_rfl) (by kernel_rfl) (by kernel_rfl) (by rfl) (fun _ _ _ h => h) (Or.inr ⟨by rfl, rfl⟩) hS ?_
        (try simp only [List.setIfInBounds_toArray, List.set_cons_zero, List.set_cons_succ])
        refine wpAnyP_take 30 78 [30, 31, 32, 59, 60, 61] (v := undef) rfl (by kernel_rfl) (by kernel_rfl) (by kernel_rfl) (by kernel_rfl) (by kernel_rfl) (by kernel_rfl) (by rfl) (fun _ _ _ h => h) (Or.inr ⟨by rfl, rfl⟩) hS ?_
        (try simp only [List.setIfInBounds_toArray, List.set_cons_zero, List.set_cons_succ])
        refine wpAnyP_take 31 79 [31, 32, 59, 60, 61] (v := undef) rfl (by kernel_rfl) (by kernel_rfl) (by kernel_rfl) (by kernel_rfl) (by kernel_rfl) (by kernel_rfl) (by rfl) (fun _ _ _ h => h) (Or.inr ⟨by rfl, rfl⟩) hS ?_
        (try simp only [List.setIfInBounds_toArray, List.set_cons_zero, List.set_cons_succ])
        refine wpAnyP_take 32 80 [32, 59, 60, 61] (v := undef) rfl (by kernel_rfl) (by kernel_rfl) (by kernel_rfl) (by kernel_rfl) (by kernel_rfl) (by kernel_rfl) (by rfl) (fun _ _ _ h => h) (Or.inr ⟨by rfl, rfl⟩) hS ?_
        (try simp only [List.setIfInBounds_toArray, List.set_cons_zero, List.set_cons_succ])
        refine wpAnyP_take 33 81 [33, 36, 37, 38, 44, 45, 58, 59, 60, 61] (v := undef) rfl (by kernel_rfl) (by kernel_rfl) (by kernel_rfl) (by kernel_rfl) (by kernel_rfl) (by kernel_rfl) (by rfl) (fun _ _ _ h => h) (Or.inr ⟨by rfl, rfl⟩) hS ?_
        (try simp only [List.setIfInBounds_toArray, List.set_cons_zero, List.set_cons_succ])
        refine wpAnyP_take 34 82 [34, 35, 36, 37, 38, 44, 45, 58, 59, 60, 61] (v := undef) rfl (by kernel_rfl) (by kernel_rfl) (by kernel_rfl) (by kernel_rfl) (by kernel_rfl) (by kernel_rfl) (by rfl) (fun _ _ _ h => h) (Or.inr ⟨by rfl, rfl⟩) hS ?_
        (try simp only [List.setIfInBounds_toArray, List.set_cons_zero, List.set_cons_succ])
        refine wpAnyP_take 35 83 [35, 36, 37, 38, 44, 45, 58, 59, 60, 61] (v := undef) rfl (by kernel_rfl) (by kernel_rfl) (by kernel_rfl) (by kernel_rfl) (by kernel_rfl) (by kernel_rfl) (by rfl) (fun _ _ _ h => h) (Or.inr ⟨by rfl, rfl⟩) hS ?_
        (try simp only [List.setIfInBounds_toArray, List.set_cons_zero, List.set_cons_succ])
        refine wpAnyP_take 36 84 [36, 37, 38, 44, 45, 58, 59, 60, 61] (v := undef) rfl (by kernel_rfl) (by kernel_rfl) (by kernel_rfl) (by kernel_rfl) (by kernel_rfl) (by kernel_rfl) (by rfl) (fun _ _ _ h => h) (Or.inr ⟨by rfl, rfl⟩) hS ?_
        (try simp only [List.setIfInBounds_toArray, List.set_cons_zero, List.set_cons_succ])
        refine wpAnyP_take 37 85 [37, 38, 44, 45, 58, 59, 60, 61] (v := undef) rfl (by kernel_rfl) (by kernel_rfl) (by kernel_rfl) (by kernel_rfl) (by kernel_rfl) (by kernel_rfl) (by rfl) (fun _ _ _ h => h) (Or.inr ⟨by rfl, rfl⟩) hS ?_
        (try simp only [List.setIfInBounds_toArray, List.set_cons_zero, List.set_cons_succ])
        refine wpAnyP_take 38 86 [38, 44, 45, 58, 59, 60, 61] (v := undef) rfl (by kernel_rfl) (by kernel_rfl) (by kernel_rfl) (by kernel_rfl) (by kernel_rfl) (by kernel_rfl) (by rfl) (fun _ _ _ h => h) (Or.inr ⟨by rfl, rfl⟩) hS ?_
        (try simp only [List.setIfInBounds_toArray, List.set_cons_zero, List.set_cons_succ])
        refine wpAnyP_take 39 87 [39, 41, 42, 43, 44, 45, 58, 59, 60, 61] (v := undef) rfl (by kernel_rfl) (by kernel_rfl) (by kernel_rfl) (by kernel_rfl) (by kernel_rfl) (by kernel_rfl) (by rfl) (fun _ _ _ h => h) (Or.inr ⟨by rfl, rfl⟩) hS ?_
        (try simp only [List.setIfInBounds_toArray, List.set_cons_zero, List.set_cons_succ])
        refine wpAnyP_take 40 88 [40, 41, 42, 43, 44, 45, 58, 59, 60, 61] (v := undef) rfl (by kernel_rfl) (by kernel_rfl) (by kernel_rfl) (by kernel_rfl) (by kernel_rfl) (by kernel_rfl) (by rfl) (fun _ _ _ h => h) (Or.inr ⟨by rfl, rfl⟩) hS ?_
        (try simp only [List.setIfInBounds_toArray, List.set_cons_zero, List.set_cons_succ])
        refine wpAnyP_take 41 89 [41, 42, 43, 44, 45, 58, 59, 60, 61] (v := undef) rfl (by kernel_rfl) (by kernel_rfl) (by kernel_rfl) (by kernel_rfl) (by kernel_rfl) (by kernel_rfl) (by rfl) (fun _ _ _ h => h) (Or.inr ⟨by rfl, rfl⟩) hS ?_
        (try simp only [List.setIfInBounds_toArray, List.set_cons_zero, List.set_cons_succ])
        refine wpAnyP_take 42 90 [42, 43, 44, 45, 58, 59, 60, 61] (v := undef) rfl (by kernel_rfl) (by kernel_rfl) (by kernel_rfl) (by kernel_rfl) (by kernel_rfl) (by kernel_rfl) (by rfl) (fun _ _ _ h => h) (Or.inr ⟨by rfl, rfl⟩) hS ?_
        (try simp only [List.setIfInBounds_toArray, List.set_cons_zero, List.set_cons_succ])
        refine wpAnyP_take 43 91 [43, 44, 45, 58, 59, 60, 61] (v := undef) rfl (by kernel_rfl) (by kernel_rfl) (by kernel_rfl) (by kernel_rfl) (by kernel_rfl) (by kernel_rfl) (by rfl) (fun _ _ _ h => h) (Or.inr ⟨by rfl, rfl⟩) hS ?_
        (try simp only [List.setIfInBounds_toArray, List.set_cons_zero, List.set_cons_succ])
        refine wpAnyP_take 44 92 [44, 45, 58, 59, 60, 61] (v := undef) rfl (by kernel_rfl) (by kernel_rfl) (by kernel_rfl) (by kernel_rfl) (by kernel_rfl) (by kernel_rfl) (by rfl) (fun _ _ _ h => h) (Or.inr ⟨by rfl, rfl⟩) hS ?_
        (try simp only [List.setIfInBounds_toArray, List.set_cons_zero, List.set_cons_succ])
        refine wpAnyP_take 45 93 [45, 58, 59, 60, 61] (v := undef) rfl (by kernel_rfl) (by kernel_rfl) (by kernel_rfl) (by kernel_rfl) (by kernel_rfl) (by kernel_rfl) (by rfl) (fun _ _ _ h => h) (Or.inr ⟨by rfl, rfl⟩) hS ?_
        (try simp only [List.setIfInBounds_toArray, List.set_cons_zero, List.set_cons_succ])
        refine wpAnyP_take 46 94 [46, 49, 50, 51, 57, 58, 59, 60, 61] (v := undef) rfl (by kernel_rfl) (by kernel_rfl) (by kernel_rfl) (by kernel_rfl) (by kernel_rfl) (by kernel_rfl) (by rfl) (fun _ _ _ h => h) (Or.inr ⟨by rfl, rfl⟩) hS ?_
        (try simp only [List.setIfInBounds_toArray, List.set_cons_zero, List.set_cons_succ])
        refine wpAnyP_take 47 95 [47, 48, 49, 50, 51, 57, 58, 59, 60, 61] (v := undef) rfl (by kernel_rfl) (by kernel_rfl) (by kernel_rfl) (by kernel_rfl) (by kernel_rfl) (by kernel_rfl) (by rfl) (fun _ _ _ h => h) (Or.inr ⟨by rfl, rfl⟩) hS ?_
        (try simp only [List.setIfInBounds_toArray, List.set_cons_zero, List.set_cons_succ])
        refine wpAnyP_take 48 96 [48, 49, 50, 51, 57, 58, 59, 60, 61] (v := undef) rfl (by kernel_rfl) (by kernel_rfl) (by kernel_rfl) (by kernel_rfl) (by kernel_rfl) (by kernel_rfl) (by rfl) (fun _ _ _ h => h) (Or.inr ⟨by rfl, rfl⟩) hS ?_
        (try simp only [List.setIfInBounds_toArray, List.set_cons_zero, List.set_cons_succ])
        refine wpAnyP_take 49 97 [49, 50, 51, 57, 58, 59, 60, 61] (v := undef) rfl (by kernel_rfl) (by kernel_rfl) (by kernel_rfl) (by kernel_rfl) (by kernel_rfl) (by kernel_rfl) (by rfl) (fun _ _ _ h => h) (Or.inr ⟨by rfl, rfl⟩) hS ?_
        (try simp only [List.setIfInBounds_toArray, List.set_cons_zero, List.set_cons_succ])
        refine wpAnyP_take 50 98 [50, 51, 57, 58, 59, 60, 61] (v := undef) rfl (by kernel_rfl) (by kernel_rfl) (by kernel_rfl) (by kernel_rfl) (by kernel_rfl) (by kernel_rfl) (by rfl) (fun _ _ _ h => h) (Or.inr ⟨by rfl, rfl⟩) hS ?_
        (try simp only [List.setIfInBounds_toArray, List.set_cons_zero, List.set_cons_succ])
        refine wpAnyP_take 51 99 [51, 57, 58, 59, 60, 61] (v := undef) rfl (by kernel_rfl) (by kernel_rfl) (by kernel_rfl) (by kernel_rfl) (by kernel_rfl) (by kernel_rfl) (by rfl) (fun _ _ _ h => h) (Or.inr ⟨by rfl, rfl⟩) hS ?_
        (try simp only [List.setIfInBounds_toArray, List.set_cons_zero, List.set_cons_succ])
        refine wpAnyP_take 52 100 [52, 54, 55, 56, 57, 58, 59, 60, 61] (v := undef) rfl (by kernel_rfl) (by kernel_rfl) (by kernel_rfl) (by kernel_rfl) (by kernel_rfl) (by kernel_rfl) (by rfl) (fun _ _ _ h => h) (Or.inr ⟨by rfl, rfl⟩) hS ?_
        (try simp only [List.setIfInBounds_toArray, List.set_cons_zero, List.set_cons_succ])
        refine wpAnyP_take 53 101 [53, 54, 55, 56, 57, 58, 59, 60, 61] (v := undef) rfl (by kernel_rfl) (by kernel_rfl) (by kernel_rfl) (by kernel_rfl) (by kernel_rfl) (by kernel_rfl) (by rfl) (fun _ _ _ h => h) (Or.inr ⟨by rfl, rfl⟩) hS ?_
        (try simp only [List.setIfInBounds_toArray, List.set_cons_zero, List.set_cons_succ])
        refine wpAnyP_take 54 102 [54, 55, 56, 57, 58, 59, 60, 61] (v := undef) rfl (by kernel_rfl) (by kernel_rfl) (by kernel_rfl) (by kernel_rfl) (by kernel_rfl) (by kernel_rfl) (by rfl) (fun _ _ _ h => h) (Or.inr ⟨by rfl, rfl⟩) hS ?_
        (try simp only [List.setIfInBounds_toArray, List.set_cons_zero, List.set_cons_succ])
        refine wpAnyP_take 55 103 [55, 56, 57, 58, 59, 60, 61] (v := undef) rfl (by kernel_rfl) (by kernel_rfl) (by kernel_rfl) (by kernel_rfl) (by kernel_rfl) (by kernel_rfl) (by rfl) (fun _ _ _ h => h) (Or.inr ⟨by rfl, rfl⟩) hS ?_
        (try simp only [List.setIfInBounds_toArray, List.set_cons_zero, List.set_cons_succ])
        refine wpAnyP_take 56 104 [56, 57, 58, 59, 60, 61] (v := undef) rfl (by kernel_rfl) (by kernel_rfl) (by kernel_rfl) (by kernel_rfl) (by kernel_rfl) (by kernel_rfl) (by rfl) (fun _ _ _ h => h) (Or.inr ⟨by rfl, rfl⟩) hS ?_
        (try simp only [List.setIfInBounds_toArray, List.set_cons_zero, List.set_cons_succ])
        refine wpAnyP_take 57 105 [57, 58, 59, 60, 61] (v := undef) rfl (by kernel_rfl) (by kernel_rfl) (by kernel_rfl) (by kernel_rfl) (by kernel_rfl) (by kernel_rfl) (by rfl) (fun _ _ _ h => h) (Or.inr ⟨by rfl, rfl⟩) hS ?_
        (try simp only [List.setIfInBounds_toArray, List.set_cons_zero, List.set_cons_succ])
        refine wpAnyP_take 58 106 [58, 59, 60, 61] (v := undef) rfl (by kernel_rfl) (by kernel_rfl) (by kernel_rfl) (by kernel_rfl) (by kernel_rfl) (by kernel_rfl) (by rfl) (fun _ _ _ h => h) (Or.inr ⟨by rfl, rfl⟩) hS ?_
        (try simp only [List.setIfInBounds_toArray, List.set_cons_zero, List.set_cons_succ])
        refine wpAnyP_take 59 107 [59, 60, 61] (v := undef) rfl (by kernel_rfl) (by kernel_rfl) (by kernel_rfl) (by kernel_rfl) (by kernel_rfl) (by kernel_rfl) (by rfl) (fun _ _ _ h => h) (Or.inr ⟨by rfl, rfl⟩) hS ?_
        (try simp only [List.setIfInBounds_toArray, List.set_cons_zero, List.set_cons_succ])
        refine wpAnyP_take 60 108 [60, 61] (v := ?_) rfl (by kernel_rfl) (by kernel_rfl) (by kernel_rfl) (by kernel_rfl) (by kernel_rfl) (by kernel_rfl) (by rfl) (fun _ _ _ h => h) (Or.inl ⟨by rfl, ?_⟩) hS ?_; rotate_left
        · (intro w hSw; (try dsimp only at hSw); go_simp; (try with_reducible rfl))
        (try simp only [List.setIfInBounds_toArray, List.set_cons_zero, List.set_cons_succ])
        refine wpAnyP_one 61 rfl (by kernel_rfl) (fun K hK => ?_)
        go_simp
        refine hK.out _ _ (fun _ => hS) ?_
        clear hK K
        (try simp only [Act.put, List.setIfInBounds_toArray, List.set_cons_zero, List.set_cons_succ])
        refine wpAnyP_done (by kernel_rfl) ?_ _
        have HS2 := hS.2
        clear hS
        go_wp2_with fail
        go_meet
        exact ⟨rfl, HS2⟩
      | succ j =>
        obtain ⟨⟨x0, y0⟩, hs⟩ : ∃ s, L[j]? = some s := ⟨_, List.getElem?_eq_getElem (by rw [HN.out]; omega)⟩
        have hlt : x0 < x ∨ x0 = x ∧ y0 < y := by
          have := List.pairwise_iff_getElem.1 HSRT.out j (j + 1) (by rw [HN.out]; omega) (by rw [HN.out]; omega) (by omega)
          obtain ⟨_, z1⟩ := List.getElem?_eq_some_iff.1 hs
          obtain ⟨_, z2⟩ := List.getElem?_eq_some_iff.1 ht
          rw [z1, z2] at this
          exact this
        have b1 : (0 : Int) ≤ (j : Int) + 1 := by omega
        have b2 : (j : Int) + 1 < (N : Int) := by omega
        have b3 : (0 : Int) ≤ (j : Int) := by omega
        have b4 : (j : Int) < (N : Int) := by omega
        have KS := fun W (k : Below w4.heap.size w4 W) => hide (show (((W.cell? ⟨w.heap.size, 0, none⟩ = some (.int .i64 a) ∧ W.cell? ⟨w.heap.size, 1, none⟩ = some (.int .i64 b) ∧ W.cell? ⟨w.heap.size, 2, none⟩ = some (.int .i64 c)) ∧ (W.cell? ⟨g, (j + 1) * 2, none⟩ = some (.int .i64 x) ∧ W.cell? ⟨g, (j + 1) * 2 + 1, none⟩ = some (.int .i64 y)) ∧ (W.cell? ⟨g, j * 2, none⟩ = some (.int .i64 x0) ∧ W.cell? ⟨g, j * 2 + 1, none⟩ = some (.int .i64 y0))) ∧ Hid (Below w4.heap.size w4 W)) from ⟨⟨(KF W k).out, by obtain ⟨g', e, c1, c2⟩ := HA4.out W k (j + 1) (x, y) ht; injection e with e; injection e with e _ _; subst e; exact ⟨c1, c2⟩, by obtain ⟨g', e, c1, c2⟩ := HA4.out W k j (x0, y0) hs; injection e with e; injection e with e _ _; subst e; exact ⟨c1, c2⟩⟩, hide k⟩)
        have q5 : decide ((0 : Int) < (j : Int) + 1) = true := by rw [decide_eq_true_eq]; omega
        have I5 : IntKind.i64.wrap ((j : Int) + 1 - 1) = (j : Int) := by rw [IntKind.wrap_i64]; have := HNL.out; omega
        have I6 : IntKind.i64.wrap (j : Int) = (j : Int) := by rw [IntKind.wrap_i64]; have := HNL.out; omega
        clear ht hs
        rcases hlt with hlt | ⟨rfl, hlt⟩
        · as_aux_lemma =>
          have r1 : decide (x < x0) = false := by simp; omega
          have r2 : decide (x0 = x) = false := by simp; omega
          have r2' : (x0 == x) = false := by simp; omega
          clear hlt
          refine wp_region_P (fun W => ((W.cell? ⟨w.heap.size, 0, none⟩ = some (.int .i64 a) ∧ W.cell? ⟨w.heap.size, 1, none⟩ = some (.int .i64 b) ∧ W.cell? ⟨w.heap.size, 2, none⟩ = some (.int .i64 c)) ∧ (W.cell? ⟨g, (j + 1) * 2, none⟩ = some (.int .i64 x) ∧ W.cell? ⟨g, (j + 1) * 2 + 1, none⟩ = some (.int .i64 y)) ∧ (W.cell? ⟨g, j * 2, none⟩ = some (.int .i64 x0) ∧ W.cell? ⟨g, j * 2 + 1, none⟩ = some (.int .i64 y0))) ∧ Hid (Below w4.heap.size w4 W)) 61 (by rfl) ((KS _ (HW.out.trans ((below_drewN (Below.refl _ _) 1).mono HW.out.size))).out) ?_
          intro hS
          refine wpAnyP_take 0 48 [0, 11, 14, 16, 61] (v := ?_) rfl (by kernel_rfl) (by kernel_rfl) (by kernel_rfl) (by kernel_rfl) (by kernel_rfl) (by kernel_rfl) (by rfl) (fun _ _ _ h => h) (Or.inl ⟨by rfl, ?_⟩) hS ?_; rotate_left
          · (intro w hSw; (try dsimp only at hSw); go_simp; (try with_reducible rfl))
          (try simp only [List.setIfInBounds_toArray, List.set_cons_zero, List.set_cons_succ])
          refine wpAnyP_take 1 49 [1, 3, 4, 5, 11, 14, 16, 61] (v := ?_) rfl (by kernel_rfl) (by kernel_rfl) (by kernel_rfl) (by kernel_rfl) (by kernel_rfl) (by kernel_rfl) (by rfl) (fun _ _ _ h => h) (Or.inl ⟨by rfl, ?_⟩) hS ?_; rotate_left
          · (intro w hSw; (try dsimp only at hSw); go_simp; (try with_reducible rfl))
          (try simp only [List.setIfInBounds_toArray, List.set_cons_zero, List.set_cons_succ])
          refine wpAnyP_take 2 50 [2, 3, 4, 5, 11, 14, 16, 61] (v := ?_) rfl (by kernel_rfl) (by kernel_rfl) (by kernel_rfl) (by kernel_rfl) (by kernel_rfl) (by kernel_rfl) (by rfl) (fun _ _ _ h => h) (Or.inl ⟨by rfl, ?_⟩) hS ?_; rotate_left
          · (intro w hSw; (try dsimp only at hSw); go_simp; (try with_reducible rfl))
          (try simp only [List.setIfInBounds_toArray, List.set_cons_zero, List.set_cons_succ])
          refine wpAnyP_take 3 51 [3, 4, 5, 11, 14, 16, 61] (v := ?_) rfl (by kernel_rfl) (by kernel_rfl) (by kernel_rfl) (by kernel_rfl) (by kernel_rfl) (by kernel_rfl) (by rfl) (fun _ _ _ h => h) (Or.inl ⟨by rfl, ?_⟩) hS ?_; rotate_left
          · (intro w hSw; (try dsimp only at hSw); go_simp; (try with_reducible rfl))
          (try simp only [List.setIfInBounds_toArray, List.set_cons_zero, List.set_cons_succ])
          refine wpAnyP_take 4 52 [4, 5, 11, 14, 16, 61] (v := ?_) rfl (by kernel_rfl) (by kernel_rfl) (by kernel_rfl) (by kernel_rfl) (by kernel_rfl) (by kernel_rfl) (by rfl) (fun _ _ _ h => h) (Or.inl ⟨by rfl, ?_⟩) hS ?_; rotate_left
          · (intro w hSw; (try dsimp only at hSw); go_simp; (try with_reducible rfl))
          (try simp only [List.setIfInBounds_toArray, List.set_cons_zero, List.set_cons_succ])
          refine wpAnyP_take 5 53 [5, 11, 14, 16, 61] (v := ?_) rfl (by kernel_rfl) (by kernel_rfl) (by kernel_rfl) (by kernel_rfl) (by kernel_rfl) (by kernel_rfl) (by rfl) (fun _ _ _ h => h) (Or.inl ⟨by rfl, ?_⟩) hS ?_; rotate_left
          · (intro w hSw; (try dsimp only at hSw); go_simp; (try with_reducible rfl))
          (try simp only [List.setIfInBounds_toArray, List.set_cons_zero, List.set_cons_succ])
          refine wpAnyP_take 6 54 [6, 8, 9, 10, 11, 14, 16, 61] (v := ?_) rfl (by kernel_rfl) (by kernel_rfl) (by kernel_rfl) (by kernel_rfl) (by kernel_rfl) (by kernel_rfl) (by rfl) (fun _ _ _ h => h) (Or.inl ⟨by rfl, ?_⟩) hS ?_; rotate_left
          · (intro w hSw; (try dsimp only at hSw); go_simp; (try with_reducible rfl))
          (try simp only [List.setIfInBounds_toArray, List.set_cons_zero, List.set_cons_succ])
          refine wpAnyP_take 7 55 [7, 8, 9, 10, 11, 14, 16, 61] (v := ?_) rfl (by kernel_rfl) (by kernel_rfl) (by kernel_rfl) (by kernel_rfl) (by kernel_rfl) (by kernel_rfl) (by rfl) (fun _ _ _ h => h) (Or.inl ⟨by rfl, ?_⟩) hS ?_; rotate_left
          · (intro w hSw; (try dsimp only at hSw); go_simp; (try with_reducible rfl))
          (try simp only [List.setIfInBounds_toArray, List.set_cons_zero, List.set_cons_succ])
          refine wpAnyP_take 8 56 [8, 9, 10, 11, 14, 16, 61] (v := ?_) rfl (by kernel_rfl) (by kernel_rfl) (by kernel_rfl) (by kernel_rfl) (by kernel_rfl) (by kernel_rfl) (by rfl) (fun _ _ _ h => h) (Or.inl ⟨by rfl, ?_⟩) hS ?_; rotate_left
          · (intro w hSw; (try dsimp only at hSw); go_simp; (try with_reducible rfl))
          (try simp only [List.setIfInBounds_toArray, List.set_cons_zero, List.set_cons_succ])
          refine wpAnyP_take 9 57 [9, 10, 11, 14, 16, 61] (v := ?_) rfl (by kernel_rfl) (by kernel_rfl) (by kernel_rfl) (by kernel_rfl) (by kernel_rfl) (by kernel_rfl) (by rfl) (fun _ _ _ h => h) (Or.inl ⟨by rfl, ?_⟩) hS ?_; rotate_left
          · (intro w hSw; (try dsimp only at hSw); go_simp; (try with_reducible rfl))
          (try simp only [List.setIfInBounds_toArray, List.set_cons_zero, List.set_cons_succ])
          refine wpAnyP_take 10 58 [10, 11, 14, 16, 61] (v := ?_) rfl (by kernel_rfl) (by kernel_rfl) (by kernel_rfl) (by kernel_rfl) (by kernel_rfl) (by kernel_rfl) (by rfl) (fun _ _ _ h => h) (Or.inl ⟨by rfl, ?_⟩) hS ?_; rotate_left
          · (intro w hSw; (try dsimp only at hSw); go_simp; (try with_reducible rfl))
          (try simp only [List.setIfInBounds_toArray, List.set_cons_zero, List.set_cons_succ])
          refine wpAnyP_take 12 60 [12, 13, 14, 16, 61] (v := ?_) rfl (by kernel_rfl) (by kernel_rfl) (by kernel_rfl) (by kernel_rfl) (by kernel_rfl) (by kernel_rfl) (by rfl) (fun _ _ _ h => h) (Or.inl ⟨by rfl, ?_⟩) hS ?_; rotate_left
          · (intro w hSw; (try dsimp only at hSw); go_simp; (try with_reducible rfl))
          (try simp only [List.setIfInBounds_toArray, List.set_cons_zero, List.set_cons_succ])
          refine wpAnyP_one 11 rfl (by kernel_rfl) (fun K hK => ?_)
          go_simp
          refine (C1 _).out.mono ?_
          rintro e w5 ⟨g5, rfl, _, i5, hb⟩
          have hy := hS.2.out.trans (hb.mono hS.2.out.size)
          clear hS
          have hS := (KS _ hy).out
          clear hb hy
          refine hK.out _ _ (fun _ => hS) ?_
          clear hK K
          (try simp only [Act.put, List.setIfInBounds_toArray, List.set_cons_zero, List.set_cons_succ])
          refine wpAnyP_one 13 rfl (by kernel_rfl) (fun K hK => ?_)
          go_simp
          refine (C2 _).out.mono ?_
          rintro e w6 ⟨g6, rfl, _, i6, hb⟩
          have i5 := IntAt.below i5 hb
          have hy := hS.2.out.trans (hb.mono hS.2.out.size)
          clear hS
          have hS := (KS _ hy).out
          clear hb hy
          refine hK.out _ _ (fun _ => hS) ?_
          clear hK K
          (try simp only [Act.put, List.setIfInBounds_toArray, List.set_cons_zero, List.set_cons_succ])
          refine wpAnyP_one 14 rfl (by kernel_rfl) (fun K hK => ?_)
          go_simp
          refine (cmp_int _ _ n n _ i5 i6 HV.out HV.out).mono ?_
          rintro e w7 ⟨rfl, hb⟩
          rw [HI.out]
          have hy := hS.2.out.trans (hb.mono hS.2.out.size)
          clear hS
          have hS := (KS _ hy).out
          clear hb hy
          refine hK.out _ _ (fun _ => hS) ?_
          clear hK K
          (try simp only [Act.put, List.setIfInBounds_toArray, List.set_cons_zero, List.set_cons_succ])
          refine wpAnyP_take 15 63 [15, 16, 61] (v := ?_) rfl (by kernel_rfl) (by kernel_rfl) (by kernel_rfl) (by kernel_rfl) (by kernel_rfl) (by kernel_rfl) (by rfl) (fun _ _ _ h => h) (Or.inl ⟨by rfl, ?_⟩) hS ?_; rotate_left
          · (intro w hSw; (try dsimp only at hSw); go_simp; (try with_reducible rfl))
          (try simp only [List.setIfInBounds_toArray, List.set_cons_zero, List.set_cons_succ])
          refine wpAnyP_take 16 64 [16, 61] (v := ?_) rfl (by kernel_rfl) (by kernel_rfl) (by kernel_rfl) (by kernel_rfl) (by kernel_rfl) (by kernel_rfl) (by rfl) (fun _ _ _ h => h) (Or.inl ⟨by rfl, ?_⟩) hS ?_; rotate_left
          · (intro w hSw; (try dsimp only at hSw); go_simp; (try with_reducible rfl))
          (try simp only [List.setIfInBounds_toArray, List.set_cons_zero, List.set_cons_succ])
          refine wpAnyP_take 17 65 [17, 18, 19, 60, 61] (v := ?_) rfl (by kernel_rfl) (by kernel_rfl) (by kernel_rfl) (by kernel_rfl) (by kernel_rfl) (by kernel_rfl) (by rfl) (fun _ _ _ h => h) (Or.inl ⟨by rfl, ?_⟩) hS ?_; rotate_left
          · (intro w hSw; (try dsimp only at hSw); go_simp; (try with_reducible rfl))
          (try simp only [List.setIfInBounds_toArray, List.set_cons_zero, List.set_cons_succ])
          refine wpAnyP_take 18 66 [18, 19, 60, 61] (v := ?_) rfl (by kernel_rfl) (by kernel_rfl) (by kernel_rfl) (by kernel_rfl) (by kernel_rfl) (by kernel_rfl) (by rfl) (fun _ _ _ h => h) (Or.inl ⟨by rfl, ?_⟩) hS ?_; rotate_left
          · (intro w hSw; (try dsimp only at hSw); go_simp; (try with_reducible rfl))
          (try simp only [List.setIfInBounds_toArray, List.set_cons_zero, List.set_cons_succ])
          refine wpAnyP_take 19 67 [19, 60, 61] (v := ?_) rfl (by kernel_rfl) (by kernel_rfl) (by kernel_rfl) (by kernel_rfl) (by kernel_rfl) (by kernel_rfl) (by rfl) (fun _ _ _ h => h) (Or.inl ⟨by rfl, ?_⟩) hS ?_; rotate_left
          · (intro w hSw; (try dsimp only at hSw); go_simp; (try with_reducible rfl))
          (try simp only [List.setIfInBounds_toArray, List.set_cons_zero, List.set_cons_succ])
          refine wpAnyP_take 20 68 [20, 23, 24, 25, 31, 32, 59, 60, 61] (v := ?_) rfl (by kernel_rfl) (by kernel_rfl) (by kernel_rfl) (by kernel_rfl) (by kernel_rfl) (by kernel_rfl) (by rfl) (fun _ _ _ h => h) (Or.inl ⟨by rfl, ?_⟩) hS ?_; rotate_left
          · (intro w hSw; (try dsimp only at hSw); go_simp; (try with_reducible rfl))
          (try simp only [List.setIfInBounds_toArray, List.set_cons_zero, List.set_cons_succ])
          refine wpAnyP_take 21 69 [21, 22, 23, 24, 25, 31, 32, 59, 60, 61] (v := ?_) rfl (by kernel_rfl) (by kernel_rfl) (by kernel_rfl) (by kernel_rfl) (by kernel_rfl) (by kernel_rfl) (by rfl) (fun _ _ _ h => h) (Or.inl ⟨by rfl, ?_⟩) hS ?_; rotate_left
          · (intro w hSw; (try dsimp only at hSw); go_simp; (try with_reducible rfl))
          (try simp only [List.setIfInBounds_toArray, List.set_cons_zero, List.set_cons_succ])
          refine wpAnyP_take 22 70 [22, 23, 24, 25, 31, 32, 59, 60, 61] (v := ?_) rfl (by kernel_rfl) (by kernel_rfl) (by kernel_rfl) (by kernel_rfl) (by kernel_rfl) (by kernel_rfl) (by rfl) (fun _ _ _ h => h) (Or.inl ⟨by rfl, ?_⟩) hS ?_; rotate_left
          · (intro w hSw; (try dsimp only at hSw); go_simp; (try with_reducible rfl))
          (try simp only [List.setIfInBounds_toArray, List.set_cons_zero, List.set_cons_succ])
          refine wpAnyP_take 23 71 [23, 24, 25, 31, 32, 59, 60, 61] (v := ?_) rfl (by kernel_rfl) (by kernel_rfl) (by kernel_rfl) (by kernel_rfl) (by kernel_rfl) (by kernel_rfl) (by rfl) (fun _ _ _ h => h) (Or.inl ⟨by rfl, ?_⟩) hS ?_; rotate_left
          · (intro w hSw; (try dsimp only at hSw); go_simp; (try with_reducible rfl))
          (try simp only [List.setIfInBounds_toArray, List.set_cons_zero, List.set_cons_succ])
          refine wpAnyP_take 24 72 [24, 25, 31, 32, 59, 60, 61] (v := ?_) rfl (by kernel_rfl) (by kernel_rfl) (by kernel_rfl) (by kernel_rfl) (by kernel_rfl) (by kernel_rfl) (by rfl) (fun _ _ _ h => h) (Or.inl ⟨by rfl, ?_⟩) hS ?_; rotate_left
          · (intro w hSw; (try dsimp only at hSw); go_simp; (try with_reducible rfl))
          (try simp only [List.setIfInBounds_toArray, List.set_cons_zero, List.set_cons_succ])
          refine wpAnyP_take 25 73 [25, 31, 32, 59, 60, 61] (v := ?_) rfl (by kernel_rfl) (by kernel_rfl) (by kernel_rfl) (by kernel_rfl) (by kernel_rfl) (by kernel_rfl) (by rfl) (fun _ _ _ h => h) (Or.inl ⟨by rfl, ?_⟩) hS ?_; rotate_left
          · (intro w hSw; (try dsimp only at hSw); go_simp; (try with_reducible rfl))
          (try simp only [List.setIfInBounds_toArray, List.set_cons_zero, List.set_cons_succ])
          refine wpAnyP_take 26 74 [26, 28, 29, 30, 31, 32, 59, 60, 61] (v := ?_) rfl (by kernel_rfl) (by kernel_rfl) (by kernel_rfl) (by kernel_rfl) (by kernel_rfl) (by kernel_rfl) (by rfl) (fun _ _ _ h => h) (Or.inl ⟨by rfl, ?_⟩) hS ?_; rotate_left
          · (intro w hSw; (try dsimp only at hSw); go_simp; (try with_reducible rfl))
          (try simp only [List.setIfInBounds_toArray, List.set_cons_zero, List.set_cons_succ])
          refine wpAnyP_take 27 75 [27, 28, 29, 30, 31, 32, 59, 60, 61] (v := ?_) rfl (by kernel_rfl) (by kernel_rfl) (by kernel_rfl) (by kernel_rfl) (by kernel_rfl) (by kernel_rfl) (by rfl) (fun _ _ _ h => h) (Or.inl ⟨by rfl, ?_⟩) hS ?_; rotate_left
          · (intro w hSw; (try dsimp only at hSw); go_simp; (try with_reducible rfl))
          (try simp only [List.setIfInBounds_toArray, List.set_cons_zero, List.set_cons_succ])
          refine wpAnyP_take 28 76 [28, 29, 30, 31, 32, 59, 60, 61] (v := ?_) rfl (by kernel_rfl) (by kernel_rfl) (by kernel_rfl) (by kernel_rfl) (by kernel_rfl) (by kernel_rfl) (by rfl) (fun _ _ _ h => h) (Or.inl ⟨by rfl, ?_⟩) hS ?_; rotate_left
          · (intro w hSw; (try dsimp only at hSw); go_simp; (try with_reducible rfl))
          (try simp only [List.setIfInBounds_toArray, List.set_cons_zero, List.set_cons_succ])
          refine wpAnyP_take 29 77 [29, 30, 31, 32, 59, 60, 61] (v := ?_) rfl (by kernel_rfl) (by kernel_rfl) (by kernel_rfl) (by kernel_rfl) (by kernel_rfl) (by kernel_rfl) (by rfl) (fun _ _ _ h => h) (Or.inl ⟨by rfl, ?_⟩) hS ?_; rotate_left
          · (intro w hSw; (try dsimp only at hSw); go_simp; (try with_reducible rfl))
          (try simp only [List.setIfInBounds_toArray, List.set_cons_zero, List.set_cons_succ])
          refine wpAnyP_take 30 78 [30, 31, 32, 59, 60, 61] (v := ?_) rfl (by kernel_rfl) (by kernel_rfl) (by kernel_rfl) (by kernel_rfl) (by kernel_rfl) (by kernel_rfl) (by rfl) (fun _ _ _ h => h) (Or.inl ⟨by rfl, ?_⟩) hS ?_; rotate_left
          · (intro w hSw; (try dsimp only at hSw); go_simp; (try with_reducible rfl))
          (try simp only [List.setIfInBounds_toArray, List.set_cons_zero, List.set_cons_succ])
          refine wpAnyP_take 31 79 [31, 32, 59, 60, 61] (v := ?_) rfl (by kernel_rfl) (by kernel_rfl) (by kernel_rfl) (by kernel_rfl) (by kernel_rfl) (by kernel_rfl) (by rfl) (fun _ _ _ h => h) (Or.inl ⟨by rfl, ?_⟩) hS ?_; rotate_left
          · (intro w hSw; (try dsimp only at hSw); go_simp; (try with_reducible rfl))
          (try simp only [List.setIfInBounds_toArray, List.set_cons_zero, List.set_cons_succ])
          refine wpAnyP_take 32 80 [32, 59, 60, 61] (v := ?_) rfl (by kernel_rfl) (by kernel_rfl) (by kernel_rfl) (by kernel_rfl) (by kernel_rfl) (by kernel_rfl) (by rfl) (fun _ _ _ h => h) (Or.inl ⟨by rfl, ?_⟩) hS ?_; rotate_left
          · (intro w hSw; (try dsimp only at hSw); go_simp; (try with_reducible rfl))
          (try simp only [List.setIfInBounds_toArray, List.set_cons_zero, List.set_cons_succ])
          refine wpAnyP_take 33 81 [33, 36, 37, 38, 44, 45, 58, 59, 60, 61] (v := ?_) rfl (by kernel_rfl) (by kernel_rfl) (by kernel_rfl) (by kernel_rfl) (by kernel_rfl) (by kernel_rfl) (by rfl) (fun _ _ _ h => h) (Or.inl ⟨by rfl, ?_⟩) hS ?_; rotate_left
          · (intro w hSw; (try dsimp only at hSw); go_simp; (try with_reducible rfl))
          (try simp only [List.setIfInBounds_toArray, List.set_cons_zero, List.set_cons_succ])
          refine wpAnyP_take 34 82 [34, 35, 36, 37, 38, 44, 45, 58, 59, 60, 61] (v := ?_) rfl (by kernel_rfl) (by kernel_rfl) (by kernel_rfl) (by kernel_rfl) (by kernel_rfl) (by kernel_rfl) (by rfl) (fun _ _ _ h => h) (Or.inl ⟨by rfl, ?_⟩) hS ?_; rotate_left
          · (intro w hSw; (try dsimp only at hSw); go_simp; (try with_reducible rfl))
          (try simp only [List.setIfInBounds_toArray, List.set_cons_zero, List.set_cons_succ])
          refine wpAnyP_take 35 83 [35, 36, 37, 38, 44, 45, 58, 59, 60, 61] (v := ?_) rfl (by kernel_rfl) (by kernel_rfl) (by kernel_rfl) (by kernel_rfl) (by kernel_rfl) (by kernel_rfl) (by rfl) (fun _ _ _ h => h) (Or.inl ⟨by rfl, ?_⟩) hS ?_; rotate_left
          · (intro w hSw; (try dsimp only at hSw); go_simp; (try with_reducible rfl))
          (try simp only [List.setIfInBounds_toArray, List.set_cons_zero, List.set_cons_succ])
          refine wpAnyP_take 36 84 [36, 37, 38, 44, 45, 58, 59, 60, 61] (v := ?_) rfl (by kernel_rfl) (by kernel_rfl) (by kernel_rfl) (by kernel_rfl) (by kernel_rfl) (by kernel_rfl) (by rfl) (fun _ _ _ h => h) (Or.inl ⟨by rfl, ?_⟩) hS ?_; rotate_left
          · (intro w hSw; (try dsimp only at hSw); go_simp; (try with_reducible rfl))
          (try simp only [List.setIfInBounds_toArray, List.set_cons_zero, List.set_cons_succ])
          refine wpAnyP_take 37 85 [37, 38, 44, 45, 58, 59, 60, 61] (v := ?_) rfl (by kernel_rfl) (by kernel_rfl) (by kernel_rfl) (by kernel_rfl) (by kernel_rfl) (by kernel_rfl) (by rfl) (fun _ _ _ h => h) (Or.inl ⟨by rfl, ?_⟩) hS ?_; rotate_left
          · (intro w hSw; (try dsimp only at hSw); go_simp; (try with_reducible rfl))
          (try simp only [List.setIfInBounds_toArray, List.set_cons_zero, List.set_cons_succ])
          refine wpAnyP_take 38 86 [38, 44, 45, 58, 59, 60, 61] (v := ?_) rfl (by kernel_rfl) (by kernel_rfl) (by kernel_rfl) (by kernel_rfl) (by kernel_rfl) (by kernel_rfl) (by rfl) (fun _ _ _ h => h) (Or.inl ⟨by rfl, ?_⟩) hS ?_; rotate_left
          · (intro w hSw; (try dsimp only at hSw); go_simp; (try with_reducible rfl))
          (try simp only [List.setIfInBounds_toArray, List.set_cons_zero, List.set_cons_succ])
          refine wpAnyP_take 39 87 [39, 41, 42, 43, 44, 45, 58, 59, 60, 61] (v := ?_) rfl (by kernel_rfl) (by kernel_rfl) (by kernel_rfl) (by kernel_rfl) (by kernel_rfl) (by kernel_rfl) (by rfl) (fun _ _ _ h => h) (Or.inl ⟨by rfl, ?_⟩) hS ?_; rotate_left
          · (intro w hSw; (try dsimp only at hSw); go_simp; (try with_reducible rfl))
          (try simp only [List.setIfInBounds_toArray, List.set_cons_zero, List.set_cons_succ])
          refine wpAnyP_take 40 88 [40, 41, 42, 43, 44, 45, 58, 59, 60, 61] (v := ?_) rfl (by kernel_rfl) (by kernel_rfl) (by kernel_rfl) (by kernel_rfl) (by kernel_rfl) (by kernel_rfl) (by rfl) (fun _ _ _ h => h) (Or.inl ⟨by rfl, ?_⟩) hS ?_; rotate_left
          · (intro w hSw; (try dsimp only at hSw); go_simp; (try with_reducible rfl))
          (try simp only [List.setIfInBounds_toArray, List.set_cons_zero, List.set_cons_succ])
          refine wpAnyP_take 41 89 [41, 42, 43, 44, 45, 58, 59, 60, 61] (v := ?_) rfl (by kernel_rfl) (by kernel_rfl) (by kernel_rfl) (by kernel_rfl) (by kernel_rfl) (by kernel_rfl) (by rfl) (fun _ _ _ h => h) (Or.inl ⟨by rfl, ?_⟩) hS ?_; rotate_left
          · (intro w hSw; (try dsimp only at hSw); go_simp; (try with_reducible rfl))
          (try simp only [List.setIfInBounds_toArray, List.set_cons_zero, List.set_cons_succ])
          refine wpAnyP_take 42 90 [42, 43, 44, 45, 58, 59, 60, 61] (v := ?_) rfl (by kernel_rfl) (by kernel_rfl) (by kernel_rfl) (by kernel_rfl) (by kernel_rfl) (by kernel_rfl) (by rfl) (fun _ _ _ h => h) (Or.inl ⟨by rfl, ?_⟩) hS ?_; rotate_left
          · (intro w hSw; (try dsimp only at hSw); go_simp; (try with_reducible rfl))
          (try simp only [List.setIfInBounds_toArray, List.set_cons_zero, List.set_cons_succ])
          refine wpAnyP_take 43 91 [43, 44, 45, 58, 59, 60, 61] (v := ?_) rfl (by kernel_rfl) (by kernel_rfl) (by kernel_rfl) (by kernel_rfl) (by kernel_rfl) (by kernel_rfl) (by rfl) (fun _ _ _ h => h) (Or.inl ⟨by rfl, ?_⟩) hS ?_; rotate_left
          · (intro w hSw; (try dsimp only at hSw); go_simp; (try with_reducible rfl))
          (try simp only [List.setIfInBounds_toArray, List.set_cons_zero, List.set_cons_succ])
          refine wpAnyP_take 44 92 [44, 45, 58, 59, 60, 61] (v := ?_) rfl (by kernel_rfl) (by kernel_rfl) (by kernel_rfl) (by kernel_rfl) (by kernel_rfl) (by kernel_rfl) (by rfl) (fun _ _ _ h => h) (Or.inl ⟨by rfl, ?_⟩) hS ?_; rotate_left
          · (intro w hSw; (try dsimp only at hSw); go_simp; (try with_reducible rfl))
          (try simp only [List.setIfInBounds_toArray, List.set_cons_zero, List.set_cons_succ])
          refine wpAnyP_take 45 93 [45, 58, 59, 60, 61] (v := ?_) rfl (by kernel_rfl) (by kernel_rfl) (by kernel_rfl) (by kernel_rfl) (by kernel_rfl) (by kernel_rfl) (by rfl) (fun _ _ _ h => h) (Or.inl ⟨by rfl, ?_⟩) hS ?_; rotate_left
          · (intro w hSw; (try dsimp only at hSw); go_simp; (try with_reducible rfl))
          (try simp only [List.setIfInBounds_toArray, List.set_cons_zero, List.set_cons_succ])
          refine wpAnyP_take 46 94 [46, 49, 50, 51, 57, 58, 59, 60, 61] (v := undef) rfl (by kernel_rfl) (by kernel_rfl) (by kernel_rfl) (by kernel_rfl) (by kernel_rfl) (by kernel_rfl) (by rfl) (fun _ _ _ h => h) (Or.inr ⟨by rfl, rfl⟩) hS ?_
          (try simp only [List.setIfInBounds_toArray, List.set_cons_zero, List.set_cons_succ])
          refine wpAnyP_take 47 95 [47, 48, 49, 50, 51, 57, 58, 59, 60, 61] (v := undef) rfl (by kernel_rfl) (by kernel_rfl) (by kernel_rfl) (by kernel_rfl) (by kernel_rfl) (by kernel_rfl) (by rfl) (fun _ _ _ h => h) (Or.inr ⟨by rfl, rfl⟩) hS ?_
          (try simp only [List.setIfInBounds_toArray, List.set_cons_zero, List.set_cons_succ])
          refine wpAnyP_take 48 96 [48, 49, 50, 51, 57, 58, 59, 60, 61] (v := undef) rfl (by kernel_rfl) (by kernel_rfl) (by kernel_rfl) (by kernel_rfl) (by kernel_rfl) (by kernel_rfl) (by rfl) (fun _ _ _ h => h) (Or.inr ⟨by rfl, rfl⟩) hS ?_
          (try simp only [List.setIfInBounds_toArray, List.set_cons_zero, List.set_cons_succ])
          refine wpAnyP_take 49 97 [49, 50, 51, 57, 58, 59, 60, 61] (v := undef) rfl (by kernel_rfl) (by kernel_rfl) (by kernel_rfl) (by kernel_rfl) (by kernel_rfl) (by kernel_rfl) (by rfl) (fun _ _ _ h => h) (Or.inr ⟨by rfl, rfl⟩) hS ?_
          (try simp only [List.setIfInBounds_toArray, List.set_cons_zero, List.set_cons_succ])
          refine wpAnyP_take 50 98 [50, 51, 57, 58, 59, 60, 61] (v := undef) rfl (by kernel_rfl) (by kernel_rfl) (by kernel_rfl) (by kernel_rfl) (by kernel_rfl) (by kernel_rfl) (by rfl) (fun _ _ _ h => h) (Or.inr ⟨by rfl, rfl⟩) hS ?_
          (try simp only [List.setIfInBounds_toArray, List.set_cons_zero, List.set_cons_succ])
          refine wpAnyP_take 51 99 [51, 57, 58, 59, 60, 61] (v := undef) rfl (by kernel_rfl) (by kernel_rfl) (by kernel_rfl) (by kernel_rfl) (by kernel_rfl) (by kernel_rfl) (by rfl) (fun _ _ _ h => h) (Or.inr ⟨by rfl, rfl⟩) hS ?_
          (try simp only [List.setIfInBounds_toArray, List.set_cons_zero, List.set_cons_succ])
          refine wpAnyP_take 52 100 [52, 54, 55, 56, 57, 58, 59, 60, 61] (v := undef) rfl (by kernel_rfl) (by kernel_rfl) (by kernel_rfl) (by kernel_rfl) (by kernel_rfl) (by kernel_rfl) (by rfl) (fun _ _ _ h => h) (Or.inr ⟨by rfl, rfl⟩) hS ?_
          (try simp only [List.setIfInBounds_toArray, List.set_cons_zero, List.set_cons_succ])
          refine wpAnyP_take 53 101 [53, 54, 55, 56, 57, 58, 59, 60, 61] (v := undef) rfl (by kernel_rfl) (by kernel_rfl) (by kernel_rfl) (by kernel_rfl) (by kernel_rfl) (by kernel_rfl) (by rfl) (fun _ _ _ h => h) (Or.inr ⟨by rfl, rfl⟩) hS ?_
          (try simp only [List.setIfInBounds_toArray, List.set_cons_zero, List.set_cons_succ])
          refine wpAnyP_take 54 102 [54, 55, 56, 57, 58, 59, 60, 61] (v := undef) rfl (by kernel_rfl) (by kernel_rfl) (by kernel_rfl) (by kernel_rfl) (by kernel_rfl) (by kernel_rfl) (by rfl) (fun _ _ _ h => h) (Or.inr ⟨by rfl, rfl⟩) hS ?_
          (try simp only [List.setIfInBounds_toArray, List.set_cons_zero, List.set_cons_succ])
          refine wpAnyP_take 55 103 [55, 56, 57, 58, 59, 60, 61] (v := undef) rfl (by kernel_rfl) (by kernel_rfl) (by kernel_rfl) (by kernel_rfl) (by kernel_rfl) (by kernel_rfl) (by rfl) (fun _ _ _ h => h) (Or.inr ⟨by rfl, rfl⟩) hS ?_
          (try simp only [List.setIfInBounds_toArray, List.set_cons_zero, List.set_cons_succ])
          refine wpAnyP_take 56 104 [56, 57, 58, 59, 60, 61] (v := undef) rfl (by kernel_rfl) (by kernel_rfl) (by kernel_rfl) (by kernel_rfl) (by kernel_rfl) (by kernel_rfl) (by rfl) (fun _ _ _ h => h) (Or.inr ⟨by rfl, rfl⟩) hS ?_
          (try simp only [List.setIfInBounds_toArray, List.set_cons_zero, List.set_cons_succ])
          refine wpAnyP_take 57 105 [57, 58, 59, 60, 61] (v := undef) rfl (by kernel_rfl) (by kernel_rfl) (by kernel_rfl) (by kernel_rfl) (by kernel_rfl) (by kernel_rfl) (by rfl) (fun _ _ _ h => h) (Or.inr ⟨by rfl, rfl⟩) hS ?_
          (try simp only [List.setIfInBounds_toArray, List.set_cons_zero, List.set_cons_succ])
          refine wpAnyP_take 58 106 [58, 59, 60, 61] (v := ?_) rfl (by kernel_rfl) (by kernel_rfl) (by kernel_rfl) (by kernel_rfl) (by kernel_rfl) (by kernel_rfl) (by rfl) (fun _ _ _ h => h) (Or.inl ⟨by rfl, ?_⟩) hS ?_; rotate_left
          · (intro w hSw; (try dsimp only at hSw); go_simp; (try with_reducible rfl))
          (try simp only [List.setIfInBounds_toArray, List.set_cons_zero, List.set_cons_succ])
          refine wpAnyP_take 59 107 [59, 60, 61] (v := ?_) rfl (by kernel_rfl) (by kernel_rfl) (by kernel_rfl) (by kernel_rfl) (by kernel_rfl) (by kernel_rfl) (by rfl) (fun _ _ _ h => h) (Or.inl ⟨by rfl, ?_⟩) hS ?_; rotate_left
          · (intro w hSw; (try dsimp only at hSw); go_simp; (try with_reducible rfl))
          (try simp only [List.setIfInBounds_toArray, List.set_cons_zero, List.set_cons_succ])
          refine wpAnyP_take 60 108 [60, 61] (v := ?_) rfl (by kernel_rfl) (by kernel_rfl) (by kernel_rfl) (by kernel_rfl) (by kernel_rfl) (by kernel_rfl) (by rfl) (fun _ _ _ h => h) (Or.inl ⟨by rfl, ?_⟩) hS ?_; rotate_left
          · (intro w hSw; (try dsimp only at hSw); go_simp; (try with_reducible rfl))
          (try simp only [List.setIfInBounds_toArray, List.set_cons_zero, List.set_cons_succ])
          refine wpAnyP_one 61 rfl (by kernel_rfl) (fun K hK => ?_)
          go_simp
          refine hK.out _ _ (fun _ => hS) ?_
          clear hK K
          (try simp only [Act.put, List.setIfInBounds_toArray, List.set_cons_zero, List.set_cons_succ])
          refine wpAnyP_done (by kernel_rfl) ?_ _
          have HS2 := hS.2
          clear hS
          go_wp2_with fail
          go_meet
          exact ⟨rfl, HS2⟩
        · as_aux_lemma =>
          have r1 : decide (x0 < x0) = false := by simp
          have r3 : decide (y ≤ y0) = false := by simp; omega
          clear hlt
          go_region_held3 (fun W => ((W.cell? ⟨w.heap.size, 0, none⟩ = some (.int .i64 a) ∧ W.cell? ⟨w.heap.size, 1, none⟩ = some (.int .i64 b) ∧ W.cell? ⟨w.heap.size, 2, none⟩ = some (.int .i64 c)) ∧ (W.cell? ⟨g, (j + 1) * 2, none⟩ = some (.int .i64 x0) ∧ W.cell? ⟨g, (j + 1) * 2 + 1, none⟩ = some (.int .i64 y)) ∧ (W.cell? ⟨g, j * 2, none⟩ = some (.int .i64 x0) ∧ W.cell? ⟨g, j * 2 + 1, none⟩ = some (.int .i64 y0))) ∧ Hid (Below w4.heap.size w4 W)) (first | exact (KS _ (HW.out.trans ((below_drewN (Below.refl _ _) 1).mono HW.out.size))).out | (have hx := ‹(_ ∧ _ ∧ _) ∧ Hid (Below w4.heap.size w4 _)›; exact (KS _ (hx.2.out.trans (hb.mono hx.2.out.size))).out)) (first | (go_at_call 12; refine (C1 _).out.mono ?_; rintro e w5 ⟨g5, rfl, _, i5, hb⟩) | (go_at_call 14; refine (C2 _).out.mono ?_; rintro e w6 ⟨g6, rfl, _, i6, hb⟩; have i5 := IntAt.below i5 hb) | (go_at_call 13; refine (cmp_int _ _ n n _ i5 i6 HV.out HV.out).mono ?_; rintro e w7 ⟨rfl, hb⟩; rw [HI.out]))
          all_goals
            rename_i hS
            have HS2 := hS.2
            clear hS
            go_wp2_with fail
            go_meet
            exact ⟨rfl, HS2⟩
    · obtain rfl : i = N := by omega
      obtain ⟨f0, f1, f2⟩ := (KF wo HW.out).out
      go_wp2_with fail
      refine (CR _).out.mono ?_
      rintro e w6 ⟨⟨A1, B1, C1, rfl, r1, o1⟩, hb⟩
      have CM1 := fun W => CM A1 B1 C1 W r1 o1.d
      have HR := hide (And.intro r1 o1)
      have HW6 := hide (HW.out.trans (hb.mono HW.out.size))
      clear hb r1 o1 CM
      go_wp2_with fail
      refine (CM1 _).out.mono ?_
      rintro e w7 ⟨⟨M, hM, rfl⟩, hb⟩
      have hE := HLN.out A1 B1 C1 L M HP.out HR.out.1 HR.out.2 hM
      rw [HN.out] at hE
      have HW7 := hide (HW6.out.trans (hb.mono HW6.out.size))
      rw [← hE]
      clear hb hM hE
      go_wp2_with fail
      go_ret
      exact ⟨rfl, HBB.out.trans (HW7.out.mono HBB.out.size)⟩

theorem fpoints_row (a b c n : Int) (w : World) : Calls Try.prog 3 #[.agg #[.int .i64 a, .int .i64 b, .int .i64 c], .int .i64 n] w fun e w' => e = .returned (.bool true) ∧ Below w.heap.size w w' := by
  by_cases h : (formF a b c).1 = 0
  · by_cases hn : 0 ≤ n ∧ n ≤ 1000000
    · exact fpoints_c3 a b c n w h hn.1 hn.2
    · exact fpoints_c2 a b c n w h (by omega)
  · exact fpoints_c1 a b c n w h
end Go.Proofs.Ytlchmaiflcnaoaa
