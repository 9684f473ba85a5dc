/- The walk of the answers' PointsMany. -/
import Derived.Test.YtlchmaiflcnaoaaKOfW
import Derived.Test.YtlchmaiflcnaoaaKPtsLaw
import Derived.Test.YtlchmaiflcnaoaaKRegion
import Derived.Deep.DeepCutAuto
namespace Go.Proofs.Ytlchmaiflcnaoaa
open Go.RowKit

theorem ValOk.negx {a b c x y : Int} (h : ValOk a b c x y) : ValOk a b c (-x) y :=
  ⟨by rw [Int.mul_neg, Int.natAbs_neg]; exact h.h1, by rw [Int.mul_neg, Int.mul_neg, Int.neg_mul, Int.neg_neg]; exact h.h2, by rw [Int.mul_neg, Int.natAbs_neg]; exact h.h3, by rw [Int.mul_neg, Int.neg_mul, Int.natAbs_neg]; exact h.h4, h.h5, h.h6⟩
theorem ValOk.negy {a b c x y : Int} (h : ValOk a b c x y) : ValOk a b c x (-y) :=
  ⟨h.h1, h.h2, h.h3, by rw [Int.mul_neg, Int.natAbs_neg]; exact h.h4, by rw [Int.mul_neg, Int.natAbs_neg]; exact h.h5, by rw [Int.mul_neg, Int.mul_neg, Int.neg_mul, Int.neg_neg]; exact h.h6⟩
theorem ValOk.sgn {a b c x y : Int} (h : ValOk a b c x y) (s : Int) : ValOk a b c (pS x s) (qS y s) := by
  unfold pS qS
  split <;> split
  · exact h.negx.negy
  · exact h.negx
  · exact h.negy
  · exact h
theorem rdisc_rd {A B C D : Int} (w : World) (h : RedF A B C) (hD : D = B * B - 4 * A * C) (hlow : -4000000000000 ≤ D) :
    Calls Try.prog 18 #[.agg #[.int .i64 A, .int .i64 B, .int .i64 C]] w fun e w' => e = .returned (.int .i64 D) ∧ Below w.heap.size w w' := by
  have := rdisc_wrap A B C w
  obtain ⟨k1, k2, k3, k4, k5⟩ := red_bounds h hD hlow
  have e1 := sq_up (x := B) (N := 1154701) (by omega) (by omega)
  have e2 := sq_nn B
  have e3 := h.pos
  have e4 := h.ac
  have e5 : 1 * C ≤ A * C := Int.mul_le_mul_of_nonneg_right (by omega) (by omega)
  have e6 : 4 * A * C = 4 * (A * C) := Int.mul_assoc ..
  have e7 : dw A B C = D := by
    unfold dw
    rw [show wrap64 (B * B) = B * B by unfold wrap64; omega, show wrap64 (4 * A) = 4 * A by unfold wrap64; omega, show wrap64 (4 * A * C) = 4 * A * C by unfold wrap64; omega, hD]
    unfold wrap64; omega
  rwa [e7] at this

structure PmSt (w W : World) (a b c : Int) : Prop where
  f : MC W w.heap.size a b c
  b : Below w.heap.size w W
theorem PmSt.start (w : World) (a b c : Int) : PmSt w (w.alloc (.cells #[.int .i64 a, .int .i64 b, .int .i64 c] 23)) a b c := ⟨MC.made w a b c, (Below.refl _ _).alloc (Nat.le_refl _) _⟩
theorem PmSt.below {w W W' : World} {a b c : Int} (h : PmSt w W a b c) (k : Below W.heap.size W W') : PmSt w W' a b c := ⟨h.f.below k, h.b.trans (k.mono h.b.size)⟩
theorem PmSt.keep {w W : World} {a b c : Int} (h : PmSt w W a b c) : (W.cell? ⟨w.heap.size, 0, none⟩ = some (.int .i64 a) ∧ W.cell? ⟨w.heap.size, 1, none⟩ = some (.int .i64 b) ∧ W.cell? ⟨w.heap.size, 2, none⟩ = some (.int .i64 c)) ∧ Hid (PmSt w W a b c) := ⟨h.f.cells, hide h⟩
theorem PmSt.drw {w W : World} {a b c : Int} (h : PmSt w W a b c) (n : Nat) : PmSt w (W.drewN n) a b c := h.below (below_drewN (Below.refl _ _) n)

theorem wri {x : Int} (h : x.natAbs ≤ 9000000000000000000) : IntKind.i64.wrap x = x := by rw [IntKind.wrap_i64]; omega
/-- the numbers of a round in a row -/
def PmX (a b c Y X : Int) : Prop := (IntKind.i64.wrap (a * X) = a * X ∧ IntKind.i64.wrap (a * X * X) = a * X * X ∧ IntKind.i64.wrap ((b.natAbs : Int) * X) = (b.natAbs : Int) * X ∧ IntKind.i64.wrap ((b.natAbs : Int) * X * Y) = (b.natAbs : Int) * X * Y ∧ IntKind.i64.wrap (a * X * X - (b.natAbs : Int) * X * Y) = a * X * X - (b.natAbs : Int) * X * Y ∧ IntKind.i64.wrap (c * Y) = c * Y ∧ IntKind.i64.wrap (c * Y * Y) = c * Y * Y ∧ IntKind.i64.wrap (a * X * X - (b.natAbs : Int) * X * Y + c * Y * Y) = a * X * X - (b.natAbs : Int) * X * Y + c * Y * Y) ∧ (IntKind.i64.wrap (2 * a) = 2 * a ∧ IntKind.i64.wrap (2 * a * X) = 2 * a * X ∧ IntKind.i64.wrap ((b.natAbs : Int) * Y) = (b.natAbs : Int) * Y) ∧ ValOk a b c X Y
theorem pm_x {a b c D n y x : Int} (h : RedF a b c) (hD : D = b * b - 4 * a * c) (hlow : -4000000000000 ≤ D) (hn : 0 ≤ n) (hn2 : n ≤ 1000000) (hy : 0 ≤ y) (k : -D * y * y ≤ 4 * a * n) (hx : 0 ≤ x) (hx2 : x ≤ n + 1 + y) (hy2 : y ≤ 1156) : PmX a b c y x := by
  obtain ⟨m1, m2, m3, m4, m5, m6, m7, m8, m9⟩ := cn_x h hD hlow hn hn2 hy k hx hx2 hy2
  have ha := (red_bounds h hD hlow).1
  have h0 := h.pos
  have e8 : 2 * a * x = 2 * (a * x) := Int.mul_assoc ..
  obtain ⟨u1, hu1⟩ : ∃ u, a * x * x = u := ⟨_, rfl⟩
  obtain ⟨u2, hu2⟩ : ∃ u, (b.natAbs : Int) * x * y = u := ⟨_, rfl⟩
  obtain ⟨u3, hu3⟩ : ∃ u, c * y * y = u := ⟨_, rfl⟩
  refine ⟨⟨wri (by omega), wri (by omega), wri (by omega), wri (by omega), ?_, wri (by omega), wri (by omega), ?_⟩, ⟨wri (by omega), ?_, wri (by omega)⟩, ⟨by omega, by omega, by omega, by omega, by omega, by omega⟩⟩
  · rw [hu1, hu2]; rw [hu1] at m2; rw [hu2] at m8; clear hu1 hu2 hu3 e8; exact wri (by omega)
  · rw [hu1, hu2, hu3]; rw [hu1] at m2; rw [hu2] at m8; rw [hu3] at m6; clear hu1 hu2 hu3 e8; exact wri (by omega)
  · rw [e8]; exact wri (by omega)
theorem pm_y {a b c D n y : Int} (h : RedF a b c) (hD : D = b * b - 4 * a * c) (hlow : -4000000000000 ≤ D) (hn : 0 ≤ n) (hn2 : n ≤ 1000000) (hy : 0 ≤ y) (k : y = 0 ∨ -D * (y - 1) * (y - 1) ≤ 4 * a * n) :
    y ≤ 1156 ∧ wrap64 (-D * y) = -D * y ∧ wrap64 (-D * y * y) = -D * y * y ∧ wrap64 (4 * a * n) = 4 * a * n := by
  obtain ⟨y1, p1, p2, p3, p4, p5, p6⟩ := cn_y h hD hlow hn hn2 hy k
  refine ⟨y1, ?_, ?_, ?_⟩ <;> unfold wrap64 <;> omega
theorem pm_len {a b c n y x s : Int} {L : List (Int × Int)} (h : RedF a b c) (hn2 : n ≤ 1000000) (hL : Has L (CnS a b c n y x s)) : (L.length : Int) ≤ 5340721 := by
  have := hL.short 1155 (fun p q hs => pt_small h hn2 (by rw [hs.1]; exact Int.le_refl _))
  omega

set_option maxRecDepth 100000 in
set_option maxHeartbeats 6400000 in
theorem pointsMany_any (a b c n D : Int) (w : World) (h : RedF a b c) (hD : D = b * b - 4 * a * c) (hlow : -4000000000000 ≤ D) (hneg : D < 0) (hn : 0 ≤ n) (hn2 : n ≤ 1000000) :
    Calls Try.prog 15 #[.agg #[.int .i64 a, .int .i64 b, .int .i64 c], .int .i64 n] w fun e w' => (∃ L : List (Int × Int), Has L (fun p q => tA a b c p q = n) ∧ e = .returned (.int .i64 (L.length : Int))) ∧ Below w.heap.size w w' := by
  obtain ⟨d, rfl⟩ : ∃ d, D = -d := ⟨-D, by omega⟩
  have CD := fun W => hide (rdisc_rd W h hD hlow)
  have hb := red_bounds h hD hlow
  have CS := fun W => hide (size_any b W (by omega) (by omega))
  have HY := hide (fun (y : Int) (hy : 0 ≤ y) k => pm_y h hD hlow hn hn2 hy k)
  have HX := hide (fun (y x : Int) (hy : 0 ≤ y) k (hx : 0 ≤ x) (hx2 : x ≤ n + 1 + y) (hy2 : y ≤ 1156) => pm_x h hD hlow hn hn2 hy k hx hx2 hy2)
  have HL := hide (fun (y x s : Int) (L : List (Int × Int)) (hL : Has L (CnS a b c n y x s)) => pm_len h hn2 hL)
  have HALL := hide (fun (L : List (Int × Int)) (y : Int) (hL : Has L (CnX a b c n y 0)) (hy : 0 ≤ y) h2 => cn_all hL hD hneg hy h2)
  simp only [Int.neg_neg] at HY HX HALL
  have HB := hide (fun (L : List (Int × Int)) (y x : Int) (hL : Has L (CnX a b c n y x)) h1 h2 => cn_break hL h.pos h1 h2)
  have HFAR := hide (fun (y x : Int) (hy : 0 ≤ y) (hx : x = n + 1 + y) => cn_far h hn hy hx)
  obtain ⟨D0, hD0⟩ : ∃ D0, -d = D0 := ⟨_, rfl⟩
  rw [hD0] at CD
  have n0 : wrap64 (-D0) = d := by rw [← hD0]; unfold wrap64; omega
  have n3 : wrap64 (4 * a) = 4 * a := by have := h.pos; unfold wrap64; omega
  have H0 := hide (PmSt.start w a b c)
  have HN := hide (And.intro hn hn2)
  clear hD hlow hneg hb h hD0
  go_enter Try.func15, Try.ntmps15
  obtain ⟨f0, f1, f2⟩ := H0.out.f.cells
  go_wp2_with fail
  refine (CD _).out.mono ?_
  rintro e w1 ⟨rfl, hb⟩
  have H1 := hide (H0.out.below hb)
  clear hb H0 CD f0 f1 f2
  go_wp2_with fail
  (try simp only [n0])
  go_loopg [5, 7] 1157 (fun N m y wr => ∃ (L : List (Int × Int)) (M Y : Int), m = .int .i64 M ∧ y = .int .i64 Y ∧ 0 ≤ Y ∧ N = (1157 - Y).toNat ∧ Hid (M = L.length) ∧ Hid (Has L (CnX a b c n Y 0)) ∧ Hid (Y = 0 ∨ d * (Y - 1) * (Y - 1) ≤ 4 * a * n) ∧ Hid (PmSt w wr a b c))
  case atStart => exact ⟨[], 0, 0, rfl, rfl, by omega, rfl, hide rfl, hide (Has.nil (fun p q hc => by have := hc.2; omega)), hide (.inl rfl), H1⟩
  case round =>
    clear H1
    obtain ⟨L, M, Y, rfl, rfl, hY0, rfl, HM, HH, HK, HS⟩ := hrel
    obtain ⟨wo, rfl⟩ : ∃ wo : World, wo = wr := ⟨_, rfl⟩
    obtain ⟨hY1, n1, n2, n4⟩ := HY.out Y hY0 HK.out
    obtain ⟨f0, f1, f2⟩ := HS.out.f.cells
    have nY : wrap64 (Y + 1) = Y + 1 := by unfold wrap64; omega
    have nY2 : wrap64 (-Y) = -Y := by unfold wrap64; omega
    by_cases hc : d * Y * Y ≤ 4 * a * n
    · have HC := hide hc
      have q0 : decide (d * Y * Y ≤ 4 * a * n) = true := by simpa using hc
      clear hc
      go_wp2_with fail
      (try simp only [n1, n2, n3, n4])
      go_loopg [5, 8] (n + 1 + Y).toNat (fun N m x wr => ∃ (L : List (Int × Int)) (M X : Int), m = .int .i64 M ∧ x = .int .i64 X ∧ 0 ≤ X ∧ X ≤ n + 1 + Y ∧ N = (n + 1 + Y - X).toNat ∧ Hid (M = L.length) ∧ Hid (Has L (CnX a b c n Y X)) ∧ Hid (PmSt w wr a b c))
      case atStart => exact ⟨L, M, 0, rfl, rfl, by omega, by omega, by simp, HM, HH, HS⟩
      case round =>
        clear HM HH HS L M f0 f1 f2
        obtain ⟨L, M, X, rfl, rfl, hX0, hX1, rfl, HM, HH, HS⟩ := hrel
        obtain ⟨wp, rfl⟩ : ∃ wp : World, wp = wr := ⟨_, rfl⟩
        obtain ⟨⟨m1, m2, m3, m4, m5, m6, m7, m8⟩, ⟨m9, m10, m11⟩, hok⟩ := HX.out Y X hY0 HC.out hX0 hX1 hY1
        have HV := hide hok
        obtain ⟨f0, f1, f2⟩ := HS.out.f.cells
        have nX : wrap64 (X + 1) = X + 1 := by unfold wrap64; omega
        have nX2 : wrap64 (-X) = -X := by unfold wrap64; omega
        obtain ⟨z, hz⟩ : ∃ z : Int, (b.natAbs : Int) = z := ⟨_, rfl⟩
        have HB1 := hide (HB.out L Y X HH.out)
        have HF1 := hide (HFAR.out Y X hY0)
        rw [hz] at m3 m4 m5 m8 m11 HB1 HF1 CS
        obtain ⟨E, hE⟩ : ∃ E, a * X * X - z * X * Y + c * Y * Y = E := ⟨_, rfl⟩
        obtain ⟨P, hP⟩ : ∃ P, z * Y = P := ⟨_, rfl⟩
        obtain ⟨Q, hQ⟩ : ∃ Q, 2 * a * X = Q := ⟨_, rfl⟩
        rw [hE] at HB1 HF1
        rw [hP] at HB1 HF1
        rw [hQ] at HB1 HF1
        have m8' := m8.trans hE
        have m10' := m10.trans hQ
        have m11' := m11.trans hP
        clear hE hP hQ hok m8 m10 m11
        go_upto_region 8 with (fail)
        go_cut [65] (fun u W => ∃ B : Bool, u = .bool B ∧ Hid (B = (decide (n < E) && decide (P < Q))) ∧ Hid (PmSt w W a b c))
        case first => as_aux_lemma =>
          by_cases t1 : n < E
          · have q1 : decide (n < E) = true := by simpa using t1
            by_cases t2 : P < Q
            · have q2 : decide (P < Q) = true := by simpa using t2
              clear t1 t2 HB1 HF1
              refine wp_region_P (fun W => (W.cell? ⟨w.heap.size, 0, none⟩ = some (.int .i64 a) ∧ W.cell? ⟨w.heap.size, 1, none⟩ = some (.int .i64 b) ∧ W.cell? ⟨w.heap.size, 2, none⟩ = some (.int .i64 c)) ∧ Hid (PmSt w W a b c)) 35 (by rfl) ((HS.out.drw 1).keep) ?_
              intro hS
              refine wpAnyP_take 0 30 [0, 1, 3, 5, 13, 20, 22, 23, 35] (v := ?_) rfl (by kernel_rfl) (by kernel_rfl) (by kernel_rfl) (by kernel_rfl) (by kernel_rfl) (by kernel_rfl) (by rfl) (fun _ _ _ h => h) (Or.inl ⟨by rfl, ?_⟩) hS ?_; rotate_left
              · (intro w hSw; (try dsimp only at hSw); go_simp; (try with_reducible rfl))
              (try simp only [List.setIfInBounds_toArray, List.set_cons_zero, List.set_cons_succ])
              refine wpAnyP_take 1 31 [1, 3, 5, 13, 20, 22, 23, 35] (v := ?_) rfl (by kernel_rfl) (by kernel_rfl) (by kernel_rfl) (by kernel_rfl) (by kernel_rfl) (by kernel_rfl) (by rfl) (fun _ _ _ h => h) (Or.inl ⟨by rfl, ?_⟩) hS ?_; rotate_left
              · (intro w hSw; (try dsimp only at hSw); go_simp; (try with_reducible rfl))
              (try simp only [List.setIfInBounds_toArray, List.set_cons_zero, List.set_cons_succ])
              refine wpAnyP_take 2 32 [2, 3, 5, 13, 20, 22, 23, 35] (v := ?_) rfl (by kernel_rfl) (by kernel_rfl) (by kernel_rfl) (by kernel_rfl) (by kernel_rfl) (by kernel_rfl) (by rfl) (fun _ _ _ h => h) (Or.inl ⟨by rfl, ?_⟩) hS ?_; rotate_left
              · (intro w hSw; (try dsimp only at hSw); go_simp; (try with_reducible rfl))
              (try simp only [List.setIfInBounds_toArray, List.set_cons_zero, List.set_cons_succ])
              refine wpAnyP_take 3 33 [3, 5, 13, 20, 22, 23, 35] (v := ?_) rfl (by kernel_rfl) (by kernel_rfl) (by kernel_rfl) (by kernel_rfl) (by kernel_rfl) (by kernel_rfl) (by rfl) (fun _ _ _ h => h) (Or.inl ⟨by rfl, ?_⟩) hS ?_; rotate_left
              · (intro w hSw; (try dsimp only at hSw); go_simp; (try with_reducible rfl))
              (try simp only [List.setIfInBounds_toArray, List.set_cons_zero, List.set_cons_succ])
              refine wpAnyP_take 4 34 [4, 5, 13, 20, 22, 23, 35] (v := ?_) rfl (by kernel_rfl) (by kernel_rfl) (by kernel_rfl) (by kernel_rfl) (by kernel_rfl) (by kernel_rfl) (by rfl) (fun _ _ _ h => h) (Or.inl ⟨by rfl, ?_⟩) hS ?_; rotate_left
              · (intro w hSw; (try dsimp only at hSw); go_simp; (try with_reducible rfl))
              (try simp only [List.setIfInBounds_toArray, List.set_cons_zero, List.set_cons_succ])
              refine wpAnyP_take 5 35 [5, 13, 20, 22, 23, 35] (v := ?_) rfl (by kernel_rfl) (by kernel_rfl) (by kernel_rfl) (by kernel_rfl) (by kernel_rfl) (by kernel_rfl) (by rfl) (fun _ _ _ h => h) (Or.inl ⟨by rfl, ?_⟩) hS ?_; rotate_left
              · (intro w hSw; (try dsimp only at hSw); go_simp; (try with_reducible rfl))
              (try simp only [List.setIfInBounds_toArray, List.set_cons_zero, List.set_cons_succ])
              refine wpAnyP_take 6 36 [6, 7, 8, 23, 35] (v := ?_) rfl (by kernel_rfl) (by kernel_rfl) (by kernel_rfl) (by kernel_rfl) (by kernel_rfl) (by kernel_rfl) (by rfl) (fun _ _ _ h => h) (Or.inl ⟨by rfl, ?_⟩) hS ?_; rotate_left
              · (intro w hSw; (try dsimp only at hSw); go_simp; (try with_reducible rfl))
              (try simp only [List.setIfInBounds_toArray, List.set_cons_zero, List.set_cons_succ])
              refine wpAnyP_take 7 37 [7, 8, 23, 35] (v := ?_) rfl (by kernel_rfl) (by kernel_rfl) (by kernel_rfl) (by kernel_rfl) (by kernel_rfl) (by kernel_rfl) (by rfl) (fun _ _ _ h => h) (Or.inl ⟨by rfl, ?_⟩) hS ?_; rotate_left
              · (intro w hSw; (try dsimp only at hSw); go_simp; (try with_reducible rfl))
              (try simp only [List.setIfInBounds_toArray, List.set_cons_zero, List.set_cons_succ])
              refine wpAnyP_take 9 39 [9, 10, 12, 13, 20, 22, 23, 35] (v := ?_) rfl (by kernel_rfl) (by kernel_rfl) (by kernel_rfl) (by kernel_rfl) (by kernel_rfl) (by kernel_rfl) (by rfl) (fun _ _ _ h => h) (Or.inl ⟨by rfl, ?_⟩) hS ?_; rotate_left
              · (intro w hSw; (try dsimp only at hSw); go_simp; (try with_reducible rfl))
              (try simp only [List.setIfInBounds_toArray, List.set_cons_zero, List.set_cons_succ])
              refine wpAnyP_take 11 41 [11, 12, 13, 20, 22, 23, 35] (v := ?_) rfl (by kernel_rfl) (by kernel_rfl) (by kernel_rfl) (by kernel_rfl) (by kernel_rfl) (by kernel_rfl) (by rfl) (fun _ _ _ h => h) (Or.inl ⟨by rfl, ?_⟩) hS ?_; rotate_left
              · (intro w hSw; (try dsimp only at hSw); go_simp; (try with_reducible rfl))
              (try simp only [List.setIfInBounds_toArray, List.set_cons_zero, List.set_cons_succ])
              refine wpAnyP_take 14 44 [14, 15, 17, 19, 20, 22, 23, 35] (v := ?_) rfl (by kernel_rfl) (by kernel_rfl) (by kernel_rfl) (by kernel_rfl) (by kernel_rfl) (by kernel_rfl) (by rfl) (fun _ _ _ h => h) (Or.inl ⟨by rfl, ?_⟩) hS ?_; rotate_left
              · (intro w hSw; (try dsimp only at hSw); go_simp; (try with_reducible rfl))
              (try simp only [List.setIfInBounds_toArray, List.set_cons_zero, List.set_cons_succ])
              refine wpAnyP_take 15 45 [15, 17, 19, 20, 22, 23, 35] (v := ?_) rfl (by kernel_rfl) (by kernel_rfl) (by kernel_rfl) (by kernel_rfl) (by kernel_rfl) (by kernel_rfl) (by rfl) (fun _ _ _ h => h) (Or.inl ⟨by rfl, ?_⟩) hS ?_; rotate_left
              · (intro w hSw; (try dsimp only at hSw); go_simp; (try with_reducible rfl))
              (try simp only [List.setIfInBounds_toArray, List.set_cons_zero, List.set_cons_succ])
              refine wpAnyP_take 16 46 [16, 17, 19, 20, 22, 23, 35] (v := ?_) rfl (by kernel_rfl) (by kernel_rfl) (by kernel_rfl) (by kernel_rfl) (by kernel_rfl) (by kernel_rfl) (by rfl) (fun _ _ _ h => h) (Or.inl ⟨by rfl, ?_⟩) hS ?_; rotate_left
              · (intro w hSw; (try dsimp only at hSw); go_simp; (try with_reducible rfl))
              (try simp only [List.setIfInBounds_toArray, List.set_cons_zero, List.set_cons_succ])
              refine wpAnyP_take 17 47 [17, 19, 20, 22, 23, 35] (v := ?_) rfl (by kernel_rfl) (by kernel_rfl) (by kernel_rfl) (by kernel_rfl) (by kernel_rfl) (by kernel_rfl) (by rfl) (fun _ _ _ h => h) (Or.inl ⟨by rfl, ?_⟩) hS ?_; rotate_left
              · (intro w hSw; (try dsimp only at hSw); go_simp; (try with_reducible rfl))
              (try simp only [List.setIfInBounds_toArray, List.set_cons_zero, List.set_cons_succ])
              refine wpAnyP_take 18 48 [18, 19, 20, 22, 23, 35] (v := ?_) rfl (by kernel_rfl) (by kernel_rfl) (by kernel_rfl) (by kernel_rfl) (by kernel_rfl) (by kernel_rfl) (by rfl) (fun _ _ _ h => h) (Or.inl ⟨by rfl, ?_⟩) hS ?_; rotate_left
              · (intro w hSw; (try dsimp only at hSw); go_simp; (try with_reducible rfl))
              (try simp only [List.setIfInBounds_toArray, List.set_cons_zero, List.set_cons_succ])
              refine wpAnyP_take 19 49 [19, 20, 22, 23, 35] (v := ?_) rfl (by kernel_rfl) (by kernel_rfl) (by kernel_rfl) (by kernel_rfl) (by kernel_rfl) (by kernel_rfl) (by rfl) (fun _ _ _ h => h) (Or.inl ⟨by rfl, ?_⟩) hS ?_; rotate_left
              · (intro w hSw; (try dsimp only at hSw); go_simp; (try with_reducible rfl))
              (try simp only [List.setIfInBounds_toArray, List.set_cons_zero, List.set_cons_succ])
              refine wpAnyP_take 21 51 [21, 22, 23, 35] (v := ?_) rfl (by kernel_rfl) (by kernel_rfl) (by kernel_rfl) (by kernel_rfl) (by kernel_rfl) (by kernel_rfl) (by rfl) (fun _ _ _ h => h) (Or.inl ⟨by rfl, ?_⟩) hS ?_; rotate_left
              · (intro w hSw; (try dsimp only at hSw); go_simp; (try with_reducible rfl))
              (try simp only [List.setIfInBounds_toArray, List.set_cons_zero, List.set_cons_succ])
              refine wpAnyP_one 8 rfl (by kernel_rfl) (fun K hK => ?_)
              go_simp
              refine (CS _).out.mono ?_
              rintro e w5 ⟨rfl, rfl⟩
              refine hK.out _ _ (fun _ => hS) ?_
              clear hK K
              (try simp only [Act.put, List.setIfInBounds_toArray, List.set_cons_zero, List.set_cons_succ])
              refine wpAnyP_take 10 40 [10, 12, 13, 20, 22, 23, 35] (v := ?_) rfl (by kernel_rfl) (by kernel_rfl) (by kernel_rfl) (by kernel_rfl) (by kernel_rfl) (by kernel_rfl) (by rfl) (fun _ _ _ h => h) (Or.inl ⟨by rfl, ?_⟩) hS ?_; rotate_left
              · (intro w hSw; (try dsimp only at hSw); go_simp; (try with_reducible rfl))
              (try simp only [List.setIfInBounds_toArray, List.set_cons_zero, List.set_cons_succ])
              refine wpAnyP_take 12 42 [12, 13, 20, 22, 23, 35] (v := ?_) rfl (by kernel_rfl) (by kernel_rfl) (by kernel_rfl) (by kernel_rfl) (by kernel_rfl) (by kernel_rfl) (by rfl) (fun _ _ _ h => h) (Or.inl ⟨by rfl, ?_⟩) hS ?_; rotate_left
              · (intro w hSw; (try dsimp only at hSw); go_simp; (try with_reducible rfl))
              (try simp only [List.setIfInBounds_toArray, List.set_cons_zero, List.set_cons_succ])
              refine wpAnyP_take 13 43 [13, 20, 22, 23, 35] (v := ?_) rfl (by kernel_rfl) (by kernel_rfl) (by kernel_rfl) (by kernel_rfl) (by kernel_rfl) (by kernel_rfl) (by rfl) (fun _ _ _ h => h) (Or.inl ⟨by rfl, ?_⟩) hS ?_; rotate_left
              · (intro w hSw; (try dsimp only at hSw); go_simp; (try with_reducible rfl))
              (try simp only [List.setIfInBounds_toArray, List.set_cons_zero, List.set_cons_succ])
              refine wpAnyP_take 20 50 [20, 22, 23, 35] (v := ?_) rfl (by kernel_rfl) (by kernel_rfl) (by kernel_rfl) (by kernel_rfl) (by kernel_rfl) (by kernel_rfl) (by rfl) (fun _ _ _ h => h) (Or.inl ⟨by rfl, ?_⟩) hS ?_; rotate_left
              · (intro w hSw; (try dsimp only at hSw); go_simp; (try with_reducible rfl))
              (try simp only [List.setIfInBounds_toArray, List.set_cons_zero, List.set_cons_succ])
              refine wpAnyP_take 22 52 [22, 23, 35] (v := ?_) rfl (by kernel_rfl) (by kernel_rfl) (by kernel_rfl) (by kernel_rfl) (by kernel_rfl) (by kernel_rfl) (by rfl) (fun _ _ _ h => h) (Or.inl ⟨by rfl, ?_⟩) hS ?_; rotate_left
              · (intro w hSw; (try dsimp only at hSw); go_simp; (try with_reducible rfl))
              (try simp only [List.setIfInBounds_toArray, List.set_cons_zero, List.set_cons_succ])
              refine wpAnyP_take 23 53 [23, 35] (v := ?_) rfl (by kernel_rfl) (by kernel_rfl) (by kernel_rfl) (by kernel_rfl) (by kernel_rfl) (by kernel_rfl) (by rfl) (fun _ _ _ h => h) (Or.inl ⟨by rfl, ?_⟩) hS ?_; rotate_left
              · (intro w hSw; (try dsimp only at hSw); go_simp; (try with_reducible rfl))
              (try simp only [List.setIfInBounds_toArray, List.set_cons_zero, List.set_cons_succ])
              refine wpAnyP_take 24 54 [24, 25, 26, 28, 34, 35] (v := ?_) rfl (by kernel_rfl) (by kernel_rfl) (by kernel_rfl) (by kernel_rfl) (by kernel_rfl) (by kernel_rfl) (by rfl) (fun _ _ _ h => h) (Or.inl ⟨by rfl, ?_⟩) hS ?_; rotate_left
              · (intro w hSw; (try dsimp only at hSw); go_simp; (try with_reducible rfl))
              (try simp only [List.setIfInBounds_toArray, List.set_cons_zero, List.set_cons_succ])
              refine wpAnyP_take 25 55 [25, 26, 28, 34, 35] (v := ?_) rfl (by kernel_rfl) (by kernel_rfl) (by kernel_rfl) (by kernel_rfl) (by kernel_rfl) (by kernel_rfl) (by rfl) (fun _ _ _ h => h) (Or.inl ⟨by rfl, ?_⟩) hS ?_; rotate_left
              · (intro w hSw; (try dsimp only at hSw); go_simp; (try with_reducible rfl))
              (try simp only [List.setIfInBounds_toArray, List.set_cons_zero, List.set_cons_succ])
              refine wpAnyP_take 26 56 [26, 28, 34, 35] (v := ?_) rfl (by kernel_rfl) (by kernel_rfl) (by kernel_rfl) (by kernel_rfl) (by kernel_rfl) (by kernel_rfl) (by rfl) (fun _ _ _ h => h) (Or.inl ⟨by rfl, ?_⟩) hS ?_; rotate_left
              · (intro w hSw; (try dsimp only at hSw); go_simp; (try with_reducible rfl))
              (try simp only [List.setIfInBounds_toArray, List.set_cons_zero, List.set_cons_succ])
              refine wpAnyP_take 27 57 [27, 28, 34, 35] (v := ?_) rfl (by kernel_rfl) (by kernel_rfl) (by kernel_rfl) (by kernel_rfl) (by kernel_rfl) (by kernel_rfl) (by rfl) (fun _ _ _ h => h) (Or.inl ⟨by rfl, ?_⟩) hS ?_; rotate_left
              · (intro w hSw; (try dsimp only at hSw); go_simp; (try with_reducible rfl))
              (try simp only [List.setIfInBounds_toArray, List.set_cons_zero, List.set_cons_succ])
              refine wpAnyP_take 28 58 [28, 34, 35] (v := ?_) rfl (by kernel_rfl) (by kernel_rfl) (by kernel_rfl) (by kernel_rfl) (by kernel_rfl) (by kernel_rfl) (by rfl) (fun _ _ _ h => h) (Or.inl ⟨by rfl, ?_⟩) hS ?_; rotate_left
              · (intro w hSw; (try dsimp only at hSw); go_simp; (try with_reducible rfl))
              (try simp only [List.setIfInBounds_toArray, List.set_cons_zero, List.set_cons_succ])
              refine wpAnyP_take 29 59 [29, 30, 31, 33, 34, 35] (v := ?_) rfl (by kernel_rfl) (by kernel_rfl) (by kernel_rfl) (by kernel_rfl) (by kernel_rfl) (by kernel_rfl) (by rfl) (fun _ _ _ h => h) (Or.inl ⟨by rfl, ?_⟩) hS ?_; rotate_left
              · (intro w hSw; (try dsimp only at hSw); go_simp; (try with_reducible rfl))
              (try simp only [List.setIfInBounds_toArray, List.set_cons_zero, List.set_cons_succ])
              refine wpAnyP_take 30 60 [30, 31, 33, 34, 35] (v := ?_) rfl (by kernel_rfl) (by kernel_rfl) (by kernel_rfl) (by kernel_rfl) (by kernel_rfl) (by kernel_rfl) (by rfl) (fun _ _ _ h => h) (Or.inl ⟨by rfl, ?_⟩) hS ?_; rotate_left
              · (intro w hSw; (try dsimp only at hSw); go_simp; (try with_reducible rfl))
              (try simp only [List.setIfInBounds_toArray, List.set_cons_zero, List.set_cons_succ])
              refine wpAnyP_take 32 62 [32, 33, 34, 35] (v := ?_) rfl (by kernel_rfl) (by kernel_rfl) (by kernel_rfl) (by kernel_rfl) (by kernel_rfl) (by kernel_rfl) (by rfl) (fun _ _ _ h => h) (Or.inl ⟨by rfl, ?_⟩) hS ?_; rotate_left
              · (intro w hSw; (try dsimp only at hSw); go_simp; (try with_reducible rfl))
              (try simp only [List.setIfInBounds_toArray, List.set_cons_zero, List.set_cons_succ])
              refine wpAnyP_one 31 rfl (by kernel_rfl) (fun K hK => ?_)
              go_simp
              refine (CS _).out.mono ?_
              rintro e w5 ⟨rfl, rfl⟩
              refine hK.out _ _ (fun _ => hS) ?_
              clear hK K
              (try simp only [Act.put, List.setIfInBounds_toArray, List.set_cons_zero, List.set_cons_succ])
              refine wpAnyP_take 33 63 [33, 34, 35] (v := ?_) rfl (by kernel_rfl) (by kernel_rfl) (by kernel_rfl) (by kernel_rfl) (by kernel_rfl) (by kernel_rfl) (by rfl) (fun _ _ _ h => h) (Or.inl ⟨by rfl, ?_⟩) hS ?_; rotate_left
              · (intro w hSw; (try dsimp only at hSw); go_simp; (try with_reducible rfl))
              (try simp only [List.setIfInBounds_toArray, List.set_cons_zero, List.set_cons_succ])
              refine wpAnyP_take 34 64 [34, 35] (v := ?_) rfl (by kernel_rfl) (by kernel_rfl) (by kernel_rfl) (by kernel_rfl) (by kernel_rfl) (by kernel_rfl) (by rfl) (fun _ _ _ h => h) (Or.inl ⟨by rfl, ?_⟩) hS ?_; rotate_left
              · (intro w hSw; (try dsimp only at hSw); go_simp; (try with_reducible rfl))
              (try simp only [List.setIfInBounds_toArray, List.set_cons_zero, List.set_cons_succ])
              refine wpAnyP_one 35 rfl (by kernel_rfl) (fun K hK => ?_)
              go_simp
              refine hK.out _ _ (fun _ => hS) ?_
              clear hK K
              (try simp only [Act.put, List.setIfInBounds_toArray, List.set_cons_zero, List.set_cons_succ])
              refine wpAnyP_done (by kernel_rfl) ?_ _
              go_wp2_with fail
              go_meet
              exact ⟨true, rfl, hide (by rw [q1, q2]; rfl), hS.2⟩
            · have q2 : decide (P < Q) = false := by simpa using t2
              clear t1 t2 HB1 HF1
              refine wp_region_P (fun W => (W.cell? ⟨w.heap.size, 0, none⟩ = some (.int .i64 a) ∧ W.cell? ⟨w.heap.size, 1, none⟩ = some (.int .i64 b) ∧ W.cell? ⟨w.heap.size, 2, none⟩ = some (.int .i64 c)) ∧ Hid (PmSt w W a b c)) 35 (by rfl) ((HS.out.drw 1).keep) ?_
              intro hS
              refine wpAnyP_take 0 30 [0, 1, 3, 5, 13, 20, 22, 23, 35] (v := ?_) rfl (by kernel_rfl) (by kernel_rfl) (by kernel_rfl) (by kernel_rfl) (by kernel_rfl) (by kernel_rfl) (by rfl) (fun _ _ _ h => h) (Or.inl ⟨by rfl, ?_⟩) hS ?_; rotate_left
              · (intro w hSw; (try dsimp only at hSw); go_simp; (try with_reducible rfl))
              (try simp only [List.setIfInBounds_toArray, List.set_cons_zero, List.set_cons_succ])
              refine wpAnyP_take 1 31 [1, 3, 5, 13, 20, 22, 23, 35] (v := ?_) rfl (by kernel_rfl) (by kernel_rfl) (by kernel_rfl) (by kernel_rfl) (by kernel_rfl) (by kernel_rfl) (by rfl) (fun _ _ _ h => h) (Or.inl ⟨by rfl, ?_⟩) hS ?_; rotate_left
              · (intro w hSw; (try dsimp only at hSw); go_simp; (try with_reducible rfl))
              (try simp only [List.setIfInBounds_toArray, List.set_cons_zero, List.set_cons_succ])
              refine wpAnyP_take 2 32 [2, 3, 5, 13, 20, 22, 23, 35] (v := ?_) rfl (by kernel_rfl) (by kernel_rfl) (by kernel_rfl) (by kernel_rfl) (by kernel_rfl) (by kernel_rfl) (by rfl) (fun _ _ _ h => h) (Or.inl ⟨by rfl, ?_⟩) hS ?_; rotate_left
              · (intro w hSw; (try dsimp only at hSw); go_simp; (try with_reducible rfl))
              (try simp only [List.setIfInBounds_toArray, List.set_cons_zero, List.set_cons_succ])
              refine wpAnyP_take 3 33 [3, 5, 13, 20, 22, 23, 35] (v := ?_) rfl (by kernel_rfl) (by kernel_rfl) (by kernel_rfl) (by kernel_rfl) (by kernel_rfl) (by kernel_rfl) (by rfl) (fun _ _ _ h => h) (Or.inl ⟨by rfl, ?_⟩) hS ?_; rotate_left
              · (intro w hSw; (try dsimp only at hSw); go_simp; (try with_reducible rfl))
              (try simp only [List.setIfInBounds_toArray, List.set_cons_zero, List.set_cons_succ])
              refine wpAnyP_take 4 34 [4, 5, 13, 20, 22, 23, 35] (v := ?_) rfl (by kernel_rfl) (by kernel_rfl) (by kernel_rfl) (by kernel_rfl) (by kernel_rfl) (by kernel_rfl) (by rfl) (fun _ _ _ h => h) (Or.inl ⟨by rfl, ?_⟩) hS ?_; rotate_left
              · (intro w hSw; (try dsimp only at hSw); go_simp; (try with_reducible rfl))
              (try simp only [List.setIfInBounds_toArray, List.set_cons_zero, List.set_cons_succ])
              refine wpAnyP_take 5 35 [5, 13, 20, 22, 23, 35] (v := ?_) rfl (by kernel_rfl) (by kernel_rfl) (by kernel_rfl) (by kernel_rfl) (by kernel_rfl) (by kernel_rfl) (by rfl) (fun _ _ _ h => h) (Or.inl ⟨by rfl, ?_⟩) hS ?_; rotate_left
              · (intro w hSw; (try dsimp only at hSw); go_simp; (try with_reducible rfl))
              (try simp only [List.setIfInBounds_toArray, List.set_cons_zero, List.set_cons_succ])
              refine wpAnyP_take 6 36 [6, 7, 8, 23, 35] (v := ?_) rfl (by kernel_rfl) (by kernel_rfl) (by kernel_rfl) (by kernel_rfl) (by kernel_rfl) (by kernel_rfl) (by rfl) (fun _ _ _ h => h) (Or.inl ⟨by rfl, ?_⟩) hS ?_; rotate_left
              · (intro w hSw; (try dsimp only at hSw); go_simp; (try with_reducible rfl))
              (try simp only [List.setIfInBounds_toArray, List.set_cons_zero, List.set_cons_succ])
              refine wpAnyP_take 7 37 [7, 8, 23, 35] (v := ?_) rfl (by kernel_rfl) (by kernel_rfl) (by kernel_rfl) (by kernel_rfl) (by kernel_rfl) (by kernel_rfl) (by rfl) (fun _ _ _ h => h) (Or.inl ⟨by rfl, ?_⟩) hS ?_; rotate_left
              · (intro w hSw; (try dsimp only at hSw); go_simp; (try with_reducible rfl))
              (try simp only [List.setIfInBounds_toArray, List.set_cons_zero, List.set_cons_succ])
              refine wpAnyP_take 9 39 [9, 10, 12, 13, 20, 22, 23, 35] (v := ?_) rfl (by kernel_rfl) (by kernel_rfl) (by kernel_rfl) (by kernel_rfl) (by kernel_rfl) (by kernel_rfl) (by rfl) (fun _ _ _ h => h) (Or.inl ⟨by rfl, ?_⟩) hS ?_; rotate_left
              · (intro w hSw; (try dsimp only at hSw); go_simp; (try with_reducible rfl))
              (try simp only [List.setIfInBounds_toArray, List.set_cons_zero, List.set_cons_succ])
              refine wpAnyP_take 11 41 [11, 12, 13, 20, 22, 23, 35] (v := ?_) rfl (by kernel_rfl) (by kernel_rfl) (by kernel_rfl) (by kernel_rfl) (by kernel_rfl) (by kernel_rfl) (by rfl) (fun _ _ _ h => h) (Or.inl ⟨by rfl, ?_⟩) hS ?_; rotate_left
              · (intro w hSw; (try dsimp only at hSw); go_simp; (try with_reducible rfl))
              (try simp only [List.setIfInBounds_toArray, List.set_cons_zero, List.set_cons_succ])
              refine wpAnyP_take 14 44 [14, 15, 17, 19, 20, 22, 23, 35] (v := ?_) rfl (by kernel_rfl) (by kernel_rfl) (by kernel_rfl) (by kernel_rfl) (by kernel_rfl) (by kernel_rfl) (by rfl) (fun _ _ _ h => h) (Or.inl ⟨by rfl, ?_⟩) hS ?_; rotate_left
              · (intro w hSw; (try dsimp only at hSw); go_simp; (try with_reducible rfl))
              (try simp only [List.setIfInBounds_toArray, List.set_cons_zero, List.set_cons_succ])
              refine wpAnyP_take 15 45 [15, 17, 19, 20, 22, 23, 35] (v := ?_) rfl (by kernel_rfl) (by kernel_rfl) (by kernel_rfl) (by kernel_rfl) (by kernel_rfl) (by kernel_rfl) (by rfl) (fun _ _ _ h => h) (Or.inl ⟨by rfl, ?_⟩) hS ?_; rotate_left
              · (intro w hSw; (try dsimp only at hSw); go_simp; (try with_reducible rfl))
              (try simp only [List.setIfInBounds_toArray, List.set_cons_zero, List.set_cons_succ])
              refine wpAnyP_take 16 46 [16, 17, 19, 20, 22, 23, 35] (v := ?_) rfl (by kernel_rfl) (by kernel_rfl) (by kernel_rfl) (by kernel_rfl) (by kernel_rfl) (by kernel_rfl) (by rfl) (fun _ _ _ h => h) (Or.inl ⟨by rfl, ?_⟩) hS ?_; rotate_left
              · (intro w hSw; (try dsimp only at hSw); go_simp; (try with_reducible rfl))
              (try simp only [List.setIfInBounds_toArray, List.set_cons_zero, List.set_cons_succ])
              refine wpAnyP_take 17 47 [17, 19, 20, 22, 23, 35] (v := ?_) rfl (by kernel_rfl) (by kernel_rfl) (by kernel_rfl) (by kernel_rfl) (by kernel_rfl) (by kernel_rfl) (by rfl) (fun _ _ _ h => h) (Or.inl ⟨by rfl, ?_⟩) hS ?_; rotate_left
              · (intro w hSw; (try dsimp only at hSw); go_simp; (try with_reducible rfl))
              (try simp only [List.setIfInBounds_toArray, List.set_cons_zero, List.set_cons_succ])
              refine wpAnyP_take 18 48 [18, 19, 20, 22, 23, 35] (v := ?_) rfl (by kernel_rfl) (by kernel_rfl) (by kernel_rfl) (by kernel_rfl) (by kernel_rfl) (by kernel_rfl) (by rfl) (fun _ _ _ h => h) (Or.inl ⟨by rfl, ?_⟩) hS ?_; rotate_left
              · (intro w hSw; (try dsimp only at hSw); go_simp; (try with_reducible rfl))
              (try simp only [List.setIfInBounds_toArray, List.set_cons_zero, List.set_cons_succ])
              refine wpAnyP_take 19 49 [19, 20, 22, 23, 35] (v := ?_) rfl (by kernel_rfl) (by kernel_rfl) (by kernel_rfl) (by kernel_rfl) (by kernel_rfl) (by kernel_rfl) (by rfl) (fun _ _ _ h => h) (Or.inl ⟨by rfl, ?_⟩) hS ?_; rotate_left
              · (intro w hSw; (try dsimp only at hSw); go_simp; (try with_reducible rfl))
              (try simp only [List.setIfInBounds_toArray, List.set_cons_zero, List.set_cons_succ])
              refine wpAnyP_take 21 51 [21, 22, 23, 35] (v := ?_) rfl (by kernel_rfl) (by kernel_rfl) (by kernel_rfl) (by kernel_rfl) (by kernel_rfl) (by kernel_rfl) (by rfl) (fun _ _ _ h => h) (Or.inl ⟨by rfl, ?_⟩) hS ?_; rotate_left
              · (intro w hSw; (try dsimp only at hSw); go_simp; (try with_reducible rfl))
              (try simp only [List.setIfInBounds_toArray, List.set_cons_zero, List.set_cons_succ])
              refine wpAnyP_one 8 rfl (by kernel_rfl) (fun K hK => ?_)
              go_simp
              refine (CS _).out.mono ?_
              rintro e w5 ⟨rfl, rfl⟩
              refine hK.out _ _ (fun _ => hS) ?_
              clear hK K
              (try simp only [Act.put, List.setIfInBounds_toArray, List.set_cons_zero, List.set_cons_succ])
              refine wpAnyP_take 10 40 [10, 12, 13, 20, 22, 23, 35] (v := ?_) rfl (by kernel_rfl) (by kernel_rfl) (by kernel_rfl) (by kernel_rfl) (by kernel_rfl) (by kernel_rfl) (by rfl) (fun _ _ _ h => h) (Or.inl ⟨by rfl, ?_⟩) hS ?_; rotate_left
              · (intro w hSw; (try dsimp only at hSw); go_simp; (try with_reducible rfl))
              (try simp only [List.setIfInBounds_toArray, List.set_cons_zero, List.set_cons_succ])
              refine wpAnyP_take 12 42 [12, 13, 20, 22, 23, 35] (v := ?_) rfl (by kernel_rfl) (by kernel_rfl) (by kernel_rfl) (by kernel_rfl) (by kernel_rfl) (by kernel_rfl) (by rfl) (fun _ _ _ h => h) (Or.inl ⟨by rfl, ?_⟩) hS ?_; rotate_left
              · (intro w hSw; (try dsimp only at hSw); go_simp; (try with_reducible rfl))
              (try simp only [List.setIfInBounds_toArray, List.set_cons_zero, List.set_cons_succ])
              refine wpAnyP_take 13 43 [13, 20, 22, 23, 35] (v := ?_) rfl (by kernel_rfl) (by kernel_rfl) (by kernel_rfl) (by kernel_rfl) (by kernel_rfl) (by kernel_rfl) (by rfl) (fun _ _ _ h => h) (Or.inl ⟨by rfl, ?_⟩) hS ?_; rotate_left
              · (intro w hSw; (try dsimp only at hSw); go_simp; (try with_reducible rfl))
              (try simp only [List.setIfInBounds_toArray, List.set_cons_zero, List.set_cons_succ])
              refine wpAnyP_take 20 50 [20, 22, 23, 35] (v := ?_) rfl (by kernel_rfl) (by kernel_rfl) (by kernel_rfl) (by kernel_rfl) (by kernel_rfl) (by kernel_rfl) (by rfl) (fun _ _ _ h => h) (Or.inl ⟨by rfl, ?_⟩) hS ?_; rotate_left
              · (intro w hSw; (try dsimp only at hSw); go_simp; (try with_reducible rfl))
              (try simp only [List.setIfInBounds_toArray, List.set_cons_zero, List.set_cons_succ])
              refine wpAnyP_take 22 52 [22, 23, 35] (v := ?_) rfl (by kernel_rfl) (by kernel_rfl) (by kernel_rfl) (by kernel_rfl) (by kernel_rfl) (by kernel_rfl) (by rfl) (fun _ _ _ h => h) (Or.inl ⟨by rfl, ?_⟩) hS ?_; rotate_left
              · (intro w hSw; (try dsimp only at hSw); go_simp; (try with_reducible rfl))
              (try simp only [List.setIfInBounds_toArray, List.set_cons_zero, List.set_cons_succ])
              refine wpAnyP_take 23 53 [23, 35] (v := ?_) rfl (by kernel_rfl) (by kernel_rfl) (by kernel_rfl) (by kernel_rfl) (by kernel_rfl) (by kernel_rfl) (by rfl) (fun _ _ _ h => h) (Or.inl ⟨by rfl, ?_⟩) hS ?_; rotate_left
              · (intro w hSw; (try dsimp only at hSw); go_simp; (try with_reducible rfl))
              (try simp only [List.setIfInBounds_toArray, List.set_cons_zero, List.set_cons_succ])
              refine wpAnyP_take 24 54 [24, 25, 26, 28, 34, 35] (v := ?_) rfl (by kernel_rfl) (by kernel_rfl) (by kernel_rfl) (by kernel_rfl) (by kernel_rfl) (by kernel_rfl) (by rfl) (fun _ _ _ h => h) (Or.inl ⟨by rfl, ?_⟩) hS ?_; rotate_left
              · (intro w hSw; (try dsimp only at hSw); go_simp; (try with_reducible rfl))
              (try simp only [List.setIfInBounds_toArray, List.set_cons_zero, List.set_cons_succ])
              refine wpAnyP_take 25 55 [25, 26, 28, 34, 35] (v := ?_) rfl (by kernel_rfl) (by kernel_rfl) (by kernel_rfl) (by kernel_rfl) (by kernel_rfl) (by kernel_rfl) (by rfl) (fun _ _ _ h => h) (Or.inl ⟨by rfl, ?_⟩) hS ?_; rotate_left
              · (intro w hSw; (try dsimp only at hSw); go_simp; (try with_reducible rfl))
              (try simp only [List.setIfInBounds_toArray, List.set_cons_zero, List.set_cons_succ])
              refine wpAnyP_take 26 56 [26, 28, 34, 35] (v := ?_) rfl (by kernel_rfl) (by kernel_rfl) (by kernel_rfl) (by kernel_rfl) (by kernel_rfl) (by kernel_rfl) (by rfl) (fun _ _ _ h => h) (Or.inl ⟨by rfl, ?_⟩) hS ?_; rotate_left
              · (intro w hSw; (try dsimp only at hSw); go_simp; (try with_reducible rfl))
              (try simp only [List.setIfInBounds_toArray, List.set_cons_zero, List.set_cons_succ])
              refine wpAnyP_take 27 57 [27, 28, 34, 35] (v := ?_) rfl (by kernel_rfl) (by kernel_rfl) (by kernel_rfl) (by kernel_rfl) (by kernel_rfl) (by kernel_rfl) (by rfl) (fun _ _ _ h => h) (Or.inl ⟨by rfl, ?_⟩) hS ?_; rotate_left
              · (intro w hSw; (try dsimp only at hSw); go_simp; (try with_reducible rfl))
              (try simp only [List.setIfInBounds_toArray, List.set_cons_zero, List.set_cons_succ])
              refine wpAnyP_take 28 58 [28, 34, 35] (v := ?_) rfl (by kernel_rfl) (by kernel_rfl) (by kernel_rfl) (by kernel_rfl) (by kernel_rfl) (by kernel_rfl) (by rfl) (fun _ _ _ h => h) (Or.inl ⟨by rfl, ?_⟩) hS ?_; rotate_left
              · (intro w hSw; (try dsimp only at hSw); go_simp; (try with_reducible rfl))
              (try simp only [List.setIfInBounds_toArray, List.set_cons_zero, List.set_cons_succ])
              refine wpAnyP_take 29 59 [29, 30, 31, 33, 34, 35] (v := ?_) rfl (by kernel_rfl) (by kernel_rfl) (by kernel_rfl) (by kernel_rfl) (by kernel_rfl) (by kernel_rfl) (by rfl) (fun _ _ _ h => h) (Or.inl ⟨by rfl, ?_⟩) hS ?_; rotate_left
              · (intro w hSw; (try dsimp only at hSw); go_simp; (try with_reducible rfl))
              (try simp only [List.setIfInBounds_toArray, List.set_cons_zero, List.set_cons_succ])
              refine wpAnyP_take 30 60 [30, 31, 33, 34, 35] (v := ?_) rfl (by kernel_rfl) (by kernel_rfl) (by kernel_rfl) (by kernel_rfl) (by kernel_rfl) (by kernel_rfl) (by rfl) (fun _ _ _ h => h) (Or.inl ⟨by rfl, ?_⟩) hS ?_; rotate_left
              · (intro w hSw; (try dsimp only at hSw); go_simp; (try with_reducible rfl))
              (try simp only [List.setIfInBounds_toArray, List.set_cons_zero, List.set_cons_succ])
              refine wpAnyP_take 32 62 [32, 33, 34, 35] (v := ?_) rfl (by kernel_rfl) (by kernel_rfl) (by kernel_rfl) (by kernel_rfl) (by kernel_rfl) (by kernel_rfl) (by rfl) (fun _ _ _ h => h) (Or.inl ⟨by rfl, ?_⟩) hS ?_; rotate_left
              · (intro w hSw; (try dsimp only at hSw); go_simp; (try with_reducible rfl))
              (try simp only [List.setIfInBounds_toArray, List.set_cons_zero, List.set_cons_succ])
              refine wpAnyP_one 31 rfl (by kernel_rfl) (fun K hK => ?_)
              go_simp
              refine (CS _).out.mono ?_
              rintro e w5 ⟨rfl, rfl⟩
              refine hK.out _ _ (fun _ => hS) ?_
              clear hK K
              (try simp only [Act.put, List.setIfInBounds_toArray, List.set_cons_zero, List.set_cons_succ])
              refine wpAnyP_take 33 63 [33, 34, 35] (v := ?_) rfl (by kernel_rfl) (by kernel_rfl) (by kernel_rfl) (by kernel_rfl) (by kernel_rfl) (by kernel_rfl) (by rfl) (fun _ _ _ h => h) (Or.inl ⟨by rfl, ?_⟩) hS ?_; rotate_left
              · (intro w hSw; (try dsimp only at hSw); go_simp; (try with_reducible rfl))
              (try simp only [List.setIfInBounds_toArray, List.set_cons_zero, List.set_cons_succ])
              refine wpAnyP_take 34 64 [34, 35] (v := ?_) rfl (by kernel_rfl) (by kernel_rfl) (by kernel_rfl) (by kernel_rfl) (by kernel_rfl) (by kernel_rfl) (by rfl) (fun _ _ _ h => h) (Or.inl ⟨by rfl, ?_⟩) hS ?_; rotate_left
              · (intro w hSw; (try dsimp only at hSw); go_simp; (try with_reducible rfl))
              (try simp only [List.setIfInBounds_toArray, List.set_cons_zero, List.set_cons_succ])
              refine wpAnyP_one 35 rfl (by kernel_rfl) (fun K hK => ?_)
              go_simp
              refine hK.out _ _ (fun _ => hS) ?_
              clear hK K
              (try simp only [Act.put, List.setIfInBounds_toArray, List.set_cons_zero, List.set_cons_succ])
              refine wpAnyP_done (by kernel_rfl) ?_ _
              go_wp2_with fail
              go_meet
              exact ⟨false, rfl, hide (by rw [q1, q2]; rfl), hS.2⟩
          · have q1 : decide (n < E) = false := by simpa using t1
            clear t1 HB1 HF1
            refine wp_region_P (fun W => (W.cell? ⟨w.heap.size, 0, none⟩ = some (.int .i64 a) ∧ W.cell? ⟨w.heap.size, 1, none⟩ = some (.int .i64 b) ∧ W.cell? ⟨w.heap.size, 2, none⟩ = some (.int .i64 c)) ∧ Hid (PmSt w W a b c)) 35 (by rfl) ((HS.out.drw 1).keep) ?_
            intro hS
            refine wpAnyP_take 0 30 [0, 1, 3, 5, 13, 20, 22, 23, 35] (v := ?_) rfl (by kernel_rfl) (by kernel_rfl) (by kernel_rfl) (by kernel_rfl) (by kernel_rfl) (by kernel_rfl) (by rfl) (fun _ _ _ h => h) (Or.inl ⟨by rfl, ?_⟩) hS ?_; rotate_left
            · (intro w hSw; (try dsimp only at hSw); go_simp; (try with_reducible rfl))
            (try simp only [List.setIfInBounds_toArray, List.set_cons_zero, List.set_cons_succ])
            refine wpAnyP_take 1 31 [1, 3, 5, 13, 20, 22, 23, 35] (v := ?_) rfl (by kernel_rfl) (by kernel_rfl) (by kernel_rfl) (by kernel_rfl) (by kernel_rfl) (by kernel_rfl) (by rfl) (fun _ _ _ h => h) (Or.inl ⟨by rfl, ?_⟩) hS ?_; rotate_left
            · (intro w hSw; (try dsimp only at hSw); go_simp; (try with_reducible rfl))
            (try simp only [List.setIfInBounds_toArray, List.set_cons_zero, List.set_cons_succ])
            refine wpAnyP_take 2 32 [2, 3, 5, 13, 20, 22, 23, 35] (v := ?_) rfl (by kernel_rfl) (by kernel_rfl) (by kernel_rfl) (by kernel_rfl) (by kernel_rfl) (by kernel_rfl) (by rfl) (fun _ _ _ h => h) (Or.inl ⟨by rfl, ?_⟩) hS ?_; rotate_left
            · (intro w hSw; (try dsimp only at hSw); go_simp; (try with_reducible rfl))
            (try simp only [List.setIfInBounds_toArray, List.set_cons_zero, List.set_cons_succ])
            refine wpAnyP_take 3 33 [3, 5, 13, 20, 22, 23, 35] (v := ?_) rfl (by kernel_rfl) (by kernel_rfl) (by kernel_rfl) (by kernel_rfl) (by kernel_rfl) (by kernel_rfl) (by rfl) (fun _ _ _ h => h) (Or.inl ⟨by rfl, ?_⟩) hS ?_; rotate_left
            · (intro w hSw; (try dsimp only at hSw); go_simp; (try with_reducible rfl))
            (try simp only [List.setIfInBounds_toArray, List.set_cons_zero, List.set_cons_succ])
            refine wpAnyP_take 4 34 [4, 5, 13, 20, 22, 23, 35] (v := ?_) rfl (by kernel_rfl) (by kernel_rfl) (by kernel_rfl) (by kernel_rfl) (by kernel_rfl) (by kernel_rfl) (by rfl) (fun _ _ _ h => h) (Or.inl ⟨by rfl, ?_⟩) hS ?_; rotate_left
            · (intro w hSw; (try dsimp only at hSw); go_simp; (try with_reducible rfl))
            (try simp only [List.setIfInBounds_toArray, List.set_cons_zero, List.set_cons_succ])
            refine wpAnyP_take 5 35 [5, 13, 20, 22, 23, 35] (v := ?_) rfl (by kernel_rfl) (by kernel_rfl) (by kernel_rfl) (by kernel_rfl) (by kernel_rfl) (by kernel_rfl) (by rfl) (fun _ _ _ h => h) (Or.inl ⟨by rfl, ?_⟩) hS ?_; rotate_left
            · (intro w hSw; (try dsimp only at hSw); go_simp; (try with_reducible rfl))
            (try simp only [List.setIfInBounds_toArray, List.set_cons_zero, List.set_cons_succ])
            refine wpAnyP_take 6 36 [6, 7, 8, 23, 35] (v := ?_) rfl (by kernel_rfl) (by kernel_rfl) (by kernel_rfl) (by kernel_rfl) (by kernel_rfl) (by kernel_rfl) (by rfl) (fun _ _ _ h => h) (Or.inl ⟨by rfl, ?_⟩) hS ?_; rotate_left
            · (intro w hSw; (try dsimp only at hSw); go_simp; (try with_reducible rfl))
            (try simp only [List.setIfInBounds_toArray, List.set_cons_zero, List.set_cons_succ])
            refine wpAnyP_take 7 37 [7, 8, 23, 35] (v := ?_) rfl (by kernel_rfl) (by kernel_rfl) (by kernel_rfl) (by kernel_rfl) (by kernel_rfl) (by kernel_rfl) (by rfl) (fun _ _ _ h => h) (Or.inl ⟨by rfl, ?_⟩) hS ?_; rotate_left
            · (intro w hSw; (try dsimp only at hSw); go_simp; (try with_reducible rfl))
            (try simp only [List.setIfInBounds_toArray, List.set_cons_zero, List.set_cons_succ])
            refine wpAnyP_take 9 39 [9, 10, 12, 13, 20, 22, 23, 35] (v := ?_) rfl (by kernel_rfl) (by kernel_rfl) (by kernel_rfl) (by kernel_rfl) (by kernel_rfl) (by kernel_rfl) (by rfl) (fun _ _ _ h => h) (Or.inl ⟨by rfl, ?_⟩) hS ?_; rotate_left
            · (intro w hSw; (try dsimp only at hSw); go_simp; (try with_reducible rfl))
            (try simp only [List.setIfInBounds_toArray, List.set_cons_zero, List.set_cons_succ])
            refine wpAnyP_take 11 41 [11, 12, 13, 20, 22, 23, 35] (v := ?_) rfl (by kernel_rfl) (by kernel_rfl) (by kernel_rfl) (by kernel_rfl) (by kernel_rfl) (by kernel_rfl) (by rfl) (fun _ _ _ h => h) (Or.inl ⟨by rfl, ?_⟩) hS ?_; rotate_left
            · (intro w hSw; (try dsimp only at hSw); go_simp; (try with_reducible rfl))
            (try simp only [List.setIfInBounds_toArray, List.set_cons_zero, List.set_cons_succ])
            refine wpAnyP_take 14 44 [14, 15, 17, 19, 20, 22, 23, 35] (v := ?_) rfl (by kernel_rfl) (by kernel_rfl) (by kernel_rfl) (by kernel_rfl) (by kernel_rfl) (by kernel_rfl) (by rfl) (fun _ _ _ h => h) (Or.inl ⟨by rfl, ?_⟩) hS ?_; rotate_left
            · (intro w hSw; (try dsimp only at hSw); go_simp; (try with_reducible rfl))
            (try simp only [List.setIfInBounds_toArray, List.set_cons_zero, List.set_cons_succ])
            refine wpAnyP_take 15 45 [15, 17, 19, 20, 22, 23, 35] (v := ?_) rfl (by kernel_rfl) (by kernel_rfl) (by kernel_rfl) (by kernel_rfl) (by kernel_rfl) (by kernel_rfl) (by rfl) (fun _ _ _ h => h) (Or.inl ⟨by rfl, ?_⟩) hS ?_; rotate_left
            · (intro w hSw; (try dsimp only at hSw); go_simp; (try with_reducible rfl))
            (try simp only [List.setIfInBounds_toArray, List.set_cons_zero, List.set_cons_succ])
            refine wpAnyP_take 16 46 [16, 17, 19, 20, 22, 23, 35] (v := ?_) rfl (by kernel_rfl) (by kernel_rfl) (by kernel_rfl) (by kernel_rfl) (by kernel_rfl) (by kernel_rfl) (by rfl) (fun _ _ _ h => h) (Or.inl ⟨by rfl, ?_⟩) hS ?_; rotate_left
            · (intro w hSw; (try dsimp only at hSw); go_simp; (try with_reducible rfl))
            (try simp only [List.setIfInBounds_toArray, List.set_cons_zero, List.set_cons_succ])
            refine wpAnyP_take 17 47 [17, 19, 20, 22, 23, 35] (v := ?_) rfl (by kernel_rfl) (by kernel_rfl) (by kernel_rfl) (by kernel_rfl) (by kernel_rfl) (by kernel_rfl) (by rfl) (fun _ _ _ h => h) (Or.inl ⟨by rfl, ?_⟩) hS ?_; rotate_left
            · (intro w hSw; (try dsimp only at hSw); go_simp; (try with_reducible rfl))
            (try simp only [List.setIfInBounds_toArray, List.set_cons_zero, List.set_cons_succ])
            refine wpAnyP_take 18 48 [18, 19, 20, 22, 23, 35] (v := ?_) rfl (by kernel_rfl) (by kernel_rfl) (by kernel_rfl) (by kernel_rfl) (by kernel_rfl) (by kernel_rfl) (by rfl) (fun _ _ _ h => h) (Or.inl ⟨by rfl, ?_⟩) hS ?_; rotate_left
            · (intro w hSw; (try dsimp only at hSw); go_simp; (try with_reducible rfl))
            (try simp only [List.setIfInBounds_toArray, List.set_cons_zero, List.set_cons_succ])
            refine wpAnyP_take 19 49 [19, 20, 22, 23, 35] (v := ?_) rfl (by kernel_rfl) (by kernel_rfl) (by kernel_rfl) (by kernel_rfl) (by kernel_rfl) (by kernel_rfl) (by rfl) (fun _ _ _ h => h) (Or.inl ⟨by rfl, ?_⟩) hS ?_; rotate_left
            · (intro w hSw; (try dsimp only at hSw); go_simp; (try with_reducible rfl))
            (try simp only [List.setIfInBounds_toArray, List.set_cons_zero, List.set_cons_succ])
            refine wpAnyP_take 21 51 [21, 22, 23, 35] (v := ?_) rfl (by kernel_rfl) (by kernel_rfl) (by kernel_rfl) (by kernel_rfl) (by kernel_rfl) (by kernel_rfl) (by rfl) (fun _ _ _ h => h) (Or.inl ⟨by rfl, ?_⟩) hS ?_; rotate_left
            · (intro w hSw; (try dsimp only at hSw); go_simp; (try with_reducible rfl))
            (try simp only [List.setIfInBounds_toArray, List.set_cons_zero, List.set_cons_succ])
            refine wpAnyP_one 8 rfl (by kernel_rfl) (fun K hK => ?_)
            go_simp
            refine (CS _).out.mono ?_
            rintro e w5 ⟨rfl, rfl⟩
            refine hK.out _ _ (fun _ => hS) ?_
            clear hK K
            (try simp only [Act.put, List.setIfInBounds_toArray, List.set_cons_zero, List.set_cons_succ])
            refine wpAnyP_take 10 40 [10, 12, 13, 20, 22, 23, 35] (v := ?_) rfl (by kernel_rfl) (by kernel_rfl) (by kernel_rfl) (by kernel_rfl) (by kernel_rfl) (by kernel_rfl) (by rfl) (fun _ _ _ h => h) (Or.inl ⟨by rfl, ?_⟩) hS ?_; rotate_left
            · (intro w hSw; (try dsimp only at hSw); go_simp; (try with_reducible rfl))
            (try simp only [List.setIfInBounds_toArray, List.set_cons_zero, List.set_cons_succ])
            refine wpAnyP_take 12 42 [12, 13, 20, 22, 23, 35] (v := ?_) rfl (by kernel_rfl) (by kernel_rfl) (by kernel_rfl) (by kernel_rfl) (by kernel_rfl) (by kernel_rfl) (by rfl) (fun _ _ _ h => h) (Or.inl ⟨by rfl, ?_⟩) hS ?_; rotate_left
            · (intro w hSw; (try dsimp only at hSw); go_simp; (try with_reducible rfl))
            (try simp only [List.setIfInBounds_toArray, List.set_cons_zero, List.set_cons_succ])
            refine wpAnyP_take 13 43 [13, 20, 22, 23, 35] (v := ?_) rfl (by kernel_rfl) (by kernel_rfl) (by kernel_rfl) (by kernel_rfl) (by kernel_rfl) (by kernel_rfl) (by rfl) (fun _ _ _ h => h) (Or.inl ⟨by rfl, ?_⟩) hS ?_; rotate_left
            · (intro w hSw; (try dsimp only at hSw); go_simp; (try with_reducible rfl))
            (try simp only [List.setIfInBounds_toArray, List.set_cons_zero, List.set_cons_succ])
            refine wpAnyP_take 20 50 [20, 22, 23, 35] (v := ?_) rfl (by kernel_rfl) (by kernel_rfl) (by kernel_rfl) (by kernel_rfl) (by kernel_rfl) (by kernel_rfl) (by rfl) (fun _ _ _ h => h) (Or.inl ⟨by rfl, ?_⟩) hS ?_; rotate_left
            · (intro w hSw; (try dsimp only at hSw); go_simp; (try with_reducible rfl))
            (try simp only [List.setIfInBounds_toArray, List.set_cons_zero, List.set_cons_succ])
            refine wpAnyP_take 22 52 [22, 23, 35] (v := ?_) rfl (by kernel_rfl) (by kernel_rfl) (by kernel_rfl) (by kernel_rfl) (by kernel_rfl) (by kernel_rfl) (by rfl) (fun _ _ _ h => h) (Or.inl ⟨by rfl, ?_⟩) hS ?_; rotate_left
            · (intro w hSw; (try dsimp only at hSw); go_simp; (try with_reducible rfl))
            (try simp only [List.setIfInBounds_toArray, List.set_cons_zero, List.set_cons_succ])
            refine wpAnyP_take 23 53 [23, 35] (v := ?_) rfl (by kernel_rfl) (by kernel_rfl) (by kernel_rfl) (by kernel_rfl) (by kernel_rfl) (by kernel_rfl) (by rfl) (fun _ _ _ h => h) (Or.inl ⟨by rfl, ?_⟩) hS ?_; rotate_left
            · (intro w hSw; (try dsimp only at hSw); go_simp; (try with_reducible rfl))
            (try simp only [List.setIfInBounds_toArray, List.set_cons_zero, List.set_cons_succ])
            refine wpAnyP_take 24 54 [24, 25, 26, 28, 34, 35] (v := undef) rfl (by kernel_rfl) (by kernel_rfl) (by kernel_rfl) (by kernel_rfl) (by kernel_rfl) (by kernel_rfl) (by rfl) (fun _ _ _ h => h) (Or.inr ⟨by rfl, rfl⟩) hS ?_
            (try simp only [List.setIfInBounds_toArray, List.set_cons_zero, List.set_cons_succ])
            refine wpAnyP_take 25 55 [25, 26, 28, 34, 35] (v := undef) rfl (by kernel_rfl) (by kernel_rfl) (by kernel_rfl) (by kernel_rfl) (by kernel_rfl) (by kernel_rfl) (by rfl) (fun _ _ _ h => h) (Or.inr ⟨by rfl, rfl⟩) hS ?_
            (try simp only [List.setIfInBounds_toArray, List.set_cons_zero, List.set_cons_succ])
            refine wpAnyP_take 26 56 [26, 28, 34, 35] (v := undef) rfl (by kernel_rfl) (by kernel_rfl) (by kernel_rfl) (by kernel_rfl) (by kernel_rfl) (by kernel_rfl) (by rfl) (fun _ _ _ h => h) (Or.inr ⟨by rfl, rfl⟩) hS ?_
            (try simp only [List.setIfInBounds_toArray, List.set_cons_zero, List.set_cons_succ])
            refine wpAnyP_take 27 57 [27, 28, 34, 35] (v := undef) rfl (by kernel_rfl) (by kernel_rfl) (by kernel_rfl) (by kernel_rfl) (by kernel_rfl) (by kernel_rfl) (by rfl) (fun _ _ _ h => h) (Or.inr ⟨by rfl, rfl⟩) hS ?_
            (try simp only [List.setIfInBounds_toArray, List.set_cons_zero, List.set_cons_succ])
            refine wpAnyP_take 28 58 [28, 34, 35] (v := undef) rfl (by kernel_rfl) (by kernel_rfl) (by kernel_rfl) (by kernel_rfl) (by kernel_rfl) (by kernel_rfl) (by rfl) (fun _ _ _ h => h) (Or.inr ⟨by rfl, rfl⟩) hS ?_
            (try simp only [List.setIfInBounds_toArray, List.set_cons_zero, List.set_cons_succ])
            refine wpAnyP_take 29 59 [29, 30, 31, 33, 34, 35] (v := undef) rfl (by kernel_rfl) (by kernel_rfl) (by kernel_rfl) (by kernel_rfl) (by kernel_rfl) (by kernel_rfl) (by rfl) (fun _ _ _ h => h) (Or.inr ⟨by rfl, rfl⟩) hS ?_
            (try simp only [List.setIfInBounds_toArray, List.set_cons_zero, List.set_cons_succ])
            refine wpAnyP_take 30 60 [30, 31, 33, 34, 35] (v := undef) rfl (by kernel_rfl) (by kernel_rfl) (by kernel_rfl) (by kernel_rfl) (by kernel_rfl) (by kernel_rfl) (by rfl) (fun _ _ _ h => h) (Or.inr ⟨by rfl, rfl⟩) hS ?_
            (try simp only [List.setIfInBounds_toArray, List.set_cons_zero, List.set_cons_succ])
            refine wpAnyP_take 32 62 [32, 33, 34, 35] (v := undef) rfl (by kernel_rfl) (by kernel_rfl) (by kernel_rfl) (by kernel_rfl) (by kernel_rfl) (by kernel_rfl) (by rfl) (fun _ _ _ h => h) (Or.inr ⟨by rfl, rfl⟩) hS ?_
            (try simp only [List.setIfInBounds_toArray, List.set_cons_zero, List.set_cons_succ])
            refine wpAnyP_take 31 61 [31, 33, 34, 35] (v := undef) rfl (by kernel_rfl) (by kernel_rfl) (by kernel_rfl) (by kernel_rfl) (by kernel_rfl) (by kernel_rfl) (by rfl) (fun _ _ _ h => h) (Or.inr ⟨by rfl, rfl⟩) hS ?_
            (try simp only [List.setIfInBounds_toArray, List.set_cons_zero, List.set_cons_succ])
            refine wpAnyP_take 33 63 [33, 34, 35] (v := undef) rfl (by kernel_rfl) (by kernel_rfl) (by kernel_rfl) (by kernel_rfl) (by kernel_rfl) (by kernel_rfl) (by rfl) (fun _ _ _ h => h) (Or.inr ⟨by rfl, rfl⟩) hS ?_
            (try simp only [List.setIfInBounds_toArray, List.set_cons_zero, List.set_cons_succ])
            refine wpAnyP_take 34 64 [34, 35] (v := undef) rfl (by kernel_rfl) (by kernel_rfl) (by kernel_rfl) (by kernel_rfl) (by kernel_rfl) (by kernel_rfl) (by rfl) (fun _ _ _ h => h) (Or.inr ⟨by rfl, rfl⟩) hS ?_
            (try simp only [List.setIfInBounds_toArray, List.set_cons_zero, List.set_cons_succ])
            refine wpAnyP_one 35 rfl (by kernel_rfl) (fun K hK => ?_)
            go_simp
            refine hK.out _ _ (fun _ => hS) ?_
            clear hK K
            (try simp only [Act.put, List.setIfInBounds_toArray, List.set_cons_zero, List.set_cons_succ])
            refine wpAnyP_done (by kernel_rfl) ?_ _
            go_wp2_with fail
            go_meet
            exact ⟨false, rfl, hide (by rw [q1]; rfl), hS.2⟩
        case rest =>
          obtain ⟨B, rfl, HBB, HS2⟩ := hcut
          clear HS f0 f1 f2 m1 m2 m3 m4 m5 m6 m7 m8' m9 m10' m11'
          obtain ⟨W8, rfl⟩ : ∃ Z, Z = wc := ⟨_, rfl⟩
          have HS := HS2
          clear HS2
          have hbb := HBB.out
          clear HBB
          cases B
          · have hX2 : X ≤ n + Y := by
              rcases (show X ≤ n + Y ∨ X = n + 1 + Y by omega) with h | h
              · exact h
              · have := HF1.out h
                simp [this.1, this.2] at hbb
            clear HB1 HF1 hbb
            go_wp2_with fail
            go_loopg [5, 9] 4 (fun N m s wr => ∃ (L : List (Int × Int)) (M s' : Int), m = .int .i64 M ∧ s = .int .i64 s' ∧ 0 ≤ s' ∧ s' ≤ 4 ∧ N = (4 - s').toNat ∧ Hid (M = L.length) ∧ Hid (Has L (CnS a b c n Y X s')) ∧ Hid (PmSt w wr a b c))
            case atStart => exact ⟨L, M, 0, rfl, rfl, by omega, by omega, rfl, HM, hide (cn_start HH.out), HS⟩
            case round =>
              clear HM HH HS L M
              obtain ⟨L, M, s', rfl, rfl, hs0, hs4, rfl, HM, HH, HS⟩ := hrel
              obtain ⟨wq, rfl⟩ : ∃ wq : World, wq = wr := ⟨_, rfl⟩
              by_cases hs : s' < 4
              · have r1 : s'.tmod 2 = s' % 2 := Int.tmod_eq_emod_of_nonneg hs0
                have nS : wrap64 (s' + 1) = s' + 1 := by unfold wrap64; omega
                go_upto_if 74 with (fail)
                go_cut [10] (fun u W => u = .int .i64 (pS X s') ∧ W = wq)
                case first => as_aux_lemma =>
                  by_cases ho : s' = 1 ∨ s' = 3
                  · have q1 : (s' % 2 == 1) = true := by rcases ho with rfl | rfl <;> rfl
                    have q2 : decide (s' % 2 = 1) = true := by rcases ho with rfl | rfl <;> rfl
                    have hp : pS X s' = -X := if_pos ho
                    clear ho
                    go_wp2_with fail
                    go_meet
                    exact ⟨by rw [hp], rfl⟩
                  · have q1 : (s' % 2 == 1) = false := by simp; omega
                    have q2 : decide (s' % 2 = 1) = false := by simp; omega
                    have hp : pS X s' = X := if_neg ho
                    clear ho
                    go_wp2_with fail
                    go_meet
                    exact ⟨by rw [hp], rfl⟩
                case rest =>
                  obtain ⟨rfl, rfl⟩ := hcut
                  go_upto_if 78 with (fail)
                  go_cut [11] (fun u W => u = .int .i64 (qS Y s') ∧ W = wc)
                  case first => as_aux_lemma =>
                    by_cases ho : 1 < s'
                    · have q1 : decide (1 < s') = true := by simpa using ho
                      have hp : qS Y s' = -Y := if_pos ho
                      go_wp2_with fail
                      go_meet
                      exact ⟨by rw [hp], rfl⟩
                    · have q1 : decide (1 < s') = false := by simpa using ho
                      have hp : qS Y s' = Y := if_neg ho
                      go_wp2_with fail
                      go_meet
                      exact ⟨by rw [hp], rfl⟩
                  case rest =>
                    obtain ⟨rfl, rfl⟩ := hcut
                    have CV := fun W => hide (value_any a b c (pS X s') (qS Y s') W (HV.out.sgn s'))
                    have HC4 := hide (fun hk => cn_step HH.out ⟨hs0, hs⟩ hY0 hX0 hk)
                    have HSK := hide (fun hk => cn_skip HH.out ⟨hs0, hs⟩ hk)
                    obtain ⟨p, hp⟩ : ∃ p, pS X s' = p := ⟨_, rfl⟩
                    obtain ⟨q, hq⟩ : ∃ q, qS Y s' = q := ⟨_, rfl⟩
                    rw [hp, hq] at CV HC4
                    rw [hp, hq]
                    clear hp hq
                    go_upto_region 18 with (fail)
                    go_cut [95] (fun u W => ∃ B : Bool, u = .bool B ∧ Hid (B = true ↔ (X = 0 ∧ (s' = 1 ∨ s' = 3) ∨ Y = 0 ∧ 1 < s')) ∧ W = wc)
                    case first => as_aux_lemma =>
                      clear CV HC4 HSK
                      have e2 : (s' % 2 = 1) ↔ (s' = 1 ∨ s' = 3) := by omega
                      by_cases hx : X = 0
                      · have r2 : (X == 0) = true := by simpa using hx
                        by_cases ho : s' = 1 ∨ s' = 3
                        · have q1 : (s' % 2 == 1) = true := by rcases ho with rfl | rfl <;> rfl
                          have HE := hide (show (X = 0 ∧ (s' = 1 ∨ s' = 3) ∨ Y = 0 ∧ 1 < s') by omega)
                          clear hx ho e2 hs
                          go_wp2_with fail
                          go_meet
                          exact ⟨true, rfl, hide ⟨fun _ => HE.out, fun _ => rfl⟩, rfl⟩
                        · have q1 : (s' % 2 == 1) = false := by simp; omega
                          by_cases hy : Y = 0
                          · have r3 : (Y == 0) = true := by simpa using hy
                            by_cases h1 : 1 < s'
                            · have q2 : decide (1 < s') = true := by simpa using h1
                              have HE := hide (show (X = 0 ∧ (s' = 1 ∨ s' = 3) ∨ Y = 0 ∧ 1 < s') by omega)
                              clear hx ho hy e2 hs
                              go_wp2_with fail
                              go_meet
                              exact ⟨true, rfl, hide ⟨fun _ => HE.out, fun _ => rfl⟩, rfl⟩
                            · have q2 : decide (1 < s') = false := by simpa using h1
                              have HE := hide (show ¬ (X = 0 ∧ (s' = 1 ∨ s' = 3) ∨ Y = 0 ∧ 1 < s') by omega)
                              clear hx ho hy e2 hs
                              go_wp2_with fail
                              go_meet
                              exact ⟨false, rfl, hide ⟨fun h => absurd h (by decide), fun h => absurd h HE.out⟩, rfl⟩
                          · have r3 : (Y == 0) = false := by simpa using hy
                            have HE := hide (show ¬ (X = 0 ∧ (s' = 1 ∨ s' = 3) ∨ Y = 0 ∧ 1 < s') by omega)
                            clear hx ho hy e2 hs
                            go_wp2_with fail
                            go_meet
                            exact ⟨false, rfl, hide ⟨fun h => absurd h (by decide), fun h => absurd h HE.out⟩, rfl⟩
                      · have r2 : (X == 0) = false := by simpa using hx
                        by_cases hy : Y = 0
                        · have r3 : (Y == 0) = true := by simpa using hy
                          by_cases h1 : 1 < s'
                          · have q2 : decide (1 < s') = true := by simpa using h1
                            have HE := hide (show (X = 0 ∧ (s' = 1 ∨ s' = 3) ∨ Y = 0 ∧ 1 < s') by omega)
                            clear hx hy e2 hs
                            go_wp2_with fail
                            go_meet
                            exact ⟨true, rfl, hide ⟨fun _ => HE.out, fun _ => rfl⟩, rfl⟩
                          · have q2 : decide (1 < s') = false := by simpa using h1
                            have HE := hide (show ¬ (X = 0 ∧ (s' = 1 ∨ s' = 3) ∨ Y = 0 ∧ 1 < s') by omega)
                            clear hx hy e2 hs
                            go_wp2_with fail
                            go_meet
                            exact ⟨false, rfl, hide ⟨fun h => absurd h (by decide), fun h => absurd h HE.out⟩, rfl⟩
                        · have r3 : (Y == 0) = false := by simpa using hy
                          have HE := hide (show ¬ (X = 0 ∧ (s' = 1 ∨ s' = 3) ∨ Y = 0 ∧ 1 < s') by omega)
                          clear hx hy e2 hs
                          go_wp2_with fail
                          go_meet
                          exact ⟨false, rfl, hide ⟨fun h => absurd h (by decide), fun h => absurd h HE.out⟩, rfl⟩
                    case rest =>
                      obtain ⟨B, rfl, HE, rfl⟩ := hcut
                      obtain ⟨we, rfl⟩ : ∃ we : World, we = wc := ⟨_, rfl⟩
                      cases B
                      · have HC := hide (HC4.out (fun hk => by have := HE.out.2 hk; simp at this))
                        obtain ⟨V, hV⟩ : ∃ V, tA a b c p q = V := ⟨_, rfl⟩
                        rw [hV] at CV HC
                        clear hV HC4 HSK HE
                        obtain ⟨f0, f1, f2⟩ := HS.out.f.cells
                        by_cases hv : V = n
                        · have q3 : (V == n) = true := by simpa using hv
                          have q4 : decide (V = n) = true := by simpa using hv
                          have HH2 := hide (HC.out.1 hv)
                          have hl := HL.out _ _ _ _ HH2.out
                          have hl2 := HM.out
                          rw [List.length_append] at hl
                          have nM : wrap64 (M + 1) = M + 1 := by rw [hl2]; unfold wrap64; simp at hl; omega
                          clear hv hl hl2 HC
                          go_wp2_with fail
                          refine (CV _).out.mono ?_
                          rintro e w5 ⟨rfl, hb⟩
                          have HS2 := hide (HS.out.below hb)
                          clear hb
                          go_wp2_with fail
                          go_roundg (4 - (s' + 1)).toNat
                          case measure => omega
                          case rel => exact ⟨L ++ [(p, q)], M + 1, s' + 1, by rw [nM], rfl, by omega, by omega, rfl, hide (by rw [HM.out, List.length_append]; simp), HH2, HS2⟩
                        · have q3 : (V == n) = false := by simpa using hv
                          have q4 : decide (V = n) = false := by simpa using hv
                          have HH2 := hide (HC.out.2 hv)
                          clear hv HC
                          go_wp2_with fail
                          refine (CV _).out.mono ?_
                          rintro e w5 ⟨rfl, hb⟩
                          have HS2 := hide (HS.out.below hb)
                          clear hb
                          go_wp2_with fail
                          go_roundg (4 - (s' + 1)).toNat
                          case measure => omega
                          case rel => exact ⟨L, M, s' + 1, rfl, rfl, by omega, by omega, rfl, HM, HH2, HS2⟩
                      · have HH2 := hide (HSK.out (HE.out.1 rfl))
                        clear HC4 HSK HE CV
                        go_wp2_with fail
                        go_roundg (4 - (s' + 1)).toNat
                        case measure => omega
                        case rel => exact ⟨L, M, s' + 1, rfl, rfl, by omega, by omega, rfl, HM, HH2, HS⟩
              · obtain rfl : s' = 4 := by omega
                have HH2 := hide (cn_end HH.out)
                go_wp2_with fail
                go_roundg (n + 1 + Y - (X + 1)).toNat
                case measure => omega
                case rel => exact ⟨L, M, X + 1, rfl, rfl, by omega, by omega, rfl, HM, HH2, HS⟩
          · have hbb2 : n < E ∧ P < Q := by simpa using hbb.symm
            have HH2 := hide (HB1.out hbb2.1 hbb2.2)
            clear hbb2
            clear HB1 HF1 hbb
            go_wp2_with fail
            go_roundg (1157 - (Y + 1)).toNat
            case measure => omega
            case rel => exact ⟨L, M, Y + 1, rfl, rfl, by omega, rfl, HM, HH2, hide (.inr (by rw [show Y + 1 - 1 = Y by omega]; exact HC.out)), HS⟩
    · have q0 : decide (d * Y * Y ≤ 4 * a * n) = false := by simpa using hc
      have HA := hide (HALL.out L Y HH.out hY0 (by omega))
      clear hc
      go_wp2_with fail
      go_ret
      exact ⟨⟨L, HA.out, by rw [HM.out]; rfl⟩, HS.out.b⟩
end Go.Proofs.Ytlchmaiflcnaoaa
