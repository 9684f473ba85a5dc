/- The walks of the answers' Left and Turned. -/
import Derived.Test.YtlchmaiflcnaoaaKOfW
namespace Go.Proofs.Ytlchmaiflcnaoaa
open Go.RowKit
set_option maxRecDepth 100000 in
set_option maxHeartbeats 400000 in
theorem left_r (a m : Int) (w : World) (hm : 0 < m) (hm2 : m ≤ 9223372036854775807) (_ha : -9223372036854775808 ≤ a) (_ha2 : a ≤ 9223372036854775807) :
    Calls Try.prog 52 #[.int .i64 a, .int .i64 m] w fun e w' => e = .returned (.int .i64 (a % m)) ∧ w = w' := by
  have h1 := Int.lt_tmod_of_pos a hm
  have h2 := Int.tmod_lt_of_pos a hm
  go_enter Try.func52, Try.ntmps52
  go_wp2
  · go_ret
    exact ⟨ret_int (tmod_neg_fix hm (by assumption)), rfl⟩
  · go_ret
    exact ⟨ret_int (tmod_pos_fix hm (by assumption)), rfl⟩

/-- the sums and products of Turned -/
def TnOk (a b c x r y s : Int) : Prop := (wrap64 (2 * a) = 2 * a ∧ wrap64 (2 * a * x) = 2 * a * x ∧ wrap64 (2 * a * x * r) = 2 * a * x * r) ∧ (wrap64 (x * s) = x * s ∧ wrap64 (r * y) = r * y ∧ wrap64 (x * s + r * y) = x * s + r * y ∧ wrap64 (b * (x * s + r * y)) = b * (x * s + r * y)) ∧ (wrap64 (2 * a * x * r + b * (x * s + r * y)) = 2 * a * x * r + b * (x * s + r * y) ∧ wrap64 (2 * c) = 2 * c ∧ wrap64 (2 * c * y) = 2 * c * y ∧ wrap64 (2 * c * y * s) = 2 * c * y * s ∧ wrap64 (2 * a * x * r + b * (x * s + r * y) + 2 * c * y * s) = tB a b c x r y s)
theorem small_all {a b c x r y s : Int} (ha : a.natAbs ≤ 81) (hb : b.natAbs ≤ 81) (hc : c.natAbs ≤ 6666) (hx : x.natAbs ≤ 50) (hr : r.natAbs ≤ 50) (hy : y.natAbs ≤ 50) (hs : s.natAbs ≤ 50) : TnOk a b c x r y s ∧ ValOk a b c x y ∧ (tB a b c x r y s).natAbs ≤ 100000000 := by
  have e1 := abs_mul_le (x := 2 * a) (y := x) (p := 162) (q := 50) (by omega) hx
  have e2 := abs_mul_le (x := 2 * a * x) (y := r) (p := 162 * 50) (q := 50) (by omega) hr
  have e3 := abs_mul_le (x := x) (y := s) (p := 50) (q := 50) hx hs
  have e4 := abs_mul_le (x := r) (y := y) (p := 50) (q := 50) hr hy
  have e5 := abs_mul_le (x := b) (y := x * s + r * y) (p := 81) (q := 5000) hb (by omega)
  have e6 := abs_mul_le (x := 2 * c) (y := y) (p := 13332) (q := 50) (by omega) hy
  have e7 := abs_mul_le (x := 2 * c * y) (y := s) (p := 13332 * 50) (q := 50) (by omega) hs
  have f1 := abs_mul_le (x := a) (y := x) (p := 81) (q := 50) ha hx
  have f2 := abs_mul_le (x := a * x) (y := x) (p := 81 * 50) (q := 50) (by omega) hx
  have f3 := abs_mul_le (x := b) (y := x) (p := 81) (q := 50) hb hx
  have f4 := abs_mul_le (x := b * x) (y := y) (p := 81 * 50) (q := 50) (by omega) hy
  have f5 := abs_mul_le (x := c) (y := y) (p := 6666) (q := 50) hc hy
  have f6 := abs_mul_le (x := c * y) (y := y) (p := 6666 * 50) (q := 50) (by omega) hy
  refine ⟨?_, ⟨by omega, by omega, by omega, by omega, by omega, by omega⟩, by unfold tB; omega⟩
  unfold TnOk tB wrap64
  refine ⟨⟨?_, ?_, ?_⟩, ⟨?_, ?_, ?_, ?_⟩, ?_, ?_, ?_, ?_, ?_⟩ <;> omega

set_option maxRecDepth 100000 in
set_option maxHeartbeats 6400000 in
theorem turned_any (a b c x r y s : Int) (w : World) (h1 : ValOk a b c x y) (h2 : ValOk a b c r s) (h3 : TnOk a b c x r y s) :
    Calls Try.prog 51 #[.agg #[.int .i64 a, .int .i64 b, .int .i64 c], .agg #[.int .i64 x, .int .i64 r, .int .i64 y, .int .i64 s]] w fun e w' => e = .returned (.agg #[.int .i64 (tA a b c x y), .int .i64 (tB a b c x r y s), .int .i64 (tA a b c r s)]) ∧ Below w.heap.size w w' := by
  have CV1 := fun W => hide (value_any a b c x y W h1)
  have CV2 := fun W => hide (value_any a b c r s W h2)
  obtain ⟨⟨W1, W2, W3⟩, ⟨W4, W5, W6, W7⟩, W8, W9, W10, W11, W12⟩ := h3
  obtain ⟨V1, hV1⟩ : ∃ V, tA a b c x y = V := ⟨_, rfl⟩
  obtain ⟨V2, hV2⟩ : ∃ V, tA a b c r s = V := ⟨_, rfl⟩
  obtain ⟨V3, hV3⟩ : ∃ V, tB a b c x r y s = V := ⟨_, rfl⟩
  rw [hV1] at CV1
  rw [hV2] at CV2
  rw [hV3] at W12
  rw [hV1, hV2, hV3]
  have HWW : IntKind.i64.wrap (IntKind.i64.wrap (IntKind.i64.wrap (IntKind.i64.wrap (IntKind.i64.wrap (2 * a) * x) * r) + IntKind.i64.wrap (b * IntKind.i64.wrap (IntKind.i64.wrap (x * s) + IntKind.i64.wrap (r * y)))) + IntKind.i64.wrap (IntKind.i64.wrap (IntKind.i64.wrap (2 * c) * y) * s)) = V3 := by
    have q : ∀ x, IntKind.i64.wrap x = wrap64 x := fun x => by unfold wrap64; exact IntKind.wrap_i64 x
    simp only [q, W1, W2, W3, W4, W5, W6, W7, W8, W9, W10, W11, W12]
  clear h1 h2 hV1 hV2 hV3 W1 W2 W3 W4 W5 W6 W7 W8 W9 W10 W11 W12
  have M0 := (MC.made w a b c).below (bel_obj _ (.cells #[.int .i64 x, .int .i64 r, .int .i64 y, .int .i64 s] 47))
  have T0 := TC.made (w.alloc (.cells #[.int .i64 a, .int .i64 b, .int .i64 c] 23)) x r y s 47
  have B0 := hide (((Below.refl w.heap.size w).alloc (Nat.le_refl _) (.cells #[.int .i64 a, .int .i64 b, .int .i64 c] 23)).alloc (by simp) (.cells #[.int .i64 x, .int .i64 r, .int .i64 y, .int .i64 s] 47))
  have M := hide ((FMem.start ((w.alloc (.cells #[.int .i64 a, .int .i64 b, .int .i64 c] 23)).alloc (.cells #[.int .i64 x, .int .i64 r, .int .i64 y, .int .i64 s] 47))).form 0 0 0)
  go_enter Try.func51, Try.ntmps51
  go_upto_region 1 with (fail)
  have KM := fun W (k : Below ((w.alloc (.cells #[.int .i64 a, .int .i64 b, .int .i64 c] 23)).alloc (.cells #[.int .i64 x, .int .i64 r, .int .i64 y, .int .i64 s] 47)).heap.size ((w.alloc (.cells #[.int .i64 a, .int .i64 b, .int .i64 c] 23)).alloc (.cells #[.int .i64 x, .int .i64 r, .int .i64 y, .int .i64 s] 47)) W) => hide (show (W.cell? ⟨w.heap.size, 0, none⟩ = some (.int .i64 a) ∧ W.cell? ⟨w.heap.size, 1, none⟩ = some (.int .i64 b) ∧ W.cell? ⟨w.heap.size, 2, none⟩ = some (.int .i64 c)) ∧ (W.cell? ⟨w.heap.size + 1, 0, none⟩ = some (.int .i64 x) ∧ W.cell? ⟨w.heap.size + 1, 1, none⟩ = some (.int .i64 r) ∧ W.cell? ⟨w.heap.size + 1, 2, none⟩ = some (.int .i64 y) ∧ W.cell? ⟨w.heap.size + 1, 3, none⟩ = some (.int .i64 s)) ∧ Hid (Below ((w.alloc (.cells #[.int .i64 a, .int .i64 b, .int .i64 c] 23)).alloc (.cells #[.int .i64 x, .int .i64 r, .int .i64 y, .int .i64 s] 47)).heap.size ((w.alloc (.cells #[.int .i64 a, .int .i64 b, .int .i64 c] 23)).alloc (.cells #[.int .i64 x, .int .i64 r, .int .i64 y, .int .i64 s] 47)) W) from ⟨(M0.below k).cells, by have := (T0.below k).cells; rwa [World.size_alloc] at this, k⟩)
  obtain ⟨w2, hw2⟩ : ∃ Z, (w.alloc (.cells #[.int .i64 a, .int .i64 b, .int .i64 c] 23)).alloc (.cells #[.int .i64 x, .int .i64 r, .int .i64 y, .int .i64 s] 47) = Z := ⟨_, rfl⟩
  have hs2 : w.heap.size + 1 + 1 = w2.heap.size := by rw [← hw2]; simp
  rw [hw2] at M B0 KM
  (try rw [hw2])
  rw [hs2]
  clear M0 T0 hw2
  obtain ⟨m, hm⟩ : ∃ m, w.heap.size = m := ⟨_, rfl⟩
  rw [hm] at B0 KM
  (try rw [hm])
  obtain ⟨p, hp⟩ : ∃ p, w2.heap.size = p := ⟨_, rfl⟩
  have hp2 : w2.heap.size ≤ p := by omega
  have hmp : m + 1 < p := by omega
  rw [hp] at M
  (try rw [hp])
  clear hs2 hp
  go_region_held3 (fun W => (W.cell? ⟨m, 0, none⟩ = some (.int .i64 a) ∧ W.cell? ⟨m, 1, none⟩ = some (.int .i64 b) ∧ W.cell? ⟨m, 2, none⟩ = some (.int .i64 c)) ∧ (W.cell? ⟨m + 1, 0, none⟩ = some (.int .i64 x) ∧ W.cell? ⟨m + 1, 1, none⟩ = some (.int .i64 r) ∧ W.cell? ⟨m + 1, 2, none⟩ = some (.int .i64 y) ∧ W.cell? ⟨m + 1, 3, none⟩ = some (.int .i64 s)) ∧ Hid (Below w2.heap.size w2 W)) (first | with_reducible exact (KM _ M.out.b).out | with_reducible exact (KM _ M.out.drw.b).out | exact (KM _ (by repeat' (first | with_reducible exact M.out.b | (with_reducible refine Below.setCell ?_ ?_ _) | (with_reducible refine Below.alloc ?_ ?_ _) | omega))).out) (first | (go_at_call 49; first | (with_reducible refine calls_mono' (FMem.call (by first | with_reducible exact M.out | with_reducible exact M.out.drw) (CV1 _).out) ?_); (rintro e w6 ⟨rfl, M'⟩; have M := hide M'; have hlt := (M'.f _ (List.mem_cons_self ..)).lt; obtain ⟨c0, c1', c2'⟩ := (M'.f _ (List.mem_cons_self ..)).cells; have z0 := (M'.f _ (List.mem_cons_self ..)).frozen 0; have z1 := (M'.f _ (List.mem_cons_self ..)).frozen 1; have z2 := (M'.f _ (List.mem_cons_self ..)).frozen 2; clear M') | (with_reducible refine calls_mono' (FMem.call (by first | with_reducible exact M.out | with_reducible exact M.out.drw) (CV2 _).out) ?_); (rintro e w6 ⟨rfl, M'⟩; have M := hide M'; have hlt := (M'.f _ (List.mem_cons_self ..)).lt; obtain ⟨c0, c1', c2'⟩ := (M'.f _ (List.mem_cons_self ..)).cells; have z0 := (M'.f _ (List.mem_cons_self ..)).frozen 0; have z1 := (M'.f _ (List.mem_cons_self ..)).frozen 1; have z2 := (M'.f _ (List.mem_cons_self ..)).frozen 2; clear M')))
  all_goals
    (try rw [HWW])
    rename_i hS
    clear hS
    have F := M.out.putF (A := V1) (B := V3) (C := V2)
    obtain ⟨G0, G1, G2⟩ := (F.f _ (List.mem_cons_self ..)).cells
    have FB := hide F.b
    simp only at G0 G1 G2
    clear F M KM CV1 CV2
    go_wp2_with fail
    exact bodyPost_ret (v := .agg #[.int .i64 V1, .int .i64 V3, .int .i64 V2]) (by simp [results, Try.results51, go_sem, G0, G1, G2]) rfl ⟨rfl, by subst hm; exact B0.out.trans (FB.out.mono B0.out.size)⟩
end Go.Proofs.Ytlchmaiflcnaoaa
