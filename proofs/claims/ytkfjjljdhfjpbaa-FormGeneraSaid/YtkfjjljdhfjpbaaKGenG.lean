/- The walk of the document's GenusOf (printed by gen_geng.py). -/
import Derived.Test.YtkfjjljdhfjpbaaKGenS
import Derived.Test.YtkfjjljdhfjpbaaKGenE
import Derived.Test.YtkfjjljdhfjpbaaKFormA
import Derived.Test.YtkfjjljdhfjpbaaKWhole
import Derived.Test.YtkfjjljdhfjpbaaKRefG
import Derived.Test.YtkfjjljdhfjpbaaKRegion
import Derived.Deep.OwnRows
import Derived.Laws.OwnMore
namespace Go.Proofs.Ytkfjjljdhfjpbaa
open Go.RowKit
open GN

/-- a block -/
def GKB (W : World) (g : Nat) (vs : Array Value) (T : TypeId) : Prop := W.heap[g]? = some (.cells vs T (0, 0))
theorem GKB.lt {w : World} {g : Nat} {vs : Array Value} {T : TypeId} (h : GKB w g vs T) : g < w.heap.size := (Array.getElem?_eq_some_iff.1 h).1
theorem GKB.below {w w' : World} {g : Nat} {vs : Array Value} {T : TypeId} (h : GKB w g vs T) (k : Below w.heap.size w w') : GKB w' g vs T := (k.block g h.lt).trans h
theorem GKB.cell {w : World} {g : Nat} {vs : Array Value} {T : TypeId} (h : GKB w g vs T) {i : Nat} {v : Value} (hv : vs[i]? = some v) : w.cell? ⟨g, i, none⟩ = some v := by
  unfold GKB at h
  simp [World.cell?, h, hv]
/-- GenusOf's memory: the form, and which numbers have been met -/
structure GM (w W : World) (g d : Nat) (a b c : Int) (G : Nat → Bool) : Prop where
  f : GKB W w.heap.size #[.int .i64 a, .int .i64 b, .int .i64 c] 23
  r : ∃ vs : Array Value, vs.size = d ∧ GKB W g vs 4 ∧ ∀ i, i < d → vs[i]? = some (.bool (G i))
  n : w.heap.size < g
  b : Below w.heap.size w W
theorem GM.below {w W W' : World} {g d : Nat} {a b c : Int} {G : Nat → Bool} (h : GM w W g d a b c G) (k : Below W.heap.size W W') : GM w W' g d a b c G := by
  obtain ⟨h1, ⟨vs, h2, h3, h4⟩, hn, h5⟩ := h
  exact ⟨h1.below k, ⟨vs, h2, h3.below k, h4⟩, hn, h5.trans (k.mono h5.size)⟩
theorem GM.three {w W : World} {g d : Nat} {a b c : Int} {G : Nat → Bool} (h : GM w W g d a b c G) : W.cell? ⟨w.heap.size, 0, none⟩ = some (.int .i64 a) ∧ W.cell? ⟨w.heap.size, 1, none⟩ = some (.int .i64 b) ∧ W.cell? ⟨w.heap.size, 2, none⟩ = some (.int .i64 c) := ⟨h.f.cell rfl, h.f.cell rfl, h.f.cell rfl⟩
theorem GM.at_ {w W : World} {g d : Nat} {a b c : Int} {G : Nat → Bool} (h : GM w W g d a b c G) {i : Nat} (hi : i < d) : W.cell? ⟨g, i, none⟩ = some (.bool (G i)) ∧ W.frozen? ⟨g, i, none⟩ = false := by
  obtain ⟨_, ⟨vs, h2, h3, h4⟩, _, _⟩ := h
  refine ⟨h3.cell (h4 i hi), ?_⟩
  unfold GKB at h3
  simp [World.frozen?, h3]
theorem GM.put {w W : World} {g d : Nat} {a b c : Int} {G : Nat → Bool} (h : GM w W g d a b c G) (i : Nat) : GM w (W.setCell ⟨g, i, none⟩ (.bool true)) g d a b c (fun j => G j || j == i) := by
  obtain ⟨h1, ⟨vs, h2, h3, h4⟩, hn, h5⟩ := h
  refine ⟨(Below.heap_setCell _ _ _ _ (show w.heap.size ≠ g by omega)).trans h1, ⟨vs.setIfInBounds i (.bool true), by simp [h2], ?_, fun j hj => ?_⟩, hn, h5.setCell (p := ⟨g, i, none⟩) (show w.heap.size ≤ g by omega) _⟩
  · unfold GKB at h3 ⊢
    simp [World.setCell, Array.getElem?_modify, h3]
  · rw [Array.getElem?_setIfInBounds]
    by_cases e : i = j
    · subst e
      rw [if_pos rfl, if_pos (by rw [h2]; exact hj)]
      simp
    · rw [if_neg e, h4 j hj]
      simp [show j ≠ i from fun k => e k.symm]
/-- which numbers are met up to x, y -/
def gB (d : Nat) (a b c : Int) (x y j : Nat) : Bool := ((List.range x).any fun x => (List.range d).any fun y => decide (val a b c (x : Int) (y : Int) % (d : Int) = (j : Int))) || (List.range y).any fun y => decide (val a b c (x : Int) (y : Int) % (d : Int) = (j : Int))
theorem gB_next (d : Nat) (a b c : Int) (x y i : Nat) (h : val a b c (x : Int) (y : Int) % (d : Int) = (i : Int)) : (fun j => gB d a b c x y j || j == i) = gB d a b c x (y + 1) := by
  funext j
  unfold gB
  rw [List.range_succ, List.any_append, ← Bool.or_assoc]
  congr 1
  simp only [List.any_cons, List.any_nil, Bool.or_false, h]
  by_cases e : j = i
  · subst e; simp
  · have : ¬ (i : Int) = (j : Int) := by omega
    simp [e, this]
theorem gB_row (d : Nat) (a b c : Int) (x : Nat) : gB d a b c x d = gB d a b c (x + 1) 0 := by
  funext j
  unfold gB
  rw [List.range_succ, List.any_append]
  simp
theorem gB_end (d : Nat) (a b c : Int) (j : Nat) : gB d a b c d 0 j = hit d a b c j := by
  unfold gB hit
  simp
theorem gB_start (d : Nat) (a b c : Int) : gB d a b c 0 0 = fun _ => false := by
  funext j
  simp [gB]
theorem binfoG : (Try.prog.info? 4).map (fun i => (i.zero, i.size, i.bytes)) = some (some (.bool false), 1, 1) := by kernel_rfl
theorem iinfoG : (Try.prog.info? 3).map (fun i => (i.zero, i.size, i.bytes)) = some (some (.int .i64 0), 1, 8) := by kernel_rfl
theorem GM.start {w W : World} (d : Nat) {a b c : Int} (h : GKB W w.heap.size #[.int .i64 a, .int .i64 b, .int .i64 c] 23) (hb : Below w.heap.size w W) : GM w (W.alloc (.cells (madeCells #[.bool false] d) 4)) W.heap.size d a b c (fun _ => false) := by
  have hs : (madeCells #[.bool false] d).size = d := by simp [madeCells]
  have hg : ∀ (i : Nat), i < d → (madeCells #[.bool false] d)[i]? = some (.bool false) := fun i hi => by
    simp [madeCells, hi, Nat.mod_one]
  refine ⟨h.below ((Below.refl _ _).alloc (Nat.le_refl _) _), ⟨_, hs, ?_, hg⟩, h.lt, hb.alloc hb.size _⟩
  show (W.heap.push _)[W.heap.size]? = _
  simp
set_option maxRecDepth 100000 in
set_option maxHeartbeats 400000 in
theorem left_g (a m : Int) (w : World) (hm : 0 < m) (hm2 : m ≤ 9223372036854775807) (_ha : -9223372036854775808 ≤ a) (_ha2 : a ≤ 9223372036854775807) :
    Calls Try.prog 25 #[.int .i64 a, .int .i64 m] w fun e w' => e = .returned (.int .i64 (a % m)) ∧ w = w' := by
  have h1 := Int.lt_tmod_of_pos a hm
  have h2 := Int.tmod_lt_of_pos a hm
  go_enter Try.func25, Try.ntmps25
  go_wp2
  · go_ret
    exact ⟨ret_int (tmod_neg_fix hm (by assumption)), rfl⟩
  · go_ret
    exact ⟨ret_int (tmod_pos_fix hm (by assumption)), rfl⟩
theorem eadd {d : Nat} {u v u' v' : Int} (h : u % d = u' % d) (k : v % d = v' % d) : (u + v) % d = (u' + v') % d := by rw [Int.add_emod, h, k, ← Int.add_emod]
theorem info_partsG {P : Program} {e : TypeId} {z : Value} {size bytes : Nat} (h : (P.info? e).map (fun i => (i.zero, i.size, i.bytes)) = some (some z, size, bytes)) : ∃ i, P.info? e = some i ∧ i.zero = some z ∧ i.size = size ∧ i.bytes = bytes := by
  obtain ⟨i, hi, hzz⟩ := Option.map_eq_some_iff.1 h
  simp only [Prod.mk.injEq] at hzz
  exact ⟨i, hi, hzz.1, hzz.2.1, hzz.2.2⟩
theorem one_newG (W : World) (a : Value) (T : TypeId) : ∀ (j : Nat) (u : Value), [a][j]? = some u → (W.alloc (.cells #[a] T)).cell? ((⟨W.heap.size, 0, none⟩ : Addr).add j) = some u := by
  intro j u hu
  have hb : (W.alloc (.cells #[a] T)).heap[W.heap.size]? = some (.cells #[a] T (0, 0)) := by
    show (W.heap.push _)[W.heap.size]? = _
    simp
  generalize W.alloc (.cells #[a] T) = W2 at hb
  generalize W.heap.size = g at hb
  match j, hu with
  | 0, hu => simp at hu; subst hu; simp [World.cell?, Addr.add, hb]
theorem nn_mul {x y p q : Int} (hx : 0 ≤ x) (hx2 : x ≤ p) (hy : 0 ≤ y) (hy2 : y ≤ q) : 0 ≤ x * y ∧ x * y ≤ p * q :=
  ⟨Int.mul_nonneg hx hy, Int.mul_le_mul hx2 hy2 hy (Int.le_trans hx hx2)⟩

set_option maxRecDepth 100000 in
set_option maxHeartbeats 6400000 in
theorem genusOf_any (a b c : Int) (d : Nat) (w : World) (hd : 2 < d) (hd4 : d ≤ 400) (hD : -(d : Int) = b * b - 4 * a * c) (ha : a.natAbs ≤ 1000000000) (hb : b.natAbs ≤ 1000000000) (hc : c.natAbs ≤ 1000000000) :
    Calls Try.prog 10 #[.agg #[.int .i64 a, .int .i64 b, .int .i64 c]] w fun e w' => ∃ v, e = .returned v ∧ NRow w' w.heap.size v (gset d a b c) ∧ Below w.heap.size w w' := by
  have CD := fun W => hide (rdisc_any a b c W ha hb hc)
  rw [← hD] at CD
  have hmk := run_make_row' (P := Try.prog) 52 4 (.bool false) 1 Try.underlying52 binfoG rfl .i64 .i64 d (by omega) (by omega)
  have nn : IntKind.i64.wrap (-(-(d : Int))) = (d : Int) := by rw [IntKind.wrap_i64]; omega
  obtain ⟨A0, hA0⟩ : ∃ z, a % (d : Int) = z := ⟨_, rfl⟩
  obtain ⟨B0, hB0⟩ : ∃ z, b % (d : Int) = z := ⟨_, rfl⟩
  obtain ⟨C0, hC0⟩ : ∃ z, c % (d : Int) = z := ⟨_, rfl⟩
  have CA := fun W => hide (left_g a d W (by omega) (by omega) (by omega) (by omega))
  have CB := fun W => hide (left_g b d W (by omega) (by omega) (by omega) (by omega))
  have CC := fun W => hide (left_g c d W (by omega) (by omega) (by omega) (by omega))
  have CVH := hide (fun (X : Int) (h1 : -9223372036854775808 ≤ X) (h2 : X ≤ 9223372036854775807) W => left_g X d W (by omega) (by omega) h1 h2)
  have CG := hide (fun (i : Nat) (hi : i < d) W => refGcd_any (i : Int) (d : Int) W (by omega) (by omega) (by omega) (by omega))
  rw [hA0] at CA
  rw [hB0] at CB
  rw [hC0] at CC
  have HA0 := hide (And.intro (show 0 ≤ A0 ∧ A0 < d from ⟨by rw [← hA0]; exact Int.emod_nonneg _ (by omega), by rw [← hA0]; exact Int.emod_lt_of_pos _ (by omega)⟩) hA0)
  have HB0 := hide (And.intro (show 0 ≤ B0 ∧ B0 < d from ⟨by rw [← hB0]; exact Int.emod_nonneg _ (by omega), by rw [← hB0]; exact Int.emod_lt_of_pos _ (by omega)⟩) hB0)
  have HC0 := hide (And.intro (show 0 ≤ C0 ∧ C0 < d from ⟨by rw [← hC0]; exact Int.emod_nonneg _ (by omega), by rw [← hC0]; exact Int.emod_lt_of_pos _ (by omega)⟩) hC0)
  have HDD := hide (And.intro hd hd4)
  clear hA0 hB0 hC0 ha hb hc hD
  go_enter Try.func10, Try.ntmps10
  go_wp2_with fail
  refine (CD _).out.mono ?_
  rintro e w1 ⟨rfl, hb⟩
  have hf : GKB (w.alloc (.cells #[.int .i64 a, .int .i64 b, .int .i64 c] 23)) w.heap.size #[.int .i64 a, .int .i64 b, .int .i64 c] 23 := by
    show (w.heap.push _)[w.heap.size]? = _
    simp
  have H1 := hide (GM.start d (hf.below hb) (((Below.refl _ _).alloc (Nat.le_refl _) _).trans (hb.mono (by simp))))
  obtain ⟨g, hg⟩ : ∃ ZZ, w1.heap.size = ZZ := ⟨_, rfl⟩
  obtain ⟨W1, hW1⟩ : ∃ ZZ, w1.alloc (.cells (madeCells #[.bool false] d) 4) = ZZ := ⟨_, rfl⟩
  rw [hW1, hg] at H1
  rw [← gB_start d a b c] at H1
  clear hf hb CD
  go_upto_region 3 with (fail)
  (try rw [hW1])
  (try rw [hg])
  clear hW1 hg hmk nn
  go_wp2_with fail
  go_loopw [5] (fun xv wr => ∃ x : Nat, xv = .int .i64 x ∧ x ≤ d ∧ Hid (GM w wr g d a b c (gB d a b c x 0))) (fun xv _ => d - (intOf xv).toNat)
  case atStart => exact ⟨0, rfl, by omega, H1⟩
  case round =>
    clear H1
    obtain ⟨x, rfl, hx, HX⟩ := hrel
    by_cases hxd : x < d
    · have HXD := hide hxd
      have q1 : decide ((x : Int) < (d : Int)) = true := by rw [decide_eq_true_eq]; omega
      have q2 : decide (x < d) = true := by rw [decide_eq_true_eq]; omega
      clear hxd hx
      go_wp2_with fail
      clear q1 q2
      go_loopw [6] (fun yv wz => ∃ y : Nat, yv = .int .i64 y ∧ y ≤ d ∧ Hid (GM w wz g d a b c (gB d a b c x y))) (fun yv _ => d - (intOf yv).toNat)
      case atStart => exact ⟨0, rfl, by omega, HX⟩
      case round =>
        clear HX
        obtain ⟨y, rfl, hy, HY⟩ := hrel
        by_cases hyd : y < d
        · have HYD := hide hyd
          have q1 : decide ((y : Int) < (d : Int)) = true := by rw [decide_eq_true_eq]; omega
          have q2 : decide (y < d) = true := by rw [decide_eq_true_eq]; omega
          have hx' := HXD.out
          have hA := HA0.out.1
          have hB := HB0.out.1
          have hC := HC0.out.1
          have m1 := nn_mul (x := A0) (y := (x : Int)) (p := 400) (q := 400) (by omega) (by omega) (by omega) (by omega)
          have m2 := nn_mul (x := A0 * x) (y := (x : Int)) (p := 400 * 400) (q := 400) (by omega) (by omega) (by omega) (by omega)
          have m3 := nn_mul (x := B0) (y := (x : Int)) (p := 400) (q := 400) (by omega) (by omega) (by omega) (by omega)
          have m4 := nn_mul (x := B0 * x) (y := (y : Int)) (p := 400 * 400) (q := 400) (by omega) (by omega) (by omega) (by omega)
          have m5 := nn_mul (x := C0) (y := (y : Int)) (p := 400) (q := 400) (by omega) (by omega) (by omega) (by omega)
          have m6 := nn_mul (x := C0 * y) (y := (y : Int)) (p := 400 * 400) (q := 400) (by omega) (by omega) (by omega) (by omega)
          have w1 : IntKind.i64.wrap (A0 * x) = A0 * x := by rw [IntKind.wrap_i64]; omega
          have w2 : IntKind.i64.wrap (A0 * x * x) = A0 * x * x := by rw [IntKind.wrap_i64]; omega
          have w3 : IntKind.i64.wrap (B0 * x) = B0 * x := by rw [IntKind.wrap_i64]; omega
          have w4 : IntKind.i64.wrap (B0 * x * y) = B0 * x * y := by rw [IntKind.wrap_i64]; omega
          have w5 : IntKind.i64.wrap (A0 * x * x + B0 * x * y) = A0 * x * x + B0 * x * y := by rw [IntKind.wrap_i64]; omega
          have w6 : IntKind.i64.wrap (C0 * y) = C0 * y := by rw [IntKind.wrap_i64]; omega
          have w7' : IntKind.i64.wrap (C0 * y * y) = C0 * y * y := by rw [IntKind.wrap_i64]; omega
          have w8 : IntKind.i64.wrap (A0 * x * x + B0 * x * y + C0 * y * y) = A0 * x * x + B0 * x * y + C0 * y * y := by rw [IntKind.wrap_i64]; omega
          have CV := fun W => hide (CVH.out (A0 * x * x + B0 * x * y + C0 * y * y) (by omega) (by omega) W)
          have z0 := Int.emod_nonneg (A0 * x * x + B0 * x * y + C0 * y * y) (show (d : Int) ≠ 0 by omega)
          have z1 := Int.emod_lt_of_pos (A0 * x * x + B0 * x * y + C0 * y * y) (show (0 : Int) < d by omega)
          obtain ⟨i, hi⟩ : ∃ i : Nat, (A0 * x * x + B0 * x * y + C0 * y * y) % (d : Int) = (i : Int) := ⟨_, (Int.toNat_of_nonneg z0).symm⟩
          rw [hi] at CV z1
          have HIV : Hid (val a b c (x : Int) (y : Int) % (d : Int) = (i : Int)) := hide (by
            rw [← hi, ← HA0.out.2, ← HB0.out.2, ← HC0.out.2]
            have ea := emul (d := d) (emul (Int.emod_emod_of_dvd a (Int.dvd_refl (d : Int))) (rfl : (x : Int) % d = x % d)) (rfl : (x : Int) % d = x % d)
            have eb := emul (d := d) (emul (Int.emod_emod_of_dvd b (Int.dvd_refl (d : Int))) (rfl : (x : Int) % d = x % d)) (rfl : (y : Int) % d = y % d)
            have ec := emul (d := d) (emul (Int.emod_emod_of_dvd c (Int.dvd_refl (d : Int))) (rfl : (y : Int) % d = y % d)) (rfl : (y : Int) % d = y % d)
            unfold val
            exact (eadd (eadd ea eb) ec).symm)
          have HIB : Hid (i < d) := hide (by omega)
          have i1 : (i : Int) < (d : Int) := z1
          have i2 : (0 : Int) ≤ (i : Int) := by omega
          have KS := fun W (hX : GM w W g d a b c (gB d a b c x y)) => (show W.cell? ⟨w.heap.size, 0, none⟩ = some (.int .i64 a) ∧ W.cell? ⟨w.heap.size, 1, none⟩ = some (.int .i64 b) ∧ W.cell? ⟨w.heap.size, 2, none⟩ = some (.int .i64 c) from hX.three)
          have HB5 := hide (HY.out.below (below_drewN (Below.refl _ _) 1))
          obtain ⟨W6, hW6⟩ : ∃ ZZ, wr.drewN 1 = ZZ := ⟨_, rfl⟩
          rw [hW6] at HB5
          have hS0 := KS _ HB5.out
          have HW6 : Hid (wr.drew = W6) := hide hW6
          clear m1 m2 m3 m4 m5 m6 z0 z1 hi hA hB hC hx' hyd hy
          go_upto_region 9 with (fail)
          refine wp_region_P (fun W => W.cell? ⟨w.heap.size, 0, none⟩ = some (.int .i64 a) ∧ W.cell? ⟨w.heap.size, 1, none⟩ = some (.int .i64 b) ∧ W.cell? ⟨w.heap.size, 2, none⟩ = some (.int .i64 c)) 30 (by rfl) (by rw [HW6.out]; exact hS0) ?_
          rw [HW6.out]
          clear hS0 HW6 hW6
          intro hS
          refine wpAnyP_take 0 24 [0, 30] (v := ?_) rfl (by kernel_rfl) (by kernel_rfl) (by kernel_rfl) (by kernel_rfl) (by kernel_rfl) (by kernel_rfl) (by rfl) (fun _ _ _ h => h) (Or.inl ⟨by rfl, ?_⟩) hS ?_; rotate_left
          · (intro w hSw; (try dsimp only at hSw); go_simp; (try with_reducible rfl))
          (try simp only [List.setIfInBounds_toArray, List.set_cons_zero, List.set_cons_succ])
          refine wpAnyP_take 1 25 [1, 30] (v := ?_) rfl (by kernel_rfl) (by kernel_rfl) (by kernel_rfl) (by kernel_rfl) (by kernel_rfl) (by kernel_rfl) (by rfl) (fun _ _ _ h => h) (Or.inl ⟨by rfl, ?_⟩) hS ?_; rotate_left
          · (intro w hSw; (try dsimp only at hSw); go_simp; (try with_reducible rfl))
          (try simp only [List.setIfInBounds_toArray, List.set_cons_zero, List.set_cons_succ])
          refine wpAnyP_take 2 26 [2, 30] (v := ?_) rfl (by kernel_rfl) (by kernel_rfl) (by kernel_rfl) (by kernel_rfl) (by kernel_rfl) (by kernel_rfl) (by rfl) (fun _ _ _ h => h) (Or.inl ⟨by rfl, ?_⟩) hS ?_; rotate_left
          · (intro w hSw; (try dsimp only at hSw); go_simp; (try with_reducible rfl))
          (try simp only [List.setIfInBounds_toArray, List.set_cons_zero, List.set_cons_succ])
          refine wpAnyP_take 3 27 [3, 30] (v := ?_) rfl (by kernel_rfl) (by kernel_rfl) (by kernel_rfl) (by kernel_rfl) (by kernel_rfl) (by kernel_rfl) (by rfl) (fun _ _ _ h => h) (Or.inl ⟨by rfl, ?_⟩) hS ?_; rotate_left
          · (intro w hSw; (try dsimp only at hSw); go_simp; (try with_reducible rfl))
          (try simp only [List.setIfInBounds_toArray, List.set_cons_zero, List.set_cons_succ])
          refine wpAnyP_take 5 29 [5, 30] (v := ?_) rfl (by kernel_rfl) (by kernel_rfl) (by kernel_rfl) (by kernel_rfl) (by kernel_rfl) (by kernel_rfl) (by rfl) (fun _ _ _ h => h) (Or.inl ⟨by rfl, ?_⟩) hS ?_; rotate_left
          · (intro w hSw; (try dsimp only at hSw); go_simp; (try with_reducible rfl))
          (try simp only [List.setIfInBounds_toArray, List.set_cons_zero, List.set_cons_succ])
          refine wpAnyP_take 7 31 [7, 30] (v := ?_) rfl (by kernel_rfl) (by kernel_rfl) (by kernel_rfl) (by kernel_rfl) (by kernel_rfl) (by kernel_rfl) (by rfl) (fun _ _ _ h => h) (Or.inl ⟨by rfl, ?_⟩) hS ?_; rotate_left
          · (intro w hSw; (try dsimp only at hSw); go_simp; (try with_reducible rfl))
          (try simp only [List.setIfInBounds_toArray, List.set_cons_zero, List.set_cons_succ])
          refine wpAnyP_take 9 33 [9, 30] (v := ?_) rfl (by kernel_rfl) (by kernel_rfl) (by kernel_rfl) (by kernel_rfl) (by kernel_rfl) (by kernel_rfl) (by rfl) (fun _ _ _ h => h) (Or.inl ⟨by rfl, ?_⟩) hS ?_; rotate_left
          · (intro w hSw; (try dsimp only at hSw); go_simp; (try with_reducible rfl))
          (try simp only [List.setIfInBounds_toArray, List.set_cons_zero, List.set_cons_succ])
          refine wpAnyP_take 10 34 [10, 30] (v := ?_) rfl (by kernel_rfl) (by kernel_rfl) (by kernel_rfl) (by kernel_rfl) (by kernel_rfl) (by kernel_rfl) (by rfl) (fun _ _ _ h => h) (Or.inl ⟨by rfl, ?_⟩) hS ?_; rotate_left
          · (intro w hSw; (try dsimp only at hSw); go_simp; (try with_reducible rfl))
          (try simp only [List.setIfInBounds_toArray, List.set_cons_zero, List.set_cons_succ])
          refine wpAnyP_take 11 35 [11, 30] (v := ?_) rfl (by kernel_rfl) (by kernel_rfl) (by kernel_rfl) (by kernel_rfl) (by kernel_rfl) (by kernel_rfl) (by rfl) (fun _ _ _ h => h) (Or.inl ⟨by rfl, ?_⟩) hS ?_; rotate_left
          · (intro w hSw; (try dsimp only at hSw); go_simp; (try with_reducible rfl))
          (try simp only [List.setIfInBounds_toArray, List.set_cons_zero, List.set_cons_succ])
          refine wpAnyP_take 13 37 [13, 30] (v := ?_) rfl (by kernel_rfl) (by kernel_rfl) (by kernel_rfl) (by kernel_rfl) (by kernel_rfl) (by kernel_rfl) (by rfl) (fun _ _ _ h => h) (Or.inl ⟨by rfl, ?_⟩) hS ?_; rotate_left
          · (intro w hSw; (try dsimp only at hSw); go_simp; (try with_reducible rfl))
          (try simp only [List.setIfInBounds_toArray, List.set_cons_zero, List.set_cons_succ])
          refine wpAnyP_take 15 39 [15, 30] (v := ?_) rfl (by kernel_rfl) (by kernel_rfl) (by kernel_rfl) (by kernel_rfl) (by kernel_rfl) (by kernel_rfl) (by rfl) (fun _ _ _ h => h) (Or.inl ⟨by rfl, ?_⟩) hS ?_; rotate_left
          · (intro w hSw; (try dsimp only at hSw); go_simp; (try with_reducible rfl))
          (try simp only [List.setIfInBounds_toArray, List.set_cons_zero, List.set_cons_succ])
          refine wpAnyP_take 18 42 [18, 30] (v := ?_) rfl (by kernel_rfl) (by kernel_rfl) (by kernel_rfl) (by kernel_rfl) (by kernel_rfl) (by kernel_rfl) (by rfl) (fun _ _ _ h => h) (Or.inl ⟨by rfl, ?_⟩) hS ?_; rotate_left
          · (intro w hSw; (try dsimp only at hSw); go_simp; (try with_reducible rfl))
          (try simp only [List.setIfInBounds_toArray, List.set_cons_zero, List.set_cons_succ])
          refine wpAnyP_take 19 43 [19, 30] (v := ?_) rfl (by kernel_rfl) (by kernel_rfl) (by kernel_rfl) (by kernel_rfl) (by kernel_rfl) (by kernel_rfl) (by rfl) (fun _ _ _ h => h) (Or.inl ⟨by rfl, ?_⟩) hS ?_; rotate_left
          · (intro w hSw; (try dsimp only at hSw); go_simp; (try with_reducible rfl))
          (try simp only [List.setIfInBounds_toArray, List.set_cons_zero, List.set_cons_succ])
          refine wpAnyP_take 20 44 [20, 30] (v := ?_) rfl (by kernel_rfl) (by kernel_rfl) (by kernel_rfl) (by kernel_rfl) (by kernel_rfl) (by kernel_rfl) (by rfl) (fun _ _ _ h => h) (Or.inl ⟨by rfl, ?_⟩) hS ?_; rotate_left
          · (intro w hSw; (try dsimp only at hSw); go_simp; (try with_reducible rfl))
          (try simp only [List.setIfInBounds_toArray, List.set_cons_zero, List.set_cons_succ])
          refine wpAnyP_take 22 46 [22, 30] (v := ?_) rfl (by kernel_rfl) (by kernel_rfl) (by kernel_rfl) (by kernel_rfl) (by kernel_rfl) (by kernel_rfl) (by rfl) (fun _ _ _ h => h) (Or.inl ⟨by rfl, ?_⟩) hS ?_; rotate_left
          · (intro w hSw; (try dsimp only at hSw); go_simp; (try with_reducible rfl))
          (try simp only [List.setIfInBounds_toArray, List.set_cons_zero, List.set_cons_succ])
          refine wpAnyP_take 24 48 [24, 30] (v := ?_) rfl (by kernel_rfl) (by kernel_rfl) (by kernel_rfl) (by kernel_rfl) (by kernel_rfl) (by kernel_rfl) (by rfl) (fun _ _ _ h => h) (Or.inl ⟨by rfl, ?_⟩) hS ?_; rotate_left
          · (intro w hSw; (try dsimp only at hSw); go_simp; (try with_reducible rfl))
          (try simp only [List.setIfInBounds_toArray, List.set_cons_zero, List.set_cons_succ])
          refine wpAnyP_take 27 51 [27, 30] (v := ?_) rfl (by kernel_rfl) (by kernel_rfl) (by kernel_rfl) (by kernel_rfl) (by kernel_rfl) (by kernel_rfl) (by rfl) (fun _ _ _ h => h) (Or.inl ⟨by rfl, ?_⟩) hS ?_; rotate_left
          · (intro w hSw; (try dsimp only at hSw); go_simp; (try with_reducible rfl))
          (try simp only [List.setIfInBounds_toArray, List.set_cons_zero, List.set_cons_succ])
          refine wpAnyP_one 4 rfl (by kernel_rfl) (fun K hK => ?_)
          go_simp
          refine (CA _).out.mono ?_
          rintro e w7 ⟨rfl, rfl⟩
          refine hK.out _ _ (fun _ => hS) ?_
          clear hK K
          (try simp only [Act.put, List.setIfInBounds_toArray, List.set_cons_zero, List.set_cons_succ])
          refine wpAnyP_take 6 30 [6, 30] (v := ?_) rfl (by kernel_rfl) (by kernel_rfl) (by kernel_rfl) (by kernel_rfl) (by kernel_rfl) (by kernel_rfl) (by rfl) (fun _ _ _ h => h) (Or.inl ⟨by rfl, ?_⟩) hS ?_; rotate_left
          · (intro w hSw; (try dsimp only at hSw); go_simp; (try with_reducible rfl))
          (try simp only [List.setIfInBounds_toArray, List.set_cons_zero, List.set_cons_succ])
          refine wpAnyP_take 8 32 [8, 30] (v := ?_) rfl (by kernel_rfl) (by kernel_rfl) (by kernel_rfl) (by kernel_rfl) (by kernel_rfl) (by kernel_rfl) (by rfl) (fun _ _ _ h => h) (Or.inl ⟨by rfl, ?_⟩) hS ?_; rotate_left
          · (intro w hSw; (try dsimp only at hSw); go_simp; (try with_reducible rfl))
          (try simp only [List.setIfInBounds_toArray, List.set_cons_zero, List.set_cons_succ])
          refine wpAnyP_one 12 rfl (by kernel_rfl) (fun K hK => ?_)
          go_simp
          refine (CB _).out.mono ?_
          rintro e w7 ⟨rfl, rfl⟩
          refine hK.out _ _ (fun _ => hS) ?_
          clear hK K
          (try simp only [Act.put, List.setIfInBounds_toArray, List.set_cons_zero, List.set_cons_succ])
          refine wpAnyP_take 14 38 [14, 30] (v := ?_) rfl (by kernel_rfl) (by kernel_rfl) (by kernel_rfl) (by kernel_rfl) (by kernel_rfl) (by kernel_rfl) (by rfl) (fun _ _ _ h => h) (Or.inl ⟨by rfl, ?_⟩) hS ?_; rotate_left
          · (intro w hSw; (try dsimp only at hSw); go_simp; (try with_reducible rfl))
          (try simp only [List.setIfInBounds_toArray, List.set_cons_zero, List.set_cons_succ])
          refine wpAnyP_take 16 40 [16, 30] (v := ?_) rfl (by kernel_rfl) (by kernel_rfl) (by kernel_rfl) (by kernel_rfl) (by kernel_rfl) (by kernel_rfl) (by rfl) (fun _ _ _ h => h) (Or.inl ⟨by rfl, ?_⟩) hS ?_; rotate_left
          · (intro w hSw; (try dsimp only at hSw); go_simp; (try with_reducible rfl))
          (try simp only [List.setIfInBounds_toArray, List.set_cons_zero, List.set_cons_succ])
          refine wpAnyP_take 17 41 [17, 30] (v := ?_) rfl (by kernel_rfl) (by kernel_rfl) (by kernel_rfl) (by kernel_rfl) (by kernel_rfl) (by kernel_rfl) (by rfl) (fun _ _ _ h => h) (Or.inl ⟨by rfl, ?_⟩) hS ?_; rotate_left
          · (intro w hSw; (try dsimp only at hSw); go_simp; (try with_reducible rfl))
          (try simp only [List.setIfInBounds_toArray, List.set_cons_zero, List.set_cons_succ])
          refine wpAnyP_one 21 rfl (by kernel_rfl) (fun K hK => ?_)
          go_simp
          refine (CC _).out.mono ?_
          rintro e w7 ⟨rfl, rfl⟩
          refine hK.out _ _ (fun _ => hS) ?_
          clear hK K
          (try simp only [Act.put, List.setIfInBounds_toArray, List.set_cons_zero, List.set_cons_succ])
          refine wpAnyP_take 23 47 [23, 30] (v := ?_) rfl (by kernel_rfl) (by kernel_rfl) (by kernel_rfl) (by kernel_rfl) (by kernel_rfl) (by kernel_rfl) (by rfl) (fun _ _ _ h => h) (Or.inl ⟨by rfl, ?_⟩) hS ?_; rotate_left
          · (intro w hSw; (try dsimp only at hSw); go_simp; (try with_reducible rfl))
          (try simp only [List.setIfInBounds_toArray, List.set_cons_zero, List.set_cons_succ])
          refine wpAnyP_take 25 49 [25, 30] (v := ?_) rfl (by kernel_rfl) (by kernel_rfl) (by kernel_rfl) (by kernel_rfl) (by kernel_rfl) (by kernel_rfl) (by rfl) (fun _ _ _ h => h) (Or.inl ⟨by rfl, ?_⟩) hS ?_; rotate_left
          · (intro w hSw; (try dsimp only at hSw); go_simp; (try with_reducible rfl))
          (try simp only [List.setIfInBounds_toArray, List.set_cons_zero, List.set_cons_succ])
          refine wpAnyP_take 26 50 [26, 30] (v := ?_) rfl (by kernel_rfl) (by kernel_rfl) (by kernel_rfl) (by kernel_rfl) (by kernel_rfl) (by kernel_rfl) (by rfl) (fun _ _ _ h => h) (Or.inl ⟨by rfl, ?_⟩) hS ?_; rotate_left
          · (intro w hSw; (try dsimp only at hSw); go_simp; (try with_reducible rfl))
          (try simp only [List.setIfInBounds_toArray, List.set_cons_zero, List.set_cons_succ])
          refine wpAnyP_one 28 rfl (by kernel_rfl) (fun K hK => ?_)
          go_simp
          refine (CV _).out.mono ?_
          rintro e w7 ⟨rfl, rfl⟩
          refine hK.out _ _ (fun _ => hS) ?_
          clear hK K
          (try simp only [Act.put, List.setIfInBounds_toArray, List.set_cons_zero, List.set_cons_succ])
          refine wpAnyP_take 29 53 [29, 30] (v := ?_) rfl (by kernel_rfl) (by kernel_rfl) (by kernel_rfl) (by kernel_rfl) (by kernel_rfl) (by kernel_rfl) (by rfl) (fun _ _ _ h => h) (Or.inl ⟨by rfl, ?_⟩) hS ?_; rotate_left
          · (intro w hSw; (try dsimp only at hSw); go_simp; (try with_reducible rfl))
          (try simp only [List.setIfInBounds_toArray, List.set_cons_zero, List.set_cons_succ])
          have HGW := hide (HB5.out)
          obtain ⟨s0, y0⟩ := HB5.out.at_ HIB.out
          refine wpAnyP_one 30 rfl (by kernel_rfl) (fun K hK => ?_)
          go_simp
          refine hK.out _ _ (fun h => by simp at h) ?_
          clear hK K
          (try simp only [Act.put, List.setIfInBounds_toArray, List.set_cons_zero, List.set_cons_succ])
          refine wpAnyP_done (by kernel_rfl) ?_ _
          have HP : Hid (GM w (W6.setCell ⟨g, i, none⟩ (.bool true)) g d a b c (gB d a b c x (y + 1))) := hide (by have h := HB5.out.put i; rwa [gB_next d a b c x y i HIV.out] at h)
          have jb : y ≤ 5000 := by have := HYD.out; have := HDD.out; omega
          clear hS HY HB5 CV KS
          go_wp2_with fail
          go_roundw
          case rel => exact ⟨y + 1, by go_num, by have := HYD.out; omega, HP⟩
          case measure => have := HYD.out; simp [intOf]; omega
        · have hye : y = d := by omega
          have q1 : decide ((y : Int) < (d : Int)) = false := by rw [decide_eq_false_iff_not]; omega
          have q2 : decide (y < d) = false := by rw [decide_eq_false_iff_not]; omega
          have HR : Hid (GM w wr g d a b c (gB d a b c (x + 1) 0)) := hide (by have h := HY.out; rwa [hye, gB_row] at h)
          have xb : x ≤ 5000 := by have := HXD.out; have := HDD.out; omega
          clear hye hyd hy HY
          go_wp2_with fail
          go_roundw
          case rel => exact ⟨x + 1, by go_num, by have := HXD.out; omega, HR⟩
          case measure => have := HXD.out; simp [intOf]; omega
    · have hxe : x = d := by omega
      have q1 : decide ((x : Int) < (d : Int)) = false := by rw [decide_eq_false_iff_not]; omega
      have q2 : decide (x < d) = false := by rw [decide_eq_false_iff_not]; omega
      have HH : Hid (GM w wr g d a b c (gB d a b c d 0)) := hide (by have h := HX.out; rwa [hxe] at h)
      obtain ⟨i0, hi, hz0, hz1, hz2⟩ := info_partsG iinfoG
      have HO := hide (And.intro hi (And.intro hz0 (And.intro hz1 hz2)))
      obtain ⟨W9, hW9⟩ : ∃ ZZ, wr = ZZ := ⟨_, rfl⟩
      clear hxe hxd hx HX hi hz0 hz1 hz2
      go_wp2_with fail
      clear q1 q2
      rw [hW9] at HH
      (try rw [hW9])
      clear hW9
      go_loopw [8, 7] (fun iv ov wz => ∃ i : Nat, iv = .int .i64 i ∧ i ≤ d ∧ Hid (NRow wz W9.heap.size ov ((List.range i).filter fun n => Nat.beq (Nat.gcd n d) 1 && hit d a b c n)) ∧ Hid (Below W9.heap.size W9 wz)) (fun iv _ _ => d - (intOf iv).toNat)
      case atStart => exact ⟨0, rfl, by omega, hide (NRow.nil _ _), hide (Below.refl _ _)⟩
      case round =>
        obtain ⟨i, rfl, hi, HR, HB⟩ := hrel
        by_cases hid : i < d
        · have HID := hide hid
          have q1 : decide ((i : Int) < (d : Int)) = true := by rw [decide_eq_true_eq]; omega
          have q2 : decide (i < d) = true := by rw [decide_eq_true_eq]; omega
          have i1 : (i : Int) < (d : Int) := by omega
          have c0 := ((HH.out.below HB.out).at_ hid).1
          rw [gB_end] at c0
          have HLN : Hid (((List.range i).filter fun n => Nat.beq (Nat.gcd n d) 1 && hit d a b c n).length ≤ 400) := hide (by
            have := List.length_filter_le (fun n => Nat.beq (Nat.gcd n d) 1 && hit d a b c n) (List.range i)
            rw [List.length_range] at this
            have := HDD.out
            omega)
          have HRS : Hid ((List.range (i + 1)).filter (fun n => Nat.beq (Nat.gcd n d) 1 && hit d a b c n) = (List.range i).filter (fun n => Nat.beq (Nat.gcd n d) 1 && hit d a b c n) ++ if (Nat.beq (Nat.gcd i d) 1 && hit d a b c i) = true then [i] else []) := hide (by
            rw [List.range_succ, List.filter_append]
            congr 1
            by_cases h : (Nat.beq (Nat.gcd i d) 1 && hit d a b c i) = true
            · rw [if_pos h]; simp [h]
            · rw [if_neg h]; simp [h])
          have CGi := fun W => hide (CG.out i hid W)
          rw [show Int.gcd (i : Int) (d : Int) = Nat.gcd i d from rfl] at CGi
          have jb : i ≤ 5000 := by have := HDD.out; omega
          clear hid hi
          cases hh : hit d a b c i
          · have HR2 : Hid (NRow wr W9.heap.size u7 ((List.range (i + 1)).filter fun n => Nat.beq (Nat.gcd n d) 1 && hit d a b c n)) := hide (by
              rw [HRS.out, hh, Bool.and_false, if_neg (by simp), List.append_nil]; exact HR.out)
            rw [hh] at c0
            clear hh HR HRS
            go_wp2_with fail
            go_roundw
            case rel => exact ⟨i + 1, by go_num, by have := HID.out; omega, HR2, HB⟩
            case measure => have := HID.out; simp [intOf]; omega
          · rw [hh] at c0
            by_cases hg1 : Nat.gcd i d = 1
            · rw [hg1] at CGi
              have HRT : Hid ((List.range (i + 1)).filter (fun n => Nat.beq (Nat.gcd n d) 1 && hit d a b c n) = (List.range i).filter (fun n => Nat.beq (Nat.gcd n d) 1 && hit d a b c n) ++ [i]) := hide (by
                rw [HRS.out, hh, hg1, if_pos (by rfl)])
              obtain ⟨L, hL⟩ : ∃ L, (List.range i).filter (fun n => Nat.beq (Nat.gcd n d) 1 && hit d a b c n) = L := ⟨_, rfl⟩
              have HLL := hide hL
              rw [hL] at HR HLN
              clear hh hg1 hL HRS
              go_wp2_with fail
              refine (CGi _).out.mono ?_
              rintro e w7 ⟨rfl, rfl⟩
              have HRX : Hid (NRow (w7.alloc (.cells #[.int .i64 (i : Nat)] 3)) W9.heap.size u7 L) := hide (HR.out.below ((Below.refl _ _).alloc (Nat.le_refl _) _))
              have HB7 := hide (HB.out.alloc HB.out.size (.cells #[.int .i64 (i : Nat)] 3))
              go_wp2_with (at_builtin; refine wpList_append_own _ rfl _ _ 24 rfl W9.heap.size 3 i0 (.int .i64 0) 1 8 Try.underlying24 HO.out.1 HO.out.2.1 HO.out.2.2.1 HO.out.2.2.2 rfl (by decide) u7 _ _ rfl HRX.out ⟨w7.heap.size, 0, none⟩ 1 1 [.int .i64 (i : Nat)] rfl rfl (one_newG w7 _ _) ?c2 ?c3 ?c4 ?c5 ?_)
              case c2 => intro u hu; simp at hu; subst hu; rfl
              case c3 => have := HLN.out; simp only [maxLen]; omega
              case c4 => have := HLN.out; omega
              case c5 => have := HB7.out.size; simp at this ⊢; omega
              intro v' w8 hown hg _
              have HR8 : Hid (NRow w8 W9.heap.size v' ((List.range (i + 1)).filter fun n => Nat.beq (Nat.gcd n d) 1 && hit d a b c n)) := hide (by
                rw [HRT.out, HLL.out]
                unfold NRow
                rw [List.map_append, List.length_append]
                exact hown)
              have HB8 : Hid (Below W9.heap.size W9 w8) := hide (HB7.out.grown hg HB7.out.size HRX.out.base)
              clear hown hg HR HRX HB HB7 c0
              go_wp2_with fail
              go_roundw
              case rel => exact ⟨i + 1, by go_num, by have := HID.out; omega, HR8, HB8⟩
              case measure => have := HID.out; simp [intOf]; omega
            · have HR2 : Hid (NRow wr W9.heap.size u7 ((List.range (i + 1)).filter fun n => Nat.beq (Nat.gcd n d) 1 && hit d a b c n)) := hide (by
                have : Nat.beq (Nat.gcd i d) 1 = false := Bool.eq_false_iff.2 fun h => hg1 (Nat.eq_of_beq_eq_true h)
                rw [HRS.out, this, Bool.false_and, if_neg (by simp), List.append_nil]; exact HR.out)
              have g1 : (((Nat.gcd i d : Nat) : Int) == 1) = false := by simp; omega
              obtain ⟨G, hG⟩ : ∃ z : Int, ((Nat.gcd i d : Nat) : Int) = z := ⟨_, rfl⟩
              rw [hG] at g1 CGi
              clear hh hg1 HR HRS hG
              go_wp2_with fail
              refine (CGi _).out.mono ?_
              rintro e w7 ⟨rfl, rfl⟩
              go_wp2_with fail
              go_roundw
              case rel => exact ⟨i + 1, by go_num, by have := HID.out; omega, HR2, HB⟩
              case measure => have := HID.out; simp [intOf]; omega
        · have hie : i = d := by omega
          have q1 : decide ((i : Int) < (d : Int)) = false := by rw [decide_eq_false_iff_not]; omega
          have q2 : decide (i < d) = false := by rw [decide_eq_false_iff_not]; omega
          have HE : Hid (NRow wr w.heap.size u7 (gset d a b c)) := hide (by
            have h := HR.out
            rw [hie] at h
            exact World.ownsRow.mono h (by have := HH.out.b.size; omega))
          have HBE := hide (HH.out.b.trans (HB.out.mono HH.out.b.size))
          clear hie hid hi HR HB
          go_wp2_with fail
          go_ret
          exact ⟨u7, rfl, HE.out, HBE.out⟩
end Go.Proofs.Ytkfjjljdhfjpbaa
