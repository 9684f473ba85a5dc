/- The walks of residue.rootBy, units and by at the numbers of the document's example. -/
import Derived.Test.YtgocnjklpafabaaDoorResA
import Derived.Test.YtgocnjklpafabaaDoorWholeC
namespace Go.Proofs.YtgocnjklpafabaaDoor
open Go.RowKit

theorem sym_at (a n : Nat) (v : Int) (w : World) (hn : n % 2 = 1) (hn2 : n ≤ 1000) (ha : a < n) (h : jac a n = v) :
    Calls Tryd.prog 18 #[.int .i64 a, .int .i64 n] w fun e w' => e = .returned (.int .i64 v) ∧ w = w' := by
  have C := symbol_any (a : Int) n w hn (by omega) (by omega) (by omega)
  rw [show ((a : Int) % (n : Int)).toNat = a from by rw [Int.emod_eq_of_lt (by omega) (by omega)]; rfl, h] at C
  exact C
theorem jac_23 : jac 2 3 = -1 := by rw [jac_even (by decide) (by decide), show 2 / 2 = 1 from rfl, jac_one]; decide
theorem jac_25 : jac 2 5 = -1 := by rw [jac_even (by decide) (by decide), show 2 / 2 = 1 from rfl, jac_one]; decide
theorem jac_45 : jac 4 5 = 1 := by rw [jac_even (by decide) (by decide), show 4 / 2 = 2 from rfl, jac_25]; decide
theorem raise_at (a m v : Int) (n : Nat) (w : World) (hm : 0 < m) (hm2 : m ≤ 1000) (ha : 0 ≤ a) (ha2 : a ≤ 1000) (hn : n ≤ 1000) (h : a ^ n % m = v) :
    Calls Tryd.prog 38 #[.int .i64 a, .int .i64 n, .int .i64 m] w fun e w' => e = .returned (.int .i64 v) ∧ ∃ k, w' = w.drewN k := by
  have C := raise_any a m n w hm (by omega) (by omega) (by omega) (by omega)
  rwa [h] at C
theorem times_at (a b m v : Int) (w : World) (hm : 0 < m) (hm2 : m ≤ 1000) (ha : 0 ≤ a) (ha2 : a ≤ 1000) (hb : 0 ≤ b) (hb2 : b ≤ 1000) (h : a * b % m = v) :
    Calls Tryd.prog 50 #[.int .i64 a, .int .i64 b, .int .i64 m] w fun e w' => e = .returned (.int .i64 v) ∧ ∃ k, w' = w.drewN k := by
  have C := times_any a b m w hm (by omega) (by omega) (by omega) (by omega) (by omega)
  rwa [h] at C

set_option maxRecDepth 100000 in
set_option maxHeartbeats 1600000 in
theorem rootBy_13 (w : World) :
    Calls Tryd.prog 63 #[.int .i64 1, .int .i64 3] w fun e w' => e = .returned (.int .i64 1) ∧ ∃ k, w' = w.drewN k := by
  have CS := fun W => hide (sym_at 2 3 (-1) W (by omega) (by omega) (by omega) jac_23)
  have R1 := fun W => hide (raise_at 2 3 2 1 W (by omega) (by omega) (by omega) (by omega) (by omega) (by decide))
  have R2 := fun W => hide (raise_at 1 3 1 1 W (by omega) (by omega) (by omega) (by omega) (by omega) (by decide))
  go_enter Tryd.func63, Tryd.ntmps63
  go_wp2_with fail
  refine wp_loop_rounds 2 ?_
  rw [rounds_succ]
  go_wp2_with fail
  rw [rounds_succ]
  go_wp2_with fail
  refine wp_loop_rounds 1 ?_
  rw [rounds_succ]
  go_wp2_with fail
  refine (CS _).out.mono ?_
  rintro e w1 ⟨rfl, rfl⟩
  go_wp2_with fail
  refine (R1 _).out.mono ?_
  rintro e w1 ⟨rfl, k1, rfl⟩
  go_wp2_with fail
  refine (R2 _).out.mono ?_
  rintro e w1 ⟨rfl, k2, rfl⟩
  go_wp2_with fail
  refine (R2 _).out.mono ?_
  rintro e w1 ⟨rfl, k3, rfl⟩
  go_wp2_with fail
  refine wp_loop_rounds 1 ?_
  rw [rounds_succ]
  go_wp2_with fail
  go_ret
  exact ⟨rfl, _, rfl⟩

set_option maxRecDepth 100000 in
set_option maxHeartbeats 1600000 in
theorem rootBy_45 (w : World) :
    Calls Tryd.prog 63 #[.int .i64 4, .int .i64 5] w fun e w' => e = .returned (.int .i64 3) ∧ ∃ k, w' = w.drewN k := by
  have CS := fun W => hide (sym_at 2 5 (-1) W (by omega) (by omega) (by omega) jac_25)
  have R1 := fun W => hide (raise_at 2 5 2 1 W (by omega) (by omega) (by omega) (by omega) (by omega) (by decide))
  have R2 := fun W => hide (raise_at 4 5 4 1 W (by omega) (by omega) (by omega) (by omega) (by omega) (by decide))
  have T1 := fun W => hide (times_at 4 4 5 1 W (by omega) (by omega) (by omega) (by omega) (by omega) (by omega) (by decide))
  have T2 := fun W => hide (times_at 2 2 5 4 W (by omega) (by omega) (by omega) (by omega) (by omega) (by omega) (by decide))
  have T3 := fun W => hide (times_at 4 2 5 3 W (by omega) (by omega) (by omega) (by omega) (by omega) (by omega) (by decide))
  go_enter Tryd.func63, Tryd.ntmps63
  go_wp2_with fail
  refine wp_loop_rounds 3 ?_
  rw [rounds_succ]
  go_wp2_with fail
  rw [rounds_succ]
  go_wp2_with fail
  rw [rounds_succ]
  go_wp2_with fail
  refine wp_loop_rounds 1 ?_
  rw [rounds_succ]
  go_wp2_with fail
  refine (CS _).out.mono ?_
  rintro e w1 ⟨rfl, rfl⟩
  go_wp2_with fail
  refine (R1 _).out.mono ?_
  rintro e w1 ⟨rfl, k1, rfl⟩
  go_wp2_with fail
  refine (R2 _).out.mono ?_
  rintro e w1 ⟨rfl, k2, rfl⟩
  go_wp2_with fail
  refine (R2 _).out.mono ?_
  rintro e w1 ⟨rfl, k3, rfl⟩
  go_wp2_with fail
  refine wp_loop_rounds 2 ?_
  rw [rounds_succ]
  go_wp2_with fail
  refine wp_loop_rounds 2 ?_
  rw [rounds_succ]
  go_wp2_with fail
  refine (T1 _).out.mono ?_
  rintro e w1 ⟨rfl, k4, rfl⟩
  go_wp2_with fail
  rw [rounds_succ]
  go_wp2_with fail
  refine wp_loop_rounds 1 ?_
  rw [rounds_succ]
  go_wp2_with fail
  refine (T2 _).out.mono ?_
  rintro e w1 ⟨rfl, k5, rfl⟩
  go_wp2_with fail
  refine (T3 _).out.mono ?_
  rintro e w1 ⟨rfl, k6, rfl⟩
  go_wp2_with fail
  refine (T1 _).out.mono ?_
  rintro e w1 ⟨rfl, k7, rfl⟩
  go_wp2_with fail
  rw [rounds_succ]
  go_wp2_with fail
  go_ret
  exact ⟨rfl, _, rfl⟩

theorem mod_at (a m v : Int) (w : World) (hm : 0 < m) (hm2 : m ≤ 1000) (ha : -1000 ≤ a) (ha2 : a ≤ 1000) (h : a % m = v) :
    Calls Tryd.prog 34 #[.int .i64 a, .int .i64 m] w fun e w' => e = .returned (.int .i64 v) ∧ w = w' := by
  have C := mod_any a m w hm (by omega) (by omega) (by omega)
  rw [h] at C
  exact C
theorem inv_at (a m v : Int) (w : World) (h : invF a m = (0, 0)) (hu : ∀ p, InvOk a m p → p = v) :
    Calls Tryd.prog 64 #[.int .i64 a, .int .i64 m] w fun e w' => e = .returned (.tuple #[.int .i64 v, .agg #[.int .i64 0, .int .i64 0]]) ∧ Below w.heap.size w w' := by
  refine (inverse_any a m w).mono ?_
  rintro e w' ⟨p, rfl, h1, _, hb⟩
  rw [h] at h1
  obtain rfl := hu p (h1 rfl)
  exact ⟨by rw [h]; rfl, hb⟩
theorem rpow_at (P K v : Nat) (w : World) (h1 : 1 ≤ P) (h2 : v ≤ 1000) (h3 : K ≤ 1000) (h : P ^ K = v) :
    Calls Tryd.prog 29 #[.int .i64 P, .int .i64 K] w fun e w' => e = .returned (.int .i64 v) ∧ w = w' := by
  have C := rpower_any P K w h1 (by omega) h3
  rw [h] at C
  exact C.mono fun _ _ h => ⟨h.1, h.2.symm⟩

/-- two new numbers -/
def Two (w : World) (lo : Nat) (v : Value) (a b : Int) : Prop := ∃ g, lo ≤ g ∧ v = .slice (some ⟨g, 0, none⟩) 2 2 ∧ w.heap[g]? = some (.cells #[.int .i64 a, .int .i64 b] 3 (0, 0))
theorem two_numbers (W : World) (lo : Nat) (a b : Int) (g : Nat) (hg : g = W.heap.size) (hlo : lo ≤ W.heap.size) : Two (W.alloc (.cells #[.int .i64 a, .int .i64 b] 3)) lo (.slice (some ⟨g, 0, none⟩) 2 2) a b := hg ▸ ⟨_, hlo, rfl, heap_alloc_new _ _⟩
theorem below_two {w w2 : World} {o o2 : Obj} {k : Nat} (h : Below w.heap.size w w2) : Below w.heap.size w (((w2.alloc o).drewN k).alloc o2) :=
  (below_drewN (h.alloc h.size o) k).alloc (below_drewN (h.alloc h.size o) k).size o2
set_option maxRecDepth 100000 in
set_option maxHeartbeats 1600000 in
theorem units_13 (w : World) :
    Calls Tryd.prog 47 #[.int .i64 1, .int .i64 3, .int .i64 1] w fun e w' => ∃ v, e = .returned v ∧ Two w' w.heap.size v 1 2 ∧ Below w.heap.size w w' := by
  have P1 := fun W => hide (rpow_at 3 1 3 W (by omega) (by omega) (by omega) (by decide))
  have M1 := fun W => hide (mod_at 1 3 1 W (by omega) (by omega) (by omega) (by omega) (by decide))
  have CS := fun W => hide (sym_at 1 3 1 W (by omega) (by omega) (by omega) (jac_one 3))
  have CR := fun W => hide (rootBy_13 W)
  have CI := fun W => hide (inv_at 2 3 2 W (by decide) (fun p hp => by unfold InvOk at hp; omega))
  have T1 := fun W => hide (times_at 1 1 3 1 W (by omega) (by omega) (by omega) (by omega) (by omega) (by omega) (by decide))
  have M2 := fun W => hide (mod_at 0 3 0 W (by omega) (by omega) (by omega) (by omega) (by decide))
  have T2 := fun W => hide (times_at 0 2 3 0 W (by omega) (by omega) (by omega) (by omega) (by omega) (by omega) (by decide))
  go_enter Tryd.func47, Tryd.ntmps47
  go_wp2_with fail
  refine (P1 _).out.mono ?_
  rintro e w1 ⟨rfl, rfl⟩
  go_wp2_with fail
  refine (M1 _).out.mono ?_
  rintro e w1 ⟨rfl, rfl⟩
  go_wp2_with fail
  refine (CS _).out.mono ?_
  rintro e w1 ⟨rfl, rfl⟩
  go_wp2_with fail
  refine (M1 _).out.mono ?_
  rintro e w1 ⟨rfl, rfl⟩
  go_wp2_with fail
  refine (CR _).out.mono ?_
  rintro e w1 ⟨rfl, k1, rfl⟩
  go_wp2_with fail
  refine wp_loop_rounds 2 ?_
  rw [rounds_succ]
  go_wp2_with fail
  refine (CI _).out.mono ?_
  rintro e w2 ⟨rfl, hb⟩
  have B2 := hide (below_drewN (Below.refl w.heap.size w) k1 |>.trans hb)
  clear hb
  go_wp2_with fail
  refine (T1 _).out.mono ?_
  rintro e w3 ⟨rfl, k2, rfl⟩
  go_wp2_with fail
  refine (M2 _).out.mono ?_
  rintro e w3 ⟨rfl, rfl⟩
  go_wp2_with fail
  refine (T2 _).out.mono ?_
  rintro e w3 ⟨rfl, k3, rfl⟩
  go_wp2_with fail
  refine (M1 _).out.mono ?_
  rintro e w3 ⟨rfl, rfl⟩
  go_wp2_with fail
  rw [rounds_succ]
  go_wp2_with fail
  go_ret
  exact ⟨_, rfl, two_numbers _ _ _ _ _ (by simp) (below_drewN (B2.out.alloc B2.out.size _) _).size, below_two B2.out⟩

set_option maxRecDepth 100000 in
set_option maxHeartbeats 1600000 in
theorem units_45 (w : World) :
    Calls Tryd.prog 47 #[.int .i64 4, .int .i64 5, .int .i64 1] w fun e w' => ∃ v, e = .returned v ∧ Two w' w.heap.size v 3 2 ∧ Below w.heap.size w w' := by
  have P1 := fun W => hide (rpow_at 5 1 5 W (by omega) (by omega) (by omega) (by decide))
  have M1 := fun W => hide (mod_at 4 5 4 W (by omega) (by omega) (by omega) (by omega) (by decide))
  have CS := fun W => hide (sym_at 4 5 1 W (by omega) (by omega) (by omega) jac_45)
  have CR := fun W => hide (rootBy_45 W)
  have CI := fun W => hide (inv_at 1 5 1 W (by decide) (fun p hp => by unfold InvOk at hp; omega))
  have T1 := fun W => hide (times_at 3 3 5 4 W (by omega) (by omega) (by omega) (by omega) (by omega) (by omega) (by decide))
  have M2 := fun W => hide (mod_at 0 5 0 W (by omega) (by omega) (by omega) (by omega) (by decide))
  have T2 := fun W => hide (times_at 0 1 5 0 W (by omega) (by omega) (by omega) (by omega) (by omega) (by omega) (by decide))
  have M3 := fun W => hide (mod_at 3 5 3 W (by omega) (by omega) (by omega) (by omega) (by decide))
  go_enter Tryd.func47, Tryd.ntmps47
  go_wp2_with fail
  refine (P1 _).out.mono ?_
  rintro e w1 ⟨rfl, rfl⟩
  go_wp2_with fail
  refine (M1 _).out.mono ?_
  rintro e w1 ⟨rfl, rfl⟩
  go_wp2_with fail
  refine (CS _).out.mono ?_
  rintro e w1 ⟨rfl, rfl⟩
  go_wp2_with fail
  refine (M1 _).out.mono ?_
  rintro e w1 ⟨rfl, rfl⟩
  go_wp2_with fail
  refine (CR _).out.mono ?_
  rintro e w1 ⟨rfl, k1, rfl⟩
  go_wp2_with fail
  refine wp_loop_rounds 2 ?_
  rw [rounds_succ]
  go_wp2_with fail
  refine (CI _).out.mono ?_
  rintro e w2 ⟨rfl, hb⟩
  have B2 := hide (below_drewN (Below.refl w.heap.size w) k1 |>.trans hb)
  clear hb
  go_wp2_with fail
  refine (CI _).out.mono ?_
  rintro e w3 ⟨rfl, hb⟩
  have B3 := hide ((B2.out.alloc B2.out.size (.cells #[.int .i64 0, .int .i64 0] 25)).trans (hb.mono (B2.out.alloc B2.out.size (.cells #[.int .i64 0, .int .i64 0] 25)).size))
  clear hb
  go_wp2_with fail
  refine (T1 _).out.mono ?_
  rintro e w3 ⟨rfl, k2, rfl⟩
  go_wp2_with fail
  refine (M2 _).out.mono ?_
  rintro e w3 ⟨rfl, rfl⟩
  go_wp2_with fail
  refine (T2 _).out.mono ?_
  rintro e w3 ⟨rfl, k3, rfl⟩
  go_wp2_with fail
  refine (M3 _).out.mono ?_
  rintro e w3 ⟨rfl, rfl⟩
  go_wp2_with fail
  rw [rounds_succ]
  go_wp2_with fail
  go_ret
  exact ⟨_, rfl, two_numbers _ _ _ _ _ (by simp) (below_drewN B3.out _).size, (below_drewN B3.out _).alloc (below_drewN B3.out _).size _⟩

end Go.Proofs.YtgocnjklpafabaaDoor
