/- The walks of cmp.Or and of the order of Markov's triples. -/
import Derived.Test.YtlchmaiflcnaoaaKShelfF
import Derived.Test.YtlchmaiflcnaoaaK0
import Derived.Test.YtlchmaiflcnaoaaKLinW
import Derived.Deep.RegionHeld3
namespace Go.Proofs.Ytlchmaiflcnaoaa
open Go.RowKit Go.Sort Go.Lib

/-- the first of three that is not 0 -/
def or3 (a b c : Int) : Int := if a ≠ 0 then a else if b ≠ 0 then b else c

set_option maxRecDepth 100000 in
set_option maxHeartbeats 1600000 in
theorem or_any (g : Nat) (a b c : Int) (W : World) (T : TypeId) (h : W.heap[g]? = some (.cells #[.int .i64 a, .int .i64 b, .int .i64 c] T (0, 0))) :
    Calls Try.prog 43 #[.slice (some ⟨g, 0, none⟩) 3 3] W fun e w' => e = .returned (.int .i64 (or3 a b c)) ∧ w' = W := by
  have c0 : W.cell? ⟨g, 0, none⟩ = some (.int .i64 a) := cell_three h (j := 0) rfl
  have c1 : W.cell? ⟨g, 1, none⟩ = some (.int .i64 b) := cell_three h (j := 1) rfl
  have c2 : W.cell? ⟨g, 2, none⟩ = some (.int .i64 c) := cell_three h (j := 2) rfl
  clear h
  by_cases ha : a = 0
  · by_cases hb : b = 0
    · by_cases hc : c = 0
      · subst ha hb hc
        go_enter Try.func43, Try.ntmps43
        go_wp2_with fail
        refine wp_loop_rounds 4 ?_
        rw [rounds_succ]
        go_wp2_with fail
        rw [rounds_succ]
        go_wp2_with fail
        rw [rounds_succ]
        go_wp2_with fail
        rw [rounds_succ]
        go_wp2_with fail
        go_ret
        exact ⟨rfl, rfl⟩
      · have q1 : (c != 0) = true := by simpa using hc
        have q2 : decide (c = 0) = false := by simpa using hc
        have e : Hid (or3 0 0 c = c) := hide (by simp [or3])
        subst ha hb
        clear hc
        go_enter Try.func43, Try.ntmps43
        go_wp2_with fail
        refine wp_loop_rounds 3 ?_
        rw [rounds_succ]
        go_wp2_with fail
        rw [rounds_succ]
        go_wp2_with fail
        rw [rounds_succ]
        go_wp2_with fail
        go_ret
        exact ⟨by rw [e.out]; rfl, rfl⟩
    · have q1 : (b != 0) = true := by simpa using hb
      have q2 : decide (b = 0) = false := by simpa using hb
      have e : Hid (or3 0 b c = b) := hide (by simp [or3, hb])
      subst ha
      clear hb
      go_enter Try.func43, Try.ntmps43
      go_wp2_with fail
      refine wp_loop_rounds 2 ?_
      rw [rounds_succ]
      go_wp2_with fail
      rw [rounds_succ]
      go_wp2_with fail
      go_ret
      exact ⟨by rw [e.out]; rfl, rfl⟩
  · have q1 : (a != 0) = true := by simpa using ha
    have q2 : decide (a = 0) = false := by simpa using ha
    have e : Hid (or3 a b c = a) := hide (by simp [or3, ha])
    clear ha
    go_enter Try.func43, Try.ntmps43
    go_wp2_with fail
    refine wp_loop_rounds 1 ?_
    rw [rounds_succ]
    go_wp2_with fail
    go_ret
    exact ⟨by rw [e.out]; rfl, rfl⟩

/-- a triple's cells -/
def encT (x : T3) : List Value := [.int .i64 (x.1 : Nat), .int .i64 (x.2.1 : Nat), .int .i64 (x.2.2 : Nat)]
def cmpT (x y : T3) : Int := or3 (compareInt (x.2.2 : Nat) (y.2.2 : Nat)) (compareInt (x.2.1 : Nat) (y.2.1 : Nat)) (compareInt (x.1 : Nat) (y.1 : Nat))
theorem cmpT_lt (x y : T3) : ltOf cmpT x y = decide (x.2.2 < y.2.2 ∨ (x.2.2 = y.2.2 ∧ (x.2.1 < y.2.1 ∨ (x.2.1 = y.2.1 ∧ x.1 < y.1)))) := by
  unfold ltOf
  rw [decide_eq_decide]
  unfold cmpT or3 compareInt
  constructor
  · intro h
    split at h <;> (try split at h) <;> (try split at h) <;> (try split at h) <;> (try split at h) <;> omega
  · intro h
    split <;> (try split) <;> (try split) <;> (try split) <;> (try split) <;> omega
theorem cmpT_swo : SWO (ltOf cmpT) where
  irrefl x := by rw [cmpT_lt]; simp
  trans x y z h1 h2 := by rw [cmpT_lt] at *; simp only [decide_eq_true_eq] at *; omega
  ntrans x y z h1 h2 := by rw [cmpT_lt] at *; simp only [decide_eq_false_iff_not] at *; omega
theorem bel_dx (W : World) (o : Obj) : Below W.heap.size W (W.drew.alloc o) := (below_drewN (Below.refl _ _) 1).alloc (by simp) o
theorem drew_grow (w : World) (q : Nat) (os : Array Obj) : (grow w os).drewN q = grow (w.drewN q) os := rfl

set_option maxRecDepth 100000 in
set_option maxHeartbeats 1600000 in
theorem order_any (x y : T3) (W : World) :
    Calls Try.prog 88 #[.agg #[.int .i64 (x.1 : Nat), .int .i64 (x.2.1 : Nat), .int .i64 (x.2.2 : Nat)], .agg #[.int .i64 (y.1 : Nat), .int .i64 (y.2.1 : Nat), .int .i64 (y.2.2 : Nat)]] W fun e w' => e = .returned (.int .i64 (cmpT x y)) ∧ ∃ q os', w' = grow (W.drewN q) os' := by
  obtain ⟨a, b, c⟩ := x
  obtain ⟨a', b', c'⟩ := y
  have CC := fun p q W => hide (Try.cmp_Compare_int p q W)
  have CO := fun (W : World) (g : Nat) (p q r : Int) (hg : g = W.heap.size) => hide (or_any g p q r (W.alloc (.cells #[.int .i64 p, .int .i64 q, .int .i64 r] 3)).drew 3 (hg ▸ heap_alloc_new W _))
  unfold cmpT
  go_enter Try.func88, Try.ntmps88
  go_wp2_with fail
  obtain ⟨wa, hwa⟩ : ∃ Z, (W.alloc (.cells #[.int .i64 a, .int .i64 b, .int .i64 c] 83)).alloc (.cells #[.int .i64 a', .int .i64 b', .int .i64 c'] 83) = Z := ⟨_, rfl⟩
  have HWA := hide hwa
  have h1 : wa.heap[W.heap.size]? = some (.cells #[.int .i64 a, .int .i64 b, .int .i64 c] 83 (0, 0)) := by
    rw [← hwa]; exact ((bel_e _ _).block _ (by simp)).trans (heap_alloc_new W _)
  have h2 : wa.heap[W.heap.size + 1]? = some (.cells #[.int .i64 a', .int .i64 b', .int .i64 c'] 83 (0, 0)) := by
    rw [← hwa]
    have := heap_alloc_new (W.alloc (.cells #[.int .i64 a, .int .i64 b, .int .i64 c] 83)) (.cells #[.int .i64 a', .int .i64 b', .int .i64 c'] 83)
    rwa [World.size_alloc] at this
  (try rw [hwa])
  have x0 := cell_three h1 (j := 0) rfl
  have x1 := cell_three h1 (j := 1) rfl
  have x2 := cell_three h1 (j := 2) rfl
  have y0 := cell_three h2 (j := 0) rfl
  have y1 := cell_three h2 (j := 1) rfl
  have y2 := cell_three h2 (j := 2) rfl
  clear h1 h2 hwa
  have HG : Hid (∀ o, ∃ q os', (wa.alloc o).drew = grow (W.drewN q) os') := hide (fun o => ⟨1, _, by rw [← HWA.out, alloc_eq_grow, alloc_eq_grow, alloc_eq_grow, grow_grow, grow_grow]; exact drew_grow W 1 _⟩)
  have KA : ∀ Z, Below wa.heap.size wa Z → Z.cell? ⟨W.heap.size, 0, none⟩ = some (.int .i64 (a : Nat)) ∧ Z.cell? ⟨W.heap.size, 1, none⟩ = some (.int .i64 (b : Nat)) ∧ Z.cell? ⟨W.heap.size, 2, none⟩ = some (.int .i64 (c : Nat)) ∧ Z.cell? ⟨W.heap.size + 1, 0, none⟩ = some (.int .i64 (a' : Nat)) ∧ Z.cell? ⟨W.heap.size + 1, 1, none⟩ = some (.int .i64 (b' : Nat)) ∧ Z.cell? ⟨W.heap.size + 1, 2, none⟩ = some (.int .i64 (c' : Nat)) := fun Z hZ =>
    ⟨(hZ.cell (p := ⟨W.heap.size, 0, none⟩) (by rw [← HWA.out]; simp; omega)).trans x0, (hZ.cell (p := ⟨W.heap.size, 1, none⟩) (by rw [← HWA.out]; simp; omega)).trans x1, (hZ.cell (p := ⟨W.heap.size, 2, none⟩) (by rw [← HWA.out]; simp; omega)).trans x2, (hZ.cell (p := ⟨W.heap.size + 1, 0, none⟩) (by rw [← HWA.out]; simp)).trans y0, (hZ.cell (p := ⟨W.heap.size + 1, 1, none⟩) (by rw [← HWA.out]; simp)).trans y1, (hZ.cell (p := ⟨W.heap.size + 1, 2, none⟩) (by rw [← HWA.out]; simp)).trans y2⟩
  clear x0 x1 x2 y0 y1 y2
  go_region_held3 (fun Z => Z.cell? ⟨W.heap.size, 0, none⟩ = some (.int .i64 (a : Nat)) ∧ Z.cell? ⟨W.heap.size, 1, none⟩ = some (.int .i64 (b : Nat)) ∧ Z.cell? ⟨W.heap.size, 2, none⟩ = some (.int .i64 (c : Nat)) ∧ Z.cell? ⟨W.heap.size + 1, 0, none⟩ = some (.int .i64 (a' : Nat)) ∧ Z.cell? ⟨W.heap.size + 1, 1, none⟩ = some (.int .i64 (b' : Nat)) ∧ Z.cell? ⟨W.heap.size + 1, 2, none⟩ = some (.int .i64 (c' : Nat)))
    (first | exact KA _ (below_drewN (Below.refl _ _) 1) | exact KA _ (below_drewN (bel_e _ _) 1) | exact KA _ (bel_e _ _) | exact KA _ (Below.refl _ _))
    (first
      | (go_at_call 44; refine (CC _ _ _).out.mono ?_; rintro e w5 ⟨rfl, rfl⟩)
      | (go_at_call 43; refine (CO _ _ _ _ _ rfl).out.mono ?_; rintro e w5 ⟨rfl, rfl⟩))
  all_goals
    go_wp2_with fail
    go_ret
    exact ⟨rfl, HG.out _⟩
end Go.Proofs.Ytlchmaiflcnaoaa
