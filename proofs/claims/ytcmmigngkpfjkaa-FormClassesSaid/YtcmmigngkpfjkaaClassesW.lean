/- The walk of the law FormClasses. -/
import Derived.Test.YtcmmigngkpfjkaaFormI
import Derived.Test.YtcmmigngkpfjkaaLeft
import Derived.Deep.RegionHeld3
namespace Go.Proofs.Ytcmmigngkpfjkaa
open Go.RowKit

theorem fkeep {w W : World} {g : Nat} {x y : Int} (h : FC W g x y) (k : Below w.heap.size w W) : (W.cell? ⟨g, 0, none⟩ = some (.int .i64 x) ∧ W.cell? ⟨g, 1, none⟩ = some (.int .i64 y)) ∧ Hid (FC W g x y ∧ Below w.heap.size w W) :=
  ⟨⟨h.cells.1, h.cells.2.1⟩, h, k⟩

set_option maxRecDepth 100000 in
set_option maxHeartbeats 3200000 in
theorem fclasses_range (d : Int) (w : World) (h : 0 ≤ d ∨ d < -200000) : Calls Try.prog 3 #[.int .i64 d] w fun e w' => e = .returned (.bool true) ∧ Below w.heap.size w w' := by
  have C1 := fun W => hide (classes_any d W)
  have HE : ClsF d = (3, 0) := by unfold ClsF; rw [if_pos h]
  unfold RetClasses at C1
  rw [HE] at C1
  have CB := fun W => hide (formBegun_any W)
  have CF := fun W => hide (refF_any 3 0 W)
  have hh : decide (0 ≤ d) = true ∨ (decide (0 ≤ d) = false ∧ decide (d < -200000) = true) := by
    simp only [decide_eq_true_eq, decide_eq_false_iff_not]; omega
  clear h HE
  rcases hh with h | ⟨h, h2⟩
  all_goals
    go_enter Try.func3, Try.ntmps3
    go_wp2_with fail
    refine (C1 _).out.mono ?_
    rintro e w1 ⟨v, rfl, hv, _, hb⟩
    obtain rfl := hv (by simp)
    simp only [fv]
    have B1 := hide (hb.alloc (hb.size) (.cells #[.int .i64 3, .int .i64 0] 24))
    have F1 := hide (FC.made w1 3 0)
    clear hb hv
    go_wp2_with fail
    refine (CB _).out.mono ?_
    rintro e w2 ⟨rfl, hb⟩
    have F2 := F1.out.below hb
    have B2 := hide (B1.out.trans (hb.mono B1.out.size))
    obtain ⟨a0, a1, _, _⟩ := F2.cells
    have HF := hide F2
    clear hb F2
    go_wp2_with fail
    go_region_held3 (fun W => (W.cell? ⟨w1.heap.size, 0, none⟩ = some (.int .i64 3) ∧ W.cell? ⟨w1.heap.size, 1, none⟩ = some (.int .i64 0)) ∧ Hid (FC W w1.heap.size 3 0 ∧ Below w.heap.size w W)) (first | exact fkeep (HF.out.below (below_drewN (Below.refl _ _) 1)) (below_drewN B2.out 1) | (have hx := ‹(_ ∧ _) ∧ Hid (FC _ _ _ _ ∧ _)›; have hy := fkeep (hx.2.out.1.below hb) (hx.2.out.2.trans (hb.mono hx.2.out.2.size)); clear hx hb; exact hy)) (first | (go_at_call 9; refine (CF _).out.mono ?_; rintro e w4 ⟨rfl, hb⟩))
    rename_i hS
    have B3 := hS.2.out.2
    clear hS hb a0 a1
    go_wp2_with fail
    go_ret
    exact ⟨rfl, B3⟩

set_option maxRecDepth 100000 in
set_option maxHeartbeats 3200000 in
theorem fclasses_kind (d : Int) (w : World) (h : ¬ (0 ≤ d ∨ d < -200000)) (h2 : 1 < d % 4) : Calls Try.prog 3 #[.int .i64 d] w fun e w' => e = .returned (.bool true) ∧ Below w.heap.size w w' := by
  have C1 := fun W => hide (classes_any d W)
  have HE : ClsF d = (7, 0) := by unfold ClsF; rw [if_neg h, if_pos h2]
  unfold RetClasses at C1
  rw [HE] at C1
  have CB := fun W => hide (formBegun_any W)
  have CF := fun W => hide (refF_any 7 0 W)
  have CL := fun W => hide (left_ref d 4 W (by omega) (by omega) (by omega) (by omega))
  have q1 : decide (0 ≤ d) = false := by simp; omega
  have q2 : decide (d < -200000) = false := by simp; omega
  obtain ⟨r, hr⟩ : ∃ r, d % 4 = r := ⟨_, rfl⟩
  rw [hr] at CL h2
  have q3 : decide (1 < r) = true := by simpa using h2
  clear h HE h2 hr
  go_enter Try.func3, Try.ntmps3
  go_wp2_with fail
  refine (C1 _).out.mono ?_
  rintro e w1 ⟨v, rfl, hv, _, hb⟩
  obtain rfl := hv (by simp)
  simp only [fv]
  have B1 := hide (hb.alloc (hb.size) (.cells #[.int .i64 7, .int .i64 0] 24))
  have F1 := hide (FC.made w1 7 0)
  clear hb hv
  go_wp2_with fail
  refine (CB _).out.mono ?_
  rintro e w2 ⟨rfl, hb⟩
  have F2 := F1.out.below hb
  have B2 := hide (B1.out.trans (hb.mono B1.out.size))
  obtain ⟨a0, a1, _, _⟩ := F2.cells
  have HF := hide F2
  clear hb F2
  go_wp2_with fail
  refine (CL _).out.mono ?_
  rintro e w3 ⟨rfl, rfl⟩
  go_wp2_with fail
  go_region_held3 (fun W => (W.cell? ⟨w1.heap.size, 0, none⟩ = some (.int .i64 7) ∧ W.cell? ⟨w1.heap.size, 1, none⟩ = some (.int .i64 0)) ∧ Hid (FC W w1.heap.size 7 0 ∧ Below w.heap.size w W)) (first | exact fkeep (HF.out.below (below_drewN (Below.refl _ _) 1)) (below_drewN B2.out 1) | (have hx := ‹(_ ∧ _) ∧ Hid (FC _ _ _ _ ∧ _)›; have hy := fkeep (hx.2.out.1.below hb) (hx.2.out.2.trans (hb.mono hx.2.out.2.size)); clear hx hb; exact hy)) (first | (go_at_call 9; refine (CF _).out.mono ?_; rintro e w4 ⟨rfl, hb⟩))
  rename_i hS
  have B3 := hS.2.out.2
  clear hS hb a0 a1
  go_wp2_with fail
  go_ret
  exact ⟨rfl, B3⟩

/-- the cells of a form in a slice of forms -/
theorem Forms.at_ {w : World} {base : Nat} {v : Value} {l : List (Int × Int × Int)} (h : Forms w base v l) {i : Nat} (hi : i < l.length) :
    ∃ g c, v = .slice (some ⟨g, 0, none⟩) l.length c ∧ g < w.heap.size ∧ base ≤ g ∧ ∀ j f, l[j]? = some f → w.cell? ⟨g, j * 3, none⟩ = some (.int .i64 f.1) ∧ w.cell? ⟨g, j * 3 + 1, none⟩ = some (.int .i64 f.2.1) ∧ w.cell? ⟨g, j * 3 + 2, none⟩ = some (.int .i64 f.2.2) := by
  have hc := fun g (hg : v.ownBlock = some g) => h.cells hg
  obtain ⟨_, h2⟩ := h
  rcases h2 with ⟨rfl, h2⟩ | ⟨g, cap, cur, rfl, hg, hh, _⟩
  · omega
  · refine ⟨g, cap, rfl, heap_lt hh, hg, fun j f hf => ?_⟩
    obtain ⟨h1, h2, h3⟩ := fcs_get l j f hf
    have hcc := hc g rfl
    have ea : ∀ k, (⟨g, 0, none⟩ : Addr).add k = ⟨g, k, none⟩ := by
      intro k
      by_cases hk : k = 0 <;> simp [Addr.add, hk]
    have e : ∀ k u, (fcs l)[k]? = some u → w.cell? ⟨g, k, none⟩ = some u := fun k u h => by rw [← ea]; exact hcc k u h
    exact ⟨e _ _ h1, e _ _ h2, e _ _ h3⟩
theorem same_n {d : Int} {n m : Nat} (h1 : 3 * (n : Int) * n ≤ -d) (h2 : -d < 3 * ((n : Int) + 1) * ((n : Int) + 1)) (h3 : 3 * (m : Int) * m ≤ -d) (h4 : -d < 3 * ((m : Int) + 1) * ((m : Int) + 1)) : n = m := by
  rw [Int.mul_assoc] at h1 h2 h3 h4
  rcases Nat.lt_trichotomy n m with h | h | h
  · have := sq_mono (a := (n : Int) + 1) (b := m) (by omega) (by omega)
    omega
  · exact h
  · have := sq_mono (a := (m : Int) + 1) (b := n) (by omega) (by omega)
    omega

set_option maxRecDepth 100000 in
set_option maxHeartbeats 3200000 in
theorem fclasses_main (d : Int) (w : World) (h : ¬ (0 ≤ d ∨ d < -200000)) (h2 : ¬ 1 < d % 4) : Calls Try.prog 3 #[.int .i64 d] w fun e w' => e = .returned (.bool true) ∧ Below w.heap.size w w' := by
  have C1 := fun W => hide (classes_any d W)
  have HE : ClsF d = (0, 0) := by unfold ClsF; rw [if_neg h, if_neg h2]
  unfold RetClasses at C1
  rw [HE] at C1
  have CB := fun W => hide (formBegun_any W)
  have CO := fun W => hide (classesOf_any d W (by omega) (by omega))
  have CL := fun W => hide (left_ref d 4 W (by omega) (by omega) (by omega) (by omega))
  have q1 : decide (0 ≤ d) = false := by simp; omega
  have q2 : decide (d < -200000) = false := by simp; omega
  obtain ⟨r, hr⟩ : ∃ r, d % 4 = r := ⟨_, rfl⟩
  rw [hr] at CL h2
  have q3 : decide (1 < r) = false := by simpa using h2
  clear h HE h2 hr
  go_enter Try.func3, Try.ntmps3
  go_wp2_with fail
  refine (C1 _).out.mono ?_
  rintro e w1 ⟨v, rfl, _, hv, hb⟩
  obtain ⟨n, hn1, hn2, hn3, hf⟩ := hv (by simp)
  simp only [fv]
  have B1 := hide (hb.alloc (hb.size) (.cells #[.int .i64 0, .int .i64 0] 24))
  have F1 := hide (FC.made w1 0 0)
  have V1 := hide (hf.below (bel_obj w1 (.cells #[.int .i64 0, .int .i64 0] 24)))
  have HN := hide (And.intro hn1 (And.intro hn2 hn3))
  clear hb hv hf hn1 hn2 hn3
  go_wp2_with fail
  refine (CB _).out.mono ?_
  rintro e w2 ⟨rfl, hb⟩
  have F2 := hide (F1.out.below hb)
  have V2 := hide (V1.out.below hb)
  have B2 := hide (B1.out.trans (hb.mono B1.out.size))
  clear hb
  go_wp2_with fail
  refine (CL _).out.mono ?_
  rintro e w3 ⟨rfl, rfl⟩
  go_wp2_with fail
  refine (CO _).out.mono ?_
  rintro e w3 ⟨u, m, rfl, hm1, hm2, _, hf, hb⟩
  obtain rfl := same_n HN.out.1 HN.out.2.1 hm1 hm2
  have F3 := F2.out.below hb
  have V3 := V2.out.below hb
  have HB3 := hide (B2.out.trans (hb.mono B2.out.size))
  have hlen : (allF d n).length ≤ 1000000 := by
    have h7 := allF_len d n
    have h8 : n * (2 * n + 1) ≤ 260 * 521 := Nat.mul_le_mul (by have := HN.out; omega) (by have := HN.out; omega)
    omega
  obtain ⟨aa, ca, rfl⟩ := V3.len
  obtain ⟨ab, cb, rfl⟩ := hf.len
  obtain ⟨l, hl⟩ : ∃ l, allF d n = l := ⟨_, rfl⟩
  rw [hl] at hlen V3 hf ⊢
  obtain ⟨a0, a1, _, _⟩ := F3.cells
  have HF := hide hf
  have HV := hide V3
  clear hb F3 V3 hf hm1 hm2 hl
  go_wp2_with fail
  go_loopw [6] (fun x wr => ∃ k nq : Nat, x = .int .i64 k ∧ k ≤ l.length ∧ wr = w3.drewN nq) (fun x _ => l.length - (intOf x).toNat)
  case atStart => exact ⟨0, 0, rfl, by omega, rfl⟩
  case round =>
    obtain ⟨k, nq, rfl, hk, rfl⟩ := hrel
    by_cases hkn : k < l.length
    · obtain ⟨⟨x, y, z⟩, hf⟩ : ∃ f, l[k]? = some f := ⟨l[k], by simp [hkn]⟩
      obtain ⟨g1, c1, e1, hg1, _, hc1⟩ := HV.out.at_ hkn
      obtain ⟨g2, c2, e2, hg2, _, hc2⟩ := HF.out.at_ hkn
      injection e1 with e1 _ e1c
      injection e2 with e2 _ e2c
      subst e1 e2 e1c e2c
      obtain ⟨x0, x1, x2⟩ := hc1 k _ hf
      obtain ⟨y0, y1, y2⟩ := hc2 k _ hf
      clear hc1 hc2 hf
      go_wp2_with fail
      go_quiet (fail)
      go_wp2_with fail
      exact ⟨⟨k + 1, _, by simp, by omega, rfl⟩, by simp [intOf]; omega⟩
    · obtain rfl : k = l.length := by omega
      go_wp2_with fail
      go_ret
      exact ⟨rfl, below_drewN HB3.out nq⟩

theorem fclasses_any (d : Int) (w : World) : Calls Try.prog 3 #[.int .i64 d] w fun e w' => e = .returned (.bool true) ∧ Below w.heap.size w w' := by
  by_cases h : 0 ≤ d ∨ d < -200000
  · exact fclasses_range d w h
  · by_cases h2 : 1 < d % 4
    · exact fclasses_kind d w h h2
    · exact fclasses_main d w h h2
end Go.Proofs.Ytcmmigngkpfjkaa
