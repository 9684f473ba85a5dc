/- The walks of prime.Factor, of the answers' IsPrime at what the program takes for a prime, of Powers on equal lists, and of primeBegun. -/
import Derived.Test.YtpppnaljndhjcaaDoorKPRead
import Derived.Test.YtpppnaljndhjcaaDoorKProb
import Derived.Test.YtpppnaljndhjcaaDoorKPadB
namespace Go.Proofs.YtpppnaljndhjcaaDoor
open Go.RowKit

set_option maxRecDepth 100000 in
set_option maxHeartbeats 800000 in
theorem isPrime_told (p : Nat) (w : World) (h2 : 2 ≤ p) (hp : p ≤ 1000000000000000000) (hb : isB p = true) :
    Calls Tryd.prog 8 #[.int .i64 p] w fun e w' => e = .returned (.bool true) ∧ Below w.heap.size w w' := by
  rcases Nat.lt_or_ge 100000000 p with h | h
  · have O0 := hide (Own.start w)
    have CP := fun (g : Nat) (W : World) (hi : IntAt W g (p : Int)) => hide (prob_any g p 20 W hi h hp hb)
    have q1 : decide ((p : Int) < 2) = false := by rw [decide_eq_false_iff_not]; omega
    have q2 : decide (100000000 < (p : Int)) = true := by rw [decide_eq_true_eq]; omega
    have HB : Hid (-9223372036854775808 ≤ (p : Int) ∧ (p : Int) ≤ 9223372036854775807) := by unfold Hid; omega
    clear hb h h2 hp
    go_enter Tryd.func8, Tryd.ntmps8
    go_wp2_with fail
    refine (b_own O0.out p HB.out.1 HB.out.2).mono ?_
    rintro e w1 ⟨g1, rfl, O⟩
    have C := CP g1 w1 (O.at_ 0 _ _ rfl)
    have B1 := hide O.bel
    clear O CP
    go_wp2_with fail
    refine C.out.mono ?_
    rintro e w2 ⟨rfl, hb⟩
    have B2 := hide (B1.out.trans (hb.mono B1.out.size))
    go_wp2_with fail
    go_ret
    exact ⟨rfl, B2.out⟩
  · have hr := isPrime_ref (p : Int) w (by omega) (by omega)
    rw [show ((p : Int)).toNat = p from rfl, ← isB_mid h2 h, hb] at hr
    refine hr.mono ?_
    rintro e w' ⟨rfl, rfl⟩
    exact ⟨rfl, Below.refl _ _⟩

set_option maxRecDepth 100000 in
set_option maxHeartbeats 800000 in
theorem powers_same (v u : Value) (l : List (Nat × Nat)) (w : World) (hlen : l.length ≤ 1000000) (hv : PRead w v l) (hu : PRead w u l) :
    Calls Tryd.prog 15 #[v, u] w fun e w' => e = .returned (.bool true) ∧ ∃ k, w' = w.drewN k := by
  have HV := hide hv
  have HU := hide hu
  obtain ⟨A, c, rfl⟩ := hv.form
  obtain ⟨B, d, rfl⟩ := hu.form
  have q0 : ((l.length : Int) != (l.length : Int)) = false := by simp
  clear hv hu
  go_enter Tryd.func15, Tryd.ntmps15
  go_wp2_with fail
  go_loopg [5] l.length (fun J x wr => ∃ i j : Nat, J = l.length - i ∧ x = .int .i64 i ∧ i ≤ l.length ∧ wr = w.drewN j)
  case atStart => exact ⟨0, 0, by omega, rfl, by omega, rfl⟩
  case round =>
    obtain ⟨i, j, hJ, rfl, hi, rfl⟩ := hrel
    by_cases hil : i < l.length
    · obtain ⟨g, c2, x, e1, hg, hx, c1, c3⟩ := HV.out.at_ hil
      obtain ⟨g2, d2, x2, e2, hg2, hx2, d1, d3⟩ := HU.out.at_ hil
      rw [hx] at hx2
      injection hx2 with hx2
      subst hx2
      injection e1 with e1 _ e3
      injection e2 with e2 _ e4
      subst e1 e2
      obtain ⟨x1, x2⟩ := x
      have q1 : ((x1 : Int) != (x1 : Int)) = false := by simp
      have q2 : ((x2 : Int) != (x2 : Int)) = false := by simp
      clear hx e3 e4
      go_wp2_with fail
      go_quiet (fail)
      go_wp2_with fail
      go_roundg (l.length - (i + 1))
      case measure => omega
      case rel => exact ⟨i + 1, _, rfl, by simp, by omega, rfl⟩
    · obtain rfl : i = l.length := by omega
      go_wp2_with fail
      go_ret
      exact ⟨rfl, j, rfl⟩

set_option maxHeartbeats 400000 in
theorem prfault_any (c n : Int) (w : World) :
    Calls Tryd.prog 13 #[.int .i64 c, .int .i64 n] w fun e w' => e = .returned (.agg #[.int .i64 c, .int .i64 n]) ∧ Below w.heap.size w w' := by
  go_enter Tryd.func13, Tryd.ntmps13
  go_wp2
  exact bodyPost_ret (v := .agg #[.int .i64 c, .int .i64 n]) (by simp [results, Tryd.results13, go_sem]) rfl ⟨rfl, (Below.refl _ _).alloc (Nat.le_refl _) _⟩

/-- Factor's word -/
def RetFactor (w : World) (n : Int) : Ending → World → Prop := fun e w' => ∃ (v : Value) (S : List Nat) (c : Int), e = .returned (.tuple #[v, fv (c, 0)]) ∧ ((1 ≤ n ∧ n ≤ 1000000000000000000) → c = 0 ∧ Rise S ∧ Told0 n.toNat S) ∧ (¬ (1 ≤ n ∧ n ≤ 1000000000000000000) → c = 3 ∧ S = [] ∧ v = .slice none 0 0) ∧ PRead w' v (grp S) ∧ Below w.heap.size w w'
set_option maxRecDepth 100000 in
set_option maxHeartbeats 1600000 in
theorem factor_any (n : Int) (w : World) (hT : TabW w) (h0 : -9223372036854775808 ≤ n) (h1 : n ≤ 9223372036854775807) : Calls Tryd.prog 14 #[.int .i64 n] w (RetFactor w n) := by
  have HT := hide (hT.alloc (.cells #[.int .i64 0, .int .i64 0] 23))
  clear hT
  by_cases hok : 1 ≤ n ∧ n ≤ 1000000000000000000
  · obtain ⟨N, rfl⟩ : ∃ N : Nat, n = N := ⟨n.toNat, by omega⟩
    have q1 : decide ((N : Int) < 1) = false := by rw [decide_eq_false_iff_not]; omega
    have CO := fun W => hide (ok_any (N : Int) W)
    rw [show okB (N : Int) = true from by unfold okB; simp; omega] at CO
    have CP := hide (parts_any N (w.alloc (.cells #[.int .i64 0, .int .i64 0] 23)) (by omega) (by omega) HT.out)
    have HOK := hide hok
    clear hok h0 h1
    go_enter Tryd.func14, Tryd.ntmps14
    go_wp2_with fail
    refine (CO _).out.mono ?_
    rintro e w1 ⟨rfl, rfl⟩
    go_wp2_with fail
    refine CP.out.mono ?_
    rintro e w1 ⟨v, S, rfl, hS, ht, hP, hb⟩
    have F1 := (FC.fresh w).below hb
    obtain ⟨d0, d1, f0, f1⟩ := F1.cells
    obtain ⟨p0, p1⟩ := F1.put 0 0
    have HB2 := hide (below_fault (u := .int .i64 0) (v := .int .i64 0) (below_new hb) (Nat.le_refl w.heap.size))
    have HPR := hide ((hP.far (p := ⟨w.heap.size, 0, none⟩) (by simp) (.int .i64 0)).far (p := ⟨w.heap.size, 1, none⟩) (by simp) (.int .i64 0)).read
    have HSS := hide (And.intro hS ht)
    clear hb F1 hS ht hP CP
    go_wp2_with fail
    exact bodyPost_ret (v := .tuple #[v, fv (0, 0)]) (by simp [results, Tryd.results14, go_sem, fv, p0, p1]) rfl ⟨v, S, 0, rfl, fun _ => ⟨rfl, HSS.out.1, HSS.out.2⟩, fun h => absurd HOK.out h, HPR.out, HB2.out⟩
  · have C := fun W => hide (prfault_any 3 0 W)
    have HOK := hide hok
    by_cases h2 : n < 1
    · have q1 : decide (n < 1) = true := by simpa using h2
      clear hok h2
      go_enter Tryd.func14, Tryd.ntmps14
      go_wp2_with fail
      refine (C _).out.mono ?_
      rintro e w1 ⟨rfl, hb⟩
      have F1 := (FC.fresh w).below hb
      obtain ⟨d0, d1, f0, f1⟩ := F1.cells
      obtain ⟨p0, p1⟩ := F1.put 3 0
      have HB2 := hide (below_fault (u := .int .i64 3) (v := .int .i64 0) (below_new hb) (Nat.le_refl w.heap.size))
      clear hb F1
      go_wp2_with fail
      exact bodyPost_ret (v := .tuple #[.slice none 0 0, fv (3, 0)]) (by simp [results, Tryd.results14, go_sem, fv, p0, p1]) rfl ⟨_, [], 3, rfl, fun h => absurd h HOK.out, fun _ => ⟨rfl, rfl, rfl⟩, .inl ⟨rfl, rfl⟩, HB2.out⟩
    · have q1 : decide (n < 1) = false := by simpa using h2
      have CO := fun W => hide (ok_any n W)
      rw [show okB n = false from by unfold okB; simp; omega] at CO
      clear hok h2
      go_enter Tryd.func14, Tryd.ntmps14
      go_wp2_with fail
      refine (CO _).out.mono ?_
      rintro e w1 ⟨rfl, rfl⟩
      go_wp2_with fail
      refine (C _).out.mono ?_
      rintro e w1 ⟨rfl, hb⟩
      have F1 := (FC.fresh w).below hb
      obtain ⟨d0, d1, f0, f1⟩ := F1.cells
      obtain ⟨p0, p1⟩ := F1.put 3 0
      have HB2 := hide (below_fault (u := .int .i64 3) (v := .int .i64 0) (below_new hb) (Nat.le_refl w.heap.size))
      clear hb F1
      go_wp2_with fail
      exact bodyPost_ret (v := .tuple #[.slice none 0 0, fv (3, 0)]) (by simp [results, Tryd.results14, go_sem, fv, p0, p1]) rfl ⟨_, [], 3, rfl, fun h => absurd h HOK.out, fun _ => ⟨rfl, rfl, rfl⟩, .inl ⟨rfl, rfl⟩, HB2.out⟩

theorem three_parts {S : List Nat} (hS : Rise S) (h : Told0 561 S) : S = [3, 11, 17] :=
  told_is (by omega) (by omega) hS h ⟨by decide, by decide, by decide, trivial⟩ (fun p hp => by
    simp at hp
    rcases hp with rfl | rfl | rfl
    · exact pr_chk (by omega) (by decide)
    · exact pr_chk (by omega) (by decide)
    · exact pr_chk (by omega) (by decide)) (by decide)

theorem pread_new (W : World) : PRead (W.alloc (.cells #[.int .i64 3, .int .i64 1, .int .i64 11, .int .i64 1, .int .i64 17, .int .i64 1] 38)) (.slice (some ⟨W.heap.size, 0, none⟩) 3 3) [(3, 1), (11, 1), (17, 1)] := by
  have hb : (W.alloc (.cells #[.int .i64 3, .int .i64 1, .int .i64 11, .int .i64 1, .int .i64 17, .int .i64 1] 38)).heap[W.heap.size]? = some (.cells #[.int .i64 3, .int .i64 1, .int .i64 11, .int .i64 1, .int .i64 17, .int .i64 1] 38 (0, 0)) := heap_alloc_new _ _
  refine .inr ⟨W.heap.size, 3, rfl, heap_lt hb, fun j x hx => ?_⟩
  generalize W.alloc (.cells #[.int .i64 3, .int .i64 1, .int .i64 11, .int .i64 1, .int .i64 17, .int .i64 1] 38) = W2 at hb
  generalize W.heap.size = g at hb
  match j, hx with
  | 0, hx => simp at hx; subst hx; simp [World.cell?, hb]
  | 1, hx => simp at hx; subst hx; simp [World.cell?, hb]
  | 2, hx => simp at hx; subst hx; simp [World.cell?, hb]

set_option maxRecDepth 100000 in
set_option maxHeartbeats 1600000 in
theorem primeBegun_any (w : World) (hT : TabW w) : Calls Tryd.prog 7 #[] w fun e w' => e = .returned (.bool true) ∧ Below w.heap.size w w' := by
  have C := hide (factor_any 561 w hT (by omega) (by omega))
  clear hT
  go_enter Tryd.func7, Tryd.ntmps7
  go_wp2_with fail
  refine C.out.mono ?_
  rintro e w1 ⟨v, S, c, rfl, hok, _, hP, hb⟩
  obtain ⟨rfl, hS, ht⟩ := hok (by omega)
  obtain rfl := three_parts hS ht
  have hg : grp [3, 11, 17] = [(3, 1), (11, 1), (17, 1)] := by decide
  rw [hg] at hP
  simp only [fv]
  have HB1 := hide (hb.alloc hb.size (.cells #[.int .i64 0, .int .i64 0] 23))
  have HP1 := hide ((hP.below ((Below.refl _ _).alloc (Nat.le_refl _) (.cells #[.int .i64 0, .int .i64 0] 23))).below ((Below.refl _ _).alloc (Nat.le_refl _) (.cells #[.int .i64 3, .int .i64 1, .int .i64 11, .int .i64 1, .int .i64 17, .int .i64 1] 38)))
  have HB2 := hide (HB1.out.alloc HB1.out.size (.cells #[.int .i64 3, .int .i64 1, .int .i64 11, .int .i64 1, .int .i64 17, .int .i64 1] 38))
  have HN := pread_new (w1.alloc (.cells #[.int .i64 0, .int .i64 0] 23))
  rw [World.size_alloc] at HN
  have CP := hide (powers_same v _ _ _ (by decide) HP1.out HN)
  clear hb hS ht hP hok C hg HN
  go_wp2_with fail
  refine CP.out.mono ?_
  rintro e w2 ⟨rfl, k, rfl⟩
  go_wp2_with fail
  go_ret
  exact ⟨rfl, below_drewN HB2.out k⟩
end Go.Proofs.YtpppnaljndhjcaaDoor
