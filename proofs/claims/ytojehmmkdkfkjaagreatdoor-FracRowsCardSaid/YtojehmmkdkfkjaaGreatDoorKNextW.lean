/- The walk of the answers' NextOf, for lower parts up to 300. (gen_nextw.py prints this text.) -/
import Derived.Test.YtojehmmkdkfkjaaGreatDoorKRatG
import Derived.Test.YtojehmmkdkfkjaaGreatDoorK0
namespace Go.Proofs.YtojehmmkdkfkjaaGreatDoor
open Go.RowKit
open FA

/-- a Frac's block -/
def QC (w : World) (g : Nat) (a b : Int) : Prop := w.heap[g]? = some (.cells #[.int .i64 a, .int .i64 b] 23 (0, 0))
section
variable {w w' : World} {g : Nat} {a b : Int}
theorem QC.lt (h : QC w g a b) : g < w.heap.size := heap_lt h
theorem QC.below (h : QC w g a b) (k : Below w.heap.size w w') : QC w' g a b := (k.block g h.lt).trans h
theorem QC.cells (h : QC w g a b) : w.cell? ⟨g, 0, none⟩ = some (.int .i64 a) ∧ w.cell? ⟨g, 1, none⟩ = some (.int .i64 b) ∧ w.frozen? ⟨g, 0, none⟩ = false ∧ w.frozen? ⟨g, 1, none⟩ = false := by
  unfold QC at h
  exact ⟨by simp [World.cell?, h], by simp [World.cell?, h], frozen_of_blk h 0, frozen_of_blk h 1⟩
theorem QC.put (h : QC w g a b) (x y : Int) : QC ((w.setCell ⟨g, 0, none⟩ (.int .i64 x)).setCell ⟨g, 1, none⟩ (.int .i64 y)) g x y := by
  unfold QC at h ⊢
  simp [World.setCell, Array.getElem?_modify, h]
theorem QC.made (w : World) (a b : Int) : QC (w.alloc (.cells #[.int .i64 a, .int .i64 b] 23)) w.heap.size a b := blk_new w _ _
end
/-- NextOf's memory -/
structure NX (w W : World) (u v : Int) : Prop where
  f : QC W w.heap.size u v
  r : QC W (w.heap.size + 1) 0 0
  b : Below w.heap.size w W
theorem NX.below {w W W' : World} {u v : Int} (h : NX w W u v) (k : Below W.heap.size W W') : NX w W' u v := ⟨h.f.below k, h.r.below k, h.b.trans (k.mono h.b.size)⟩
theorem NX.start (w : World) (u v : Int) : NX w ((w.alloc (.cells #[.int .i64 u, .int .i64 v] 23)).alloc (.cells #[.int .i64 0, .int .i64 0] 23)) u v := by
  have h2 := QC.made (w.alloc (.cells #[.int .i64 u, .int .i64 v] 23)) 0 0
  rw [World.size_alloc] at h2
  exact ⟨(QC.made w u v).below (bel_new _ _), h2, ((Below.refl _ _).alloc (Nat.le_refl _) _).alloc (by simp) _⟩
/-- the best one so far lies in memory -/
def BestAt (W : World) (bv : Value) (u v : Int) (k : Nat) : Prop := (k = 0 ∧ bv = .pointer none) ∨ (1 ≤ k ∧ ∃ g P Q, bv = .pointer (some ⟨g, 0, none⟩) ∧ RatAt W g P Q ∧ Best u v k P Q ∧ P.natAbs ≤ 1000000000 ∧ Q ≤ 300)
theorem BestAt.below {W W' : World} {bv : Value} {u v : Int} {k : Nat} (h : BestAt W bv u v k) (b : Below W.heap.size W W') : BestAt W' bv u v k := by
  rcases h with h | ⟨h1, g, P, Q, h2, h3, h4⟩
  · exact .inl h
  · exact .inr ⟨h1, g, P, Q, h2, h3.below b, h4⟩
theorem RatAt.grown {w w' : World} {g z : Nat} {A B : Int} (h : RatAt w g A B) (k : w.grownBy w' (some z)) (hz : WordsKept w w') (hne : g ≠ z) : RatAt w' g A B := by
  obtain ⟨n1, v1, n2, v2, hr, hB⟩ := h
  have e : w'.heap[g]? = w.heap[g]? := k.block g hr.blk.lt (by intro e; injection e with e; exact hne e)
  exact ⟨n1, v1, n2, v2, ⟨e.trans hr.blk, hr.a.kept hz, hr.sa, hr.b.kept hz, hr.sb⟩, hB⟩
theorem BestAt.grown {W W' : World} {bv : Value} {u v : Int} {k z B : Nat} (h : BestAt W bv u v k) (g : W.grownBy W' (some z)) (hz : WordsKept W W') (hl : ∀ q, bv = .pointer (some ⟨q, 0, none⟩) → q < B) (hB : B ≤ z) : BestAt W' bv u v k := by
  rcases h with h | ⟨h1, q, P, Q, h2, h3, h4⟩
  · exact .inl h
  · exact .inr ⟨h1, q, P, Q, h2, h3.grown g hz (by have := hl q h2; omega), h4⟩
theorem BestAt.lt {W : World} {bv : Value} {u v : Int} {k : Nat} (h : BestAt W bv u v k) : ∀ q, bv = .pointer (some ⟨q, 0, none⟩) → q < W.heap.size := by
  intro q hq
  rcases h with ⟨_, h⟩ | ⟨h1, g, P, Q, h2, h3, h4⟩
  · rw [h] at hq; cases hq
  · rw [h2] at hq
    injection hq with hq
    injection hq with hq
    injection hq with hq
    rw [← hq]
    exact h3.lt
theorem NX.grown {w W W' : World} {u v : Int} {z : Nat} (h : NX w W u v) (g : W.grownBy W' (some z)) (hz : w.heap.size + 1 < z) : NX w W' u v :=
  ⟨(g.block _ h.f.lt (by intro e; injection e with e; omega)).trans h.f, (g.block _ h.r.lt (by intro e; injection e with e; omega)).trans h.r, below_of_grown h.b g h.b.size (by omega)⟩
theorem RBlkAny.words {w w' : World} {g : Nat} (h : RBlkAny w g) (k : w.grownBy w' (some g)) : WordsKept w w' := by
  obtain ⟨_, _, _, _, h⟩ := h
  exact h.words k
theorem RBlkAny.grown {w w' : World} {g z : Nat} (h : RBlkAny w g) (k : w.grownBy w' (some z)) (hne : g ≠ z) : RBlkAny w' g := by
  obtain ⟨a, b, c, d, h⟩ := h
  exact ⟨a, b, c, d, (k.block g h.lt (by intro e; injection e with e; exact hne e)).trans h⟩
theorem upc_bound {u v : Int} {k : Nat} (hu : u.natAbs ≤ 1000000) (hv : 1 ≤ v) (hk : k < 300) : (upc u v ((k : Int) + 1)).natAbs ≤ 300000001 ∧ (u * ((k : Int) + 1)).natAbs ≤ 300000000 := by
  have h1 : (u * ((k : Int) + 1)).natAbs ≤ 300000000 := by
    rw [Int.natAbs_mul]
    exact Nat.le_trans (Nat.mul_le_mul hu (show ((k : Int) + 1).natAbs ≤ 300 by omega)) (by omega)
  refine ⟨?_, h1⟩
  unfold upc
  have h2 : (u * ((k : Int) + 1) / v).natAbs ≤ 300000000 := by
    rcases Int.lt_or_le (u * ((k : Int) + 1)) 0 with h | h
    · have := Int.ediv_lt_of_lt_mul (show 0 < v by omega) (show u * ((k : Int) + 1) < 0 * v by omega)
      have h3 : u * ((k : Int) + 1) ≤ u * ((k : Int) + 1) / v := by
        have e := Int.le_ediv_of_mul_le (show 0 < v by omega) (show u * ((k : Int) + 1) * v ≤ u * ((k : Int) + 1) from by
          have h5 := Int.mul_nonneg (show 0 ≤ -(u * ((k : Int) + 1)) by omega) (show 0 ≤ v - 1 by omega)
          have h6 : -(u * ((k : Int) + 1)) * (v - 1) = u * ((k : Int) + 1) - u * ((k : Int) + 1) * v := by grind
          omega)
        exact e
      omega
    · have := Int.ediv_le_self v h
      have h3 := Int.ediv_nonneg h (show 0 ≤ v by omega)
      omega
  omega
/-- the new one in lowest terms -/
def rUp (u v : Int) (k : Nat) : Int := upc u v ((k : Int) + 1) / (Int.gcd (upc u v ((k : Int) + 1)) ((k : Int) + 1) : Int)
def rDn (u v : Int) (k : Nat) : Int := ((k : Int) + 1) / (Int.gcd (upc u v ((k : Int) + 1)) ((k : Int) + 1) : Int)
theorem r_bounds {u v : Int} {k : Nat} (hu : u.natAbs ≤ 1000000) (hv : 1 ≤ v) (hk : k < 300) : (rUp u v k).natAbs ≤ 1000000000 ∧ 1 ≤ rDn u v k ∧ rDn u v k ≤ 300 := by
  obtain ⟨a, b, c, d, e⟩ := low_terms (c := upc u v ((k : Int) + 1)) (d := (k : Int) + 1) (by omega)
  have hb := (upc_bound hu hv hk).1
  have hg : 0 < Int.gcd (upc u v ((k : Int) + 1)) ((k : Int) + 1) := Int.gcd_pos_of_ne_zero_right _ (by omega)
  refine ⟨?_, a, ?_⟩
  · have h1 : (rUp u v k).natAbs ≤ (upc u v ((k : Int) + 1)).natAbs := by
      have : (upc u v ((k : Int) + 1)).natAbs = (rUp u v k).natAbs * Int.gcd (upc u v ((k : Int) + 1)) ((k : Int) + 1) := by
        rw [← Int.natAbs_natCast (Int.gcd (upc u v ((k : Int) + 1)) ((k : Int) + 1)), ← Int.natAbs_mul]
        exact congrArg Int.natAbs d.symm
      rw [this]
      exact Nat.le_mul_of_pos_right _ hg
    omega
  · have := Int.ediv_le_self (Int.gcd (upc u v ((k : Int) + 1)) ((k : Int) + 1) : Int) (show (0 : Int) ≤ (k : Int) + 1 by omega)
    unfold rDn
    omega
theorem BestAt.first {W : World} {g : Nat} {u v : Int} {k : Nat} (h0 : k = 0) (h : RatAt W g (rUp u v k) (rDn u v k)) (hb : (rUp u v k).natAbs ≤ 1000000000 ∧ 1 ≤ rDn u v k ∧ rDn u v k ≤ 300) : BestAt W (.pointer (some ⟨g, 0, none⟩)) u v (k + 1) := by
  subst h0
  refine .inr ⟨by omega, g, _, _, rfl, h, ?_, hb.1, hb.2.2⟩
  have := Best.first (u := u) (v := v)
  unfold rUp rDn
  simpa using this
theorem BestAt.less {W : World} {g : Nat} {u v P Q : Int} {k : Nat} (h : RatAt W g (rUp u v k) (rDn u v k)) (hb : (rUp u v k).natAbs ≤ 1000000000 ∧ 1 ≤ rDn u v k ∧ rDn u v k ≤ 300) (hB : Best u v k P Q) (hlt : rUp u v k * Q < P * rDn u v k) : BestAt W (.pointer (some ⟨g, 0, none⟩)) u v (k + 1) := by
  refine .inr ⟨by omega, g, _, _, rfl, h, ?_, hb.1, hb.2.2⟩
  have := hB.less (by omega) hlt
  unfold rUp rDn
  simpa using this
theorem BestAt.keep {W : World} {g : Nat} {u v P Q : Int} {k : Nat} (h : RatAt W g P Q) (hP : P.natAbs ≤ 1000000000) (hQ : Q ≤ 300) (hB : Best u v k P Q) (hge : ¬ rUp u v k * Q < P * rDn u v k) : BestAt W (.pointer (some ⟨g, 0, none⟩)) u v (k + 1) := by
  refine .inr ⟨by omega, g, _, _, rfl, h, ?_, hP, hQ⟩
  have := hB.keep (by omega) hge
  simpa using this

set_option maxRecDepth 100000 in
set_option maxHeartbeats 6400000 in
theorem nextOf_any (u v : Int) (n : Nat) (w : World) (hu : u.natAbs ≤ 1000000) (hv : 1 ≤ v) (hv2 : v ≤ 1000000) (hn : 1 ≤ n) (hn2 : n ≤ 300) :
    Calls Tryz.prog 8 #[.agg #[.int .i64 u, .int .i64 v], .int .i64 n] w fun e w' => ∃ P Q : Int, e = .returned (.agg #[.int .i64 P, .int .i64 Q]) ∧ Best u v n P Q ∧ Below w.heap.size w w' := by
  have HU : Hid (-9223372036854775808 ≤ u ∧ u ≤ 9223372036854775807) := hide (by omega)
  have HV : Hid (-9223372036854775808 ≤ v ∧ v ≤ 9223372036854775807) := hide (by omega)
  have HUV := hide (And.intro hu (And.intro hv hv2))
  have HN := hide (And.intro hn hn2)
  have H0 := hide (NX.start w u v)
  clear hu hv hv2 hn
  go_enter Tryz.func8, Tryz.ntmps8
  go_upto_region 1 with (fail)
  obtain ⟨W0, hW⟩ : ∃ Z, (w.alloc (.cells #[.int .i64 u, .int .i64 v] 23)).alloc (.cells #[.int .i64 0, .int .i64 0] 23) = Z := ⟨_, rfl⟩
  rw [hW] at H0
  (try rw [hW])
  clear hW
  go_wp2_with fail
  go_loopw [5, 6] (fun bv dv wr => ∃ k : Nat, k ≤ n ∧ dv = .int .i64 ((k : Int) + 1) ∧ Hid (BestAt wr bv u v k) ∧ Hid (NX w wr u v)) (fun _ dv _ => n + 1 - (intOf dv).toNat)
  case atStart => exact ⟨0, by omega, rfl, hide (.inl ⟨rfl, rfl⟩), H0⟩
  case round =>
    clear H0
    obtain ⟨k, hk, rfl, HB, HX⟩ := hrel
    obtain ⟨wo, rfl⟩ : ∃ Z, Z = wr := ⟨_, rfl⟩
    by_cases hkn : k < n
    · have HKN := hide hkn
      have q1 : decide ((k : Int) + 1 ≤ (n : Int)) = true := by rw [decide_eq_true_eq]; omega
      have HK : Hid (-9223372036854775808 ≤ (k : Int) + 1 ∧ (k : Int) + 1 ≤ 9223372036854775807) := hide (by omega)
      have hub := upc_bound HUV.out.1 HUV.out.2.1 (show k < 300 by omega)
      have HUB := hide hub
      have HL : Hid (u.natAbs < lim ∧ ((k : Int) + 1).natAbs < lim ∧ (u * ((k : Int) + 1)).natAbs < lim ∧ (u * ((k : Int) + 1)).natAbs + 1 < lim ∧ v.natAbs < lim ∧ v ≠ 0) := by
        have h := HUV.out
        exact hide ⟨lim_u64 (by omega), lim_u64 (by omega), lim_u64 (by omega), lim_u64 (by omega), lim_u64 (by omega), by omega⟩
      have KF := fun W (b : Below wo.heap.size wo W) => hide (show (W.cell? ⟨w.heap.size, 0, none⟩ = some (.int .i64 u) ∧ W.cell? ⟨w.heap.size, 1, none⟩ = some (.int .i64 v)) ∧ Hid (Below wo.heap.size wo W) from ⟨⟨(HX.out.below b).f.cells.1, (HX.out.below b).f.cells.2.1⟩, hide b⟩)
      have O := hide (Own.start wo)
      clear hub
      go_upto_region 5 with (fail)
      go_cut [7] (fun p wx => ∃ z, p = .pointer (some ⟨z, 0, none⟩) ∧ Hid (IntAt wx z (u * ((k : Int) + 1) / v)) ∧ Hid (wo.heap.size ≤ z) ∧ Hid (Below wo.heap.size wo wx))
      case first => as_aux_lemma =>
        clear HB HUB
        go_region_held3 (fun W => (W.cell? ⟨w.heap.size, 0, none⟩ = some (.int .i64 u) ∧ W.cell? ⟨w.heap.size, 1, none⟩ = some (.int .i64 v)) ∧ Hid (Below wo.heap.size wo W)) (first | with_reducible exact (KF _ (own_drw O.out).bel).out | with_reducible exact (KF _ (own_n2drw O.out).bel).out | with_reducible exact (KF _ (own_ndrw O.out).bel).out | with_reducible exact (KF _ (own_new2 O.out).bel).out | with_reducible exact (KF _ O.out.bel).out | with_reducible exact (KF _ O.out.new.bel).out) (first | (go_at_call 20; (with_reducible refine calls_mono2 (b_own (own_n2drw O.out) u HU.out.1 HU.out.2) ?_); rintro e w5 ⟨gA, rfl, O'⟩; have O := hide O'; clear O') | (go_at_call 20; (with_reducible refine calls_mono2 (b_own (own_ndrw O.out) u HU.out.1 HU.out.2) ?_); rintro e w5 ⟨gA, rfl, O'⟩; have O := hide O'; clear O') | (go_at_call 20; (with_reducible refine calls_mono2 (b_own (own_drw O.out) u HU.out.1 HU.out.2) ?_); rintro e w5 ⟨gA, rfl, O'⟩; have O := hide O'; clear O') | (go_at_call 20; (with_reducible refine calls_mono2 (b_own O.out ((k : Int) + 1) HK.out.1 HK.out.2) ?_); rintro e w5 ⟨gB, rfl, O'⟩; have O := hide O'; clear O') | (go_at_call 20; (with_reducible refine calls_mono2 (b_own O.out.new ((k : Int) + 1) HK.out.1 HK.out.2) ?_); rintro e w5 ⟨gB, rfl, O'⟩; have O := hide O'; clear O') | (go_at_call 20; (with_reducible refine calls_mono2 (b_own (own_new2 O.out) ((k : Int) + 1) HK.out.1 HK.out.2) ?_); rintro e w5 ⟨gB, rfl, O'⟩; have O := hide O'; clear O') | (go_at_call 19; (with_reducible refine calls_mono2 (mul_own (X := u) (Y := (k : Int) + 1) O.out 3 1 0 l3 l1 l0 HL.out.1 HL.out.2.1 HL.out.2.2.1) ?_); rintro e w5 ⟨rfl, O'⟩; simp only [List.set] at O'; have O := hide O'; clear O') | (go_at_call 19; (with_reducible refine calls_mono2 (mul_own (X := u) (Y := (k : Int) + 1) O.out 3 2 0 l3 l2 l0 HL.out.1 HL.out.2.1 HL.out.2.2.1) ?_); rintro e w5 ⟨rfl, O'⟩; simp only [List.set] at O'; have O := hide O'; clear O') | (go_at_call 19; (with_reducible refine calls_mono2 (mul_own (X := u) (Y := (k : Int) + 1) O.out.new 3 2 1 l3 l2 l1 HL.out.1 HL.out.2.1 HL.out.2.2.1) ?_); rintro e w5 ⟨rfl, O'⟩; simp only [List.set] at O'; have O := hide O'; clear O') | (go_at_call 19; (with_reducible refine calls_mono2 (mul_own (X := u) (Y := (k : Int) + 1) O.out 2 1 0 l2 l1 l0 HL.out.1 HL.out.2.1 HL.out.2.2.1) ?_); rintro e w5 ⟨rfl, O'⟩; simp only [List.set] at O'; have O := hide O'; clear O') | (go_at_call 19; (with_reducible refine calls_mono2 (mul_own (X := u) (Y := (k : Int) + 1) O.out 1 2 0 l1 l2 l0 HL.out.1 HL.out.2.1 HL.out.2.2.1) ?_); rintro e w5 ⟨rfl, O'⟩; simp only [List.set] at O'; have O := hide O'; clear O') | (go_at_call 19; (with_reducible refine calls_mono2 (mul_own (X := u) (Y := (k : Int) + 1) O.out.new 0 2 1 l0 l2 l1 HL.out.1 HL.out.2.1 HL.out.2.2.1) ?_); rintro e w5 ⟨rfl, O'⟩; simp only [List.set] at O'; have O := hide O'; clear O') | (go_at_call 19; (with_reducible refine calls_mono2 (mul_own (X := u) (Y := (k : Int) + 1) O.out 2 3 0 l2 l3 l0 HL.out.1 HL.out.2.1 HL.out.2.2.1) ?_); rintro e w5 ⟨rfl, O'⟩; simp only [List.set] at O'; have O := hide O'; clear O') | (go_at_call 19; (with_reducible refine calls_mono2 (mul_own (X := u) (Y := (k : Int) + 1) O.out.new 2 3 1 l2 l3 l1 HL.out.1 HL.out.2.1 HL.out.2.2.1) ?_); rintro e w5 ⟨rfl, O'⟩; simp only [List.set] at O'; have O := hide O'; clear O') | (go_at_call 19; (with_reducible refine calls_mono2 (mul_own (X := u) (Y := (k : Int) + 1) O.out 1 3 0 l1 l3 l0 HL.out.1 HL.out.2.1 HL.out.2.2.1) ?_); rintro e w5 ⟨rfl, O'⟩; simp only [List.set] at O'; have O := hide O'; clear O') | (go_at_call 19; (with_reducible refine calls_mono2 (mul_own (X := u) (Y := (k : Int) + 1) O.out.new 0 3 1 l0 l3 l1 HL.out.1 HL.out.2.1 HL.out.2.2.1) ?_); rintro e w5 ⟨rfl, O'⟩; simp only [List.set] at O'; have O := hide O'; clear O') | (go_at_call 19; (with_reducible refine calls_mono2 (mul_own (X := u) (Y := (k : Int) + 1) (own_new2 O.out) 1 3 2 l1 l3 l2 HL.out.1 HL.out.2.1 HL.out.2.2.1) ?_); rintro e w5 ⟨rfl, O'⟩; simp only [List.set] at O'; have O := hide O'; clear O') | (go_at_call 19; (with_reducible refine calls_mono2 (mul_own (X := u) (Y := (k : Int) + 1) (own_new2 O.out) 0 3 2 l0 l3 l2 HL.out.1 HL.out.2.1 HL.out.2.2.1) ?_); rintro e w5 ⟨rfl, O'⟩; simp only [List.set] at O'; have O := hide O'; clear O') | (go_at_call 20; (with_reducible refine calls_mono2 (b_own O.out v HV.out.1 HV.out.2) ?_); rintro e w5 ⟨gC, rfl, O'⟩; have O := hide O'; clear O') | (go_at_call 20; (with_reducible refine calls_mono2 (b_own O.out.new v HV.out.1 HV.out.2) ?_); rintro e w5 ⟨gC, rfl, O'⟩; have O := hide O'; clear O') | (go_at_call 18; (with_reducible refine calls_mono2 (div_own (X := u * ((k : Int) + 1)) (Y := v) O.out 3 4 0 l3 l4 l0 HL.out.2.2.2.1 HL.out.2.2.2.2.1 HL.out.2.2.2.2.2) ?_); rintro e w5 ⟨rfl, O'⟩; simp only [List.set] at O'; have O := hide O'; clear O') | (go_at_call 18; (with_reducible refine calls_mono2 (div_own (X := u * ((k : Int) + 1)) (Y := v) O.out 2 4 0 l2 l4 l0 HL.out.2.2.2.1 HL.out.2.2.2.2.1 HL.out.2.2.2.2.2) ?_); rintro e w5 ⟨rfl, O'⟩; simp only [List.set] at O'; have O := hide O'; clear O') | (go_at_call 18; (with_reducible refine calls_mono2 (div_own (X := u * ((k : Int) + 1)) (Y := v) O.out 1 4 0 l1 l4 l0 HL.out.2.2.2.1 HL.out.2.2.2.2.1 HL.out.2.2.2.2.2) ?_); rintro e w5 ⟨rfl, O'⟩; simp only [List.set] at O'; have O := hide O'; clear O') | (go_at_call 18; (with_reducible refine calls_mono2 (div_own (X := u * ((k : Int) + 1)) (Y := v) O.out.new 0 4 1 l0 l4 l1 HL.out.2.2.2.1 HL.out.2.2.2.2.1 HL.out.2.2.2.2.2) ?_); rintro e w5 ⟨rfl, O'⟩; simp only [List.set] at O'; have O := hide O'; clear O') | (go_at_call 18; (with_reducible refine calls_mono2 (div_own (X := u * ((k : Int) + 1)) (Y := v) O.out 4 3 0 l4 l3 l0 HL.out.2.2.2.1 HL.out.2.2.2.2.1 HL.out.2.2.2.2.2) ?_); rintro e w5 ⟨rfl, O'⟩; simp only [List.set] at O'; have O := hide O'; clear O') | (go_at_call 18; (with_reducible refine calls_mono2 (div_own (X := u * ((k : Int) + 1)) (Y := v) O.out 4 2 0 l4 l2 l0 HL.out.2.2.2.1 HL.out.2.2.2.2.1 HL.out.2.2.2.2.2) ?_); rintro e w5 ⟨rfl, O'⟩; simp only [List.set] at O'; have O := hide O'; clear O') | (go_at_call 18; (with_reducible refine calls_mono2 (div_own (X := u * ((k : Int) + 1)) (Y := v) O.out 4 1 0 l4 l1 l0 HL.out.2.2.2.1 HL.out.2.2.2.2.1 HL.out.2.2.2.2.2) ?_); rintro e w5 ⟨rfl, O'⟩; simp only [List.set] at O'; have O := hide O'; clear O') | (go_at_call 18; (with_reducible refine calls_mono2 (div_own (X := u * ((k : Int) + 1)) (Y := v) O.out 2 3 0 l2 l3 l0 HL.out.2.2.2.1 HL.out.2.2.2.2.1 HL.out.2.2.2.2.2) ?_); rintro e w5 ⟨rfl, O'⟩; simp only [List.set] at O'; have O := hide O'; clear O') | (go_at_call 18; (with_reducible refine calls_mono2 (div_own (X := u * ((k : Int) + 1)) (Y := v) O.out 1 3 0 l1 l3 l0 HL.out.2.2.2.1 HL.out.2.2.2.2.1 HL.out.2.2.2.2.2) ?_); rintro e w5 ⟨rfl, O'⟩; simp only [List.set] at O'; have O := hide O'; clear O') | (go_at_call 18; (with_reducible refine calls_mono2 (div_own (X := u * ((k : Int) + 1)) (Y := v) O.out.new 0 3 1 l0 l3 l1 HL.out.2.2.2.1 HL.out.2.2.2.2.1 HL.out.2.2.2.2.2) ?_); rintro e w5 ⟨rfl, O'⟩; simp only [List.set] at O'; have O := hide O'; clear O') | (go_at_call 18; (with_reducible refine calls_mono2 (div_own (X := u * ((k : Int) + 1)) (Y := v) O.out 3 2 0 l3 l2 l0 HL.out.2.2.2.1 HL.out.2.2.2.2.1 HL.out.2.2.2.2.2) ?_); rintro e w5 ⟨rfl, O'⟩; simp only [List.set] at O'; have O := hide O'; clear O') | (go_at_call 18; (with_reducible refine calls_mono2 (div_own (X := u * ((k : Int) + 1)) (Y := v) O.out 3 1 0 l3 l1 l0 HL.out.2.2.2.1 HL.out.2.2.2.2.1 HL.out.2.2.2.2.2) ?_); rintro e w5 ⟨rfl, O'⟩; simp only [List.set] at O'; have O := hide O'; clear O') | (go_at_call 18; (with_reducible refine calls_mono2 (div_own (X := u * ((k : Int) + 1)) (Y := v) O.out 1 2 0 l1 l2 l0 HL.out.2.2.2.1 HL.out.2.2.2.2.1 HL.out.2.2.2.2.2) ?_); rintro e w5 ⟨rfl, O'⟩; simp only [List.set] at O'; have O := hide O'; clear O') | (go_at_call 18; (with_reducible refine calls_mono2 (div_own (X := u * ((k : Int) + 1)) (Y := v) O.out.new 0 2 1 l0 l2 l1 HL.out.2.2.2.1 HL.out.2.2.2.2.1 HL.out.2.2.2.2.2) ?_); rintro e w5 ⟨rfl, O'⟩; simp only [List.set] at O'; have O := hide O'; clear O') | (go_at_call 18; (with_reducible refine calls_mono2 (div_own (X := u * ((k : Int) + 1)) (Y := v) O.out 2 1 0 l2 l1 l0 HL.out.2.2.2.1 HL.out.2.2.2.2.1 HL.out.2.2.2.2.2) ?_); rintro e w5 ⟨rfl, O'⟩; simp only [List.set] at O'; have O := hide O'; clear O'))
        all_goals
          go_wp2_with fail
          go_meet
          first
            | exact ⟨_, rfl, hide (O.out.at_ 0 _ _ l0), hide (O.out.lo 0 _ _ l0), hide O.out.bel⟩
            | exact ⟨_, rfl, hide (O.out.at_ 1 _ _ l1), hide (O.out.lo 1 _ _ l1), hide O.out.bel⟩
            | exact ⟨_, rfl, hide (O.out.at_ 2 _ _ l2), hide (O.out.lo 2 _ _ l2), hide O.out.bel⟩
            | exact ⟨_, rfl, hide (O.out.at_ 3 _ _ l3), hide (O.out.lo 3 _ _ l3), hide O.out.bel⟩
            | exact ⟨_, rfl, hide (O.out.at_ 4 _ _ l4), hide (O.out.lo 4 _ _ l4), hide O.out.bel⟩
      case rest =>
        obtain ⟨z, rfl, HI, HZ, HBW⟩ := hcut
        obtain ⟨w5, rfl⟩ : ∃ Z, Z = wc := ⟨_, rfl⟩
        have HX5 := hide (HX.out.below HBW.out)
        have HB5 := hide (HB.out.below HBW.out)
        have hub := HUB.out
        have hz0 : w.heap.size + 1 < z := by have := HX.out.r.lt; have := HZ.out; omega
        have HRB := hide (r_bounds HUV.out.1 HUV.out.2.1 (show k < 300 by omega))
        have HBL := hide HB.out.lt
        obtain ⟨W6, hW6⟩ : ∃ Z, w5.alloc (.cells #[.bool false, .slice none 0 0, .bool false, .slice none 0 0] 51) = Z := ⟨_, rfl⟩
        obtain ⟨r, hr⟩ : ∃ r, w5.heap.size = r := ⟨_, rfl⟩
        have b6 : Below w5.heap.size w5 W6 := by rw [← hW6]; exact bel_new _ _
        have hR6 : RBlkAny W6 r := by rw [← hW6, ← hr]; exact ⟨_, _, _, _, blk_new _ _ _⟩
        have hzr : z < r := by have := HI.out.lt; omega
        have HX6 := hide (HX5.out.below b6)
        have HB6 := hide (HB5.out.below b6)
        have HI6 := hide (HI.out.below b6)
        have HR6 := hide hR6
        have HZ0 := hide (And.intro hz0 (And.intro hzr HZ.out))
        have CB1 := hide (b_any 1 W6 (by omega) (by omega))
        have HLM := hide (show (u * ((k : Int) + 1) / v).natAbs < lim ∧ (1 : Int).natAbs < lim ∧ (u * ((k : Int) + 1) / v + 1).natAbs < lim ∧ ((k : Int) + 1).natAbs < lim from by
          have h1 : (u * ((k : Int) + 1) / v + 1).natAbs ≤ 300000001 := hub.1
          exact ⟨lim_u64 (by omega), lim_u64 (by omega), lim_u64 (by omega), lim_u64 (by omega)⟩)
        clear KF O HX HB HI HZ HX5 HB5 hub hz0 hzr b6 hR6 HUB
        go_wp2_with fail
        (try rw [hW6])
        (try rw [hr])
        refine CB1.out.mono ?_
        rintro e w7 ⟨g1, rfl, _, i1, b7⟩
        have HX7 := hide (HX6.out.below b7)
        have HB7 := hide (HB6.out.below b7)
        have HR7 := hide (HR6.out.below b7)
        have hi7 := HI6.out.below b7
        have CA := hide (add_int z z g1 (u * ((k : Int) + 1) / v) 1 w7 hi7.blk hi7 i1 HLM.out.1 HLM.out.2.1 HLM.out.2.2.1)
        have HI7 := hide hi7
        clear i1 b7 CB1 HX6 HB6 HR6 HI6 hi7 hW6 hr
        go_wp2_with fail
        refine CA.out.mono ?_
        rintro e w8 ⟨rfl, i8, g8⟩
        have k8 := WordsKept.of_grown g8 HI7.out.blk
        have HX8 := hide (HX7.out.grown g8 HZ0.out.1)
        have HB8 := hide (HB7.out.grown g8 k8 HBL.out HZ0.out.2.2)
        have HR8 := hide (HR7.out.grown g8 (by have := HZ0.out.2.1; omega))
        have HI8 := hide i8
        have CB2 := hide (b_any ((k : Int) + 1) w8 HK.out.1 HK.out.2)
        clear i8 g8 k8 CA HX7 HB7 HR7 HI7
        go_wp2_with fail
        refine CB2.out.mono ?_
        rintro e w9 ⟨g2, rfl, _, i2, b9⟩
        have HX9 := hide (HX8.out.below b9)
        have HB9 := hide (HB8.out.below b9)
        have hr9 := HR8.out.below b9
        have hi9 := HI8.out.below b9
        have CS : Hid (Calls Tryz.prog 21 #[.pointer (some ⟨r, 0, none⟩), .pointer (some ⟨z, 0, none⟩), .pointer (some ⟨g2, 0, none⟩)] w9 (RetRat w9 r (rUp u v k) (rDn u v k))) := hide (setFrac_pos r z g2 (upc u v ((k : Int) + 1)) ((k : Int) + 1) w9 hr9 hi9 i2 (by omega) HLM.out.2.2.1 HLM.out.2.2.2)
        have HR9 := hide hr9
        clear i2 b9 CB2 HX8 HB8 HR8 HI8 hr9 hi9
        go_wp2_with fail
        refine CS.out.mono ?_
        rintro e w10 ⟨rfl, r10, g10⟩
        have k10 := HR9.out.words g10
        have HX10 := hide (HX9.out.grown g10 (by have := HZ0.out; omega))
        have HB10 := hide (HB9.out.grown g10 k10 HBL.out (by have := HZ0.out; omega))
        have HR10 := hide r10
        clear r10 g10 k10 CS HX9 HB9 HR9
        rcases HB10.out with ⟨h0, rfl⟩ | ⟨hk1, g, P, Q, rfl, hrat, hbest, hP, hQ⟩
        · have HF := hide (BestAt.first h0 HR10.out HRB.out)
          have I7 : wrap64 ((k : Int) + 1 + 1) = ((k + 1 : Nat) : Int) + 1 := by unfold wrap64; omega
          clear h0 hkn
          go_wp2_with fail
          (try simp only [I7])
          exact ⟨⟨k + 1, HKN.out, rfl, HF, HX10⟩, by have := HKN.out; simp only [intOf]; omega⟩
        · have HBT := hide hbest
          have HRAT := hide hrat
          have HPQ := hide (And.intro hP hQ)
          have hq1 := hbest.q1
          have CC := hide (ratcmp_any r g _ _ P Q w10 HR10.out hrat (lim_u64 (by have := HRB.out; omega)) (lim_u64 (by omega)) (lim_u64 (by have := HRB.out; omega)) (lim_u64 (by omega)) (lim_u64 (by
            have h1 := Nat.mul_le_mul (show (rUp u v k).natAbs ≤ 1000000000 from HRB.out.1) (show Q.natAbs ≤ 300 by omega)
            rw [Int.natAbs_mul]; omega)) (lim_u64 (by
            have h1 := Nat.mul_le_mul hP (show (rDn u v k).natAbs ≤ 300 by have := HRB.out; omega)
            rw [Int.natAbs_mul]; omega)))
          have I7 : wrap64 ((k : Int) + 1 + 1) = ((k + 1 : Nat) : Int) + 1 := by unfold wrap64; omega
          clear hrat hbest hP hQ hq1 hk1 hkn
          by_cases hlt : rUp u v k * Q < P * rDn u v k
          · have hc : icmp (rUp u v k * Q) (P * rDn u v k) = -1 := by unfold icmp; rw [if_pos hlt]
            rw [hc] at CC
            have HF := fun W (h : RatAt W r (rUp u v k) (rDn u v k)) => hide (BestAt.less h HRB.out HBT.out hlt)
            clear hlt hc HB10
            go_wp2_with fail
            refine CC.out.mono ?_
            rintro e w11 ⟨rfl, hb⟩
            have HF2 := hide (HF w11 (HR10.out.below hb)).out
            have HX11 := hide (HX10.out.below hb)
            clear hb CC HF
            go_wp2_with fail
            (try simp only [I7])
            exact ⟨⟨k + 1, HKN.out, rfl, HF2, HX11⟩, by have := HKN.out; simp only [intOf]; omega⟩
          · have hc : decide (icmp (rUp u v k * Q) (P * rDn u v k) < 0) = false := by
              unfold icmp
              rw [if_neg hlt]
              by_cases h2 : P * rDn u v k < rUp u v k * Q
              · rw [if_pos h2]; rfl
              · rw [if_neg h2]; rfl
            obtain ⟨cc, hcc⟩ : ∃ cc, icmp (rUp u v k * Q) (P * rDn u v k) = cc := ⟨_, rfl⟩
            rw [hcc] at CC hc
            have HF := fun W (h : RatAt W g P Q) => hide (BestAt.keep h HPQ.out.1 HPQ.out.2 HBT.out hlt)
            clear hlt hcc HB10
            go_wp2_with fail
            refine CC.out.mono ?_
            rintro e w11 ⟨rfl, hb⟩
            have HF2 := hide (HF w11 (HRAT.out.below hb)).out
            have HX11 := hide (HX10.out.below hb)
            clear hb CC HF
            go_wp2_with fail
            (try simp only [I7])
            exact ⟨⟨k + 1, HKN.out, rfl, HF2, HX11⟩, by have := HKN.out; simp only [intOf]; omega⟩
    · obtain rfl : k = n := by omega
      rcases HB.out with ⟨h0, _⟩ | ⟨_, g, P, Q, rfl, hr, hbest, hP, hQ⟩
      · have := HN.out.1; omega
      · have HE := hide hbest
        have hq1 := hbest.q1
        have CN := hide (num_any g wo)
        have C64 := hide (int64_in 0 g P wo hr.num (by omega) (by omega))
        have CD := hide (denom_any g P Q wo hr (lim_u64 (by omega)))
        have C65 := fun q W (h : IntAt W q Q) => hide (int64_int q Q W h (by omega) (by omega))
        have q1 : decide ((k : Int) + 1 ≤ (k : Int)) = false := by rw [decide_eq_false_iff_not]; omega
        clear hr hbest hP hQ hq1 hkn hk hn2
        go_wp2_with fail
        refine CN.out.mono ?_
        rintro e w5 ⟨rfl, rfl⟩
        go_wp2_with fail
        refine C64.out.mono ?_
        rintro e w5 ⟨rfl, rfl⟩
        go_wp2_with fail
        refine CD.out.mono ?_
        rintro e w5 ⟨q, rfl, _, hi, hb⟩
        have CI := hide (C65 q w5 hi).out
        have HX5 := hide (HX.out.below hb)
        clear hi hb CN C64 CD C65 HB HX
        go_wp2_with fail
        refine CI.out.mono ?_
        rintro e w6 ⟨rfl, rfl⟩
        obtain ⟨r0, r1, r2, r3⟩ := HX5.out.r.cells
        have HBB := hide HX5.out.b
        have HRL := hide HX5.out.r.lt
        have HW5 := hide HX5.out.r
        clear CI HX5
        go_wp2_with fail
        obtain ⟨G0, G1, _, _⟩ := (HW5.out.put P Q).cells
        exact bodyPost_ret (v := .agg #[.int .i64 P, .int .i64 Q]) (by simp [results, Tryz.results8, go_sem, G0, G1]) rfl ⟨P, Q, rfl, HE.out, (HBB.out.setCell (p := ⟨w.heap.size + 1, 0, none⟩) (Nat.le_succ _) (.int .i64 P)).setCell (p := ⟨w.heap.size + 1, 1, none⟩) (Nat.le_succ _) (.int .i64 Q)⟩
end Go.Proofs.YtojehmmkdkfkjaaGreatDoor
