/- The walk of the law FormGenera. -/
import Derived.Test.YtkfjjljdhfjpbaaKGenM
import Derived.Test.YtkfjjljdhfjpbaaKGenK
import Derived.Test.YtkfjjljdhfjpbaaKGenG
import Derived.Test.YtkfjjljdhfjpbaaKFormE
import Derived.Test.YtkfjjljdhfjpbaaKOfW
namespace Go.Proofs.Ytkfjjljdhfjpbaa
open Go.RowKit
open GN

structure GnS (w W : World) (a b c : Int) : Prop where
  f : MC W w.heap.size a b c
  b : Below w.heap.size w W
theorem GnS.start (w : World) (a b c : Int) : GnS w (w.alloc (.cells #[.int .i64 a, .int .i64 b, .int .i64 c] 23)) a b c := ⟨MC.made w a b c, (Below.refl _ _).alloc (Nat.le_refl _) _⟩
theorem GnS.below {w W W' : World} {a b c : Int} (h : GnS w W a b c) (k : Below W.heap.size W W') : GnS w W' a b c := ⟨h.f.below k, h.b.trans (k.mono h.b.size)⟩
structure GnE (w W : World) (q1 : Nat) (a b c k m : Int) : Prop where
  f : MC W w.heap.size a b c
  e : FC W q1 k m
  b : Below w.heap.size w W
  l1 : w.heap.size < q1
theorem GnS.e {w W : World} {a b c : Int} (h : GnS w W a b c) (k m : Int) : GnE w (W.alloc (.cells #[.int .i64 k, .int .i64 m] 26)) W.heap.size a b c k m :=
  ⟨h.f.below (bel_obj _ _), FC.made W k m, h.b.alloc h.b.size _, h.f.lt⟩
theorem GnE.below {w W W' : World} {q1 : Nat} {a b c k m : Int} (h : GnE w W q1 a b c k m) (kb : Below W.heap.size W W') : GnE w W' q1 a b c k m := ⟨h.f.below kb, h.e.below kb, h.b.trans (kb.mono h.b.size), h.l1⟩
structure GnB (w W : World) (q1 q2 : Nat) (a b c k m k2 m2 : Int) : Prop where
  f : MC W w.heap.size a b c
  e : FC W q1 k m
  v : FC W q2 k2 m2
  b : Below w.heap.size w W
  l1 : w.heap.size < q1
  l2 : q1 < q2
theorem GnE.v {w W : World} {q1 : Nat} {a b c k m : Int} (h : GnE w W q1 a b c k m) (k2 m2 : Int) : GnB w (W.alloc (.cells #[.int .i64 k2, .int .i64 m2] 26)) q1 W.heap.size a b c k m k2 m2 :=
  ⟨h.f.below (bel_obj _ _), h.e.below (bel_obj _ _), FC.made W k2 m2, h.b.alloc h.b.size _, h.l1, h.e.lt⟩
theorem GnB.below {w W W' : World} {q1 q2 : Nat} {a b c k m k2 m2 : Int} (h : GnB w W q1 q2 a b c k m k2 m2) (kb : Below W.heap.size W W') : GnB w W' q1 q2 a b c k m k2 m2 := ⟨h.f.below kb, h.e.below kb, h.v.below kb, h.b.trans (kb.mono h.b.size), h.l1, h.l2⟩
theorem GnB.set {w W : World} {q1 q2 : Nat} {a b c k m k2 m2 : Int} (h : GnB w W q1 q2 a b c k m k2 m2) (x y : Int) : GnB w ((W.setCell ⟨q2, 0, none⟩ (.int .i64 x)).setCell ⟨q2, 1, none⟩ (.int .i64 y)) q1 q2 a b c k m x y := by
  have l1 := h.l1
  have l2 := h.l2
  refine ⟨?_, ?_, (h.v.set0 x).set1 y, (h.b.setCell (p := ⟨q2, 0, none⟩) (Nat.le_of_lt (Nat.lt_trans l1 l2)) (.int .i64 x)).setCell (p := ⟨q2, 1, none⟩) (Nat.le_of_lt (Nat.lt_trans l1 l2)) (.int .i64 y), l1, l2⟩
  · exact (Below.heap_setCell _ ⟨q2, 1, none⟩ _ _ (by simp; omega)).trans ((Below.heap_setCell _ ⟨q2, 0, none⟩ _ _ (by simp; omega)).trans h.f)
  · exact (Below.heap_setCell _ ⟨q2, 1, none⟩ _ _ (by simp; omega)).trans ((Below.heap_setCell _ ⟨q2, 0, none⟩ _ _ (by simp; omega)).trans h.e)
theorem GnB.sete {w W : World} {q1 q2 : Nat} {a b c k m k2 m2 : Int} (h : GnB w W q1 q2 a b c k m k2 m2) (x y : Int) : GnB w ((W.setCell ⟨q1, 0, none⟩ (.int .i64 x)).setCell ⟨q1, 1, none⟩ (.int .i64 y)) q1 q2 a b c x y k2 m2 := by
  have l1 := h.l1
  have l2 := h.l2
  refine ⟨?_, (h.e.set0 x).set1 y, ?_, (h.b.setCell (p := ⟨q1, 0, none⟩) (Nat.le_of_lt l1) (.int .i64 x)).setCell (p := ⟨q1, 1, none⟩) (Nat.le_of_lt l1) (.int .i64 y), l1, l2⟩
  · exact (Below.heap_setCell _ ⟨q1, 1, none⟩ _ _ (by simp; omega)).trans ((Below.heap_setCell _ ⟨q1, 0, none⟩ _ _ (by simp; omega)).trans h.f)
  · exact (Below.heap_setCell _ ⟨q1, 1, none⟩ _ _ (by simp; omega)).trans ((Below.heap_setCell _ ⟨q1, 0, none⟩ _ _ (by simp; omega)).trans h.v)
theorem NRow.off {w : World} {base q : Nat} {v : Value} {L : List Nat} (h : NRow w base v L) (hq : ∀ k, v.ownBlock = some k → k ≠ q) (i : Nat) (u : Value) : NRow (w.setCell ⟨q, i, none⟩ u) base v L := by
  obtain ⟨h1, h2⟩ := h
  refine ⟨h1, ?_⟩
  rcases h2 with h2 | ⟨k, cap, cur, hv, hk, hh, z⟩
  · exact .inl h2
  · exact .inr ⟨k, cap, cur, hv, hk, by rw [Below.heap_setCell _ _ _ _ (hq k (by rw [hv]; rfl))]; exact hh, z⟩
/-- the cells of a form in a slice of forms -/
theorem Forms.read {w : World} {base : Nat} {v : Value} {l : List (Int × Int × Int)} (h : Forms w base v l) :
    ∃ A c, v = .slice A l.length c ∧ ∀ j f, l[j]? = some f → ∃ g, A = some ⟨g, 0, none⟩ ∧ g < w.heap.size ∧ w.cell? ⟨g, j * 3, none⟩ = some (.int .i64 f.1) ∧ w.cell? ⟨g, j * 3 + 1, none⟩ = some (.int .i64 f.2.1) ∧ w.cell? ⟨g, j * 3 + 2, none⟩ = some (.int .i64 f.2.2) := by
  have hc := fun g (hg : v.ownBlock = some g) => h.cells hg
  obtain ⟨_, h2⟩ := h
  rcases h2 with ⟨rfl, h2⟩ | ⟨g, cap, cur, rfl, hg, hh, _⟩
  · rw [List.eq_nil_of_length_eq_zero h2]
    exact ⟨none, 0, rfl, fun j f hf => by simp at hf⟩
  · refine ⟨_, cap, rfl, fun j f hf => ⟨g, rfl, heap_lt hh, ?_⟩⟩
    obtain ⟨h1, h2, h3⟩ := fcs_get l j f hf
    have hcc := hc g rfl
    have ea : ∀ k, (⟨g, 0, none⟩ : Addr).add k = ⟨g, k, none⟩ := by
      intro k
      by_cases hk : k = 0 <;> simp [Addr.add, hk]
    have e : ∀ k u, (fcs l)[k]? = some u → w.cell? ⟨g, k, none⟩ = some u := fun k u h => by rw [← ea]; exact hcc k u h
    exact ⟨e _ _ h1, e _ _ h2, e _ _ h3⟩

set_option maxRecDepth 100000 in
set_option maxHeartbeats 6400000 in
theorem genera_c1 (a b c : Int) (w : World) (h : (formF a b c).1 ≠ 0) : Calls Try.prog 3 #[.agg #[.int .i64 a, .int .i64 b, .int .i64 c]] w fun e w' => e = .returned (.bool true) ∧ Below w.heap.size w w' := by
  obtain ⟨k, m, hkm⟩ : ∃ k m, formF a b c = (k, m) := ⟨_, _, rfl⟩
  have hk : k ≠ 0 := by rw [hkm] at h; exact h
  have CP := fun W => hide (Genus_bad a b c W k m hkm hk)
  simp only [fv] at CP
  have CF := fun W => hide (formFault_any a b c W)
  unfold RetFault at CF
  rw [hkm] at CF
  simp only [fv] at CF
  have k1 : (k != 0) = true := by simpa using hk
  have k2 : (k == 0) = false := by simpa using hk
  have k3 : decide (k = 0) = false := by simpa using hk
  clear h hkm hk
  have CB := fun W => hide (formBegun_any W)
  have H0 := hide (GnS.start w a b c)
  go_enter Try.func3, Try.ntmps3
  go_wp2_with fail
  refine (CP _).out.mono ?_
  rintro e w1 ⟨rfl, hb⟩
  have H1 := hide ((H0.out.below hb).e k m)
  clear hb H0 CP
  go_upto_region 2 with (fail)
  obtain ⟨W1, hW⟩ : ∃ Z, w1.alloc (.cells #[.int .i64 k, .int .i64 m] 26) = Z := ⟨_, rfl⟩
  rw [hW] at H1
  (try rw [hW])
  obtain ⟨q1, hq⟩ : ∃ q, w1.heap.size = q := ⟨_, rfl⟩
  rw [hq] at H1
  (try rw [hq])
  clear hW hq
  obtain ⟨f0, f1, f2⟩ := H1.out.f.cells
  go_wp2_with fail
  refine (CF _).out.mono ?_
  rintro e w2 ⟨rfl, hb⟩
  have H2 := hide ((H1.out.below hb).v k m)
  clear hb H1 CF f0 f1 f2
  go_upto_region 3 with (fail)
  obtain ⟨W2, hW⟩ : ∃ Z, w2.alloc (.cells #[.int .i64 k, .int .i64 m] 26) = Z := ⟨_, rfl⟩
  rw [hW] at H2
  (try rw [hW])
  obtain ⟨q2, hq⟩ : ∃ q, w2.heap.size = q := ⟨_, rfl⟩
  rw [hq] at H2
  (try rw [hq])
  clear hW hq
  obtain ⟨v0, v1, _, _⟩ := H2.out.v.cells
  go_wp2_with fail
  refine (CB _).out.mono ?_
  rintro e w3 ⟨rfl, hb⟩
  have H3 := hide (H2.out.below hb)
  clear hb H2 v0 v1 CB
  obtain ⟨v0, v1, _, _⟩ := H3.out.v.cells
  obtain ⟨e0, e1, _, _⟩ := H3.out.e.cells
  go_wp2_with fail
  go_ret
  exact ⟨rfl, H3.out.b⟩

set_option maxRecDepth 100000 in
set_option maxHeartbeats 6400000 in
theorem genera_c2 (a b c : Int) (w : World) (h : (formF a b c).1 = 0) (hn : b * b - 4 * a * c < -2000) : Calls Try.prog 3 #[.agg #[.int .i64 a, .int .i64 b, .int .i64 c]] w fun e w' => e = .returned (.bool true) ∧ Below w.heap.size w w' := by
  have z := formF_zero h
  obtain ⟨D, hD⟩ : ∃ D, b * b - 4 * a * c = D := ⟨_, rfl⟩
  rw [hD] at hn
  have hDl : -4000000000000 ≤ D := by
    have e1 := sq_nn b
    have e2 := mul_le_of (x := a) (y := c) (N := 1000000) (M := 1000000) (by omega) (by omega) (by omega) (by omega)
    rw [Int.mul_assoc 4 a c] at hD
    omega
  have CP := fun W => hide (Genus_many a b c D W z.1 (by omega) (by omega) (by omega) hD (by omega) hn)
  simp only [fv] at CP
  have CF := fun W => hide (formFault_any a b c W)
  unfold RetFault at CF
  rw [z.1] at CF
  simp only [fv] at CF
  have CD := fun W => hide (rdisc_any a b c W (by omega) (by omega) (by omega))
  rw [hD] at CD
  have CE := fun W => hide (refF_any 2 0 W)
  have h0 : decide (D < -2000) = true := by simpa using hn
  clear h hn z hD hDl
  have CB := fun W => hide (formBegun_any W)
  have H0 := hide (GnS.start w a b c)
  go_enter Try.func3, Try.ntmps3
  go_wp2_with fail
  refine (CP _).out.mono ?_
  rintro e w1 ⟨rfl, hb⟩
  have H1 := hide ((H0.out.below hb).e 2 0)
  clear hb H0 CP
  go_upto_region 2 with (fail)
  obtain ⟨W1, hW⟩ : ∃ Z, w1.alloc (.cells #[.int .i64 2, .int .i64 0] 26) = Z := ⟨_, rfl⟩
  rw [hW] at H1
  (try rw [hW])
  obtain ⟨q1, hq⟩ : ∃ q, w1.heap.size = q := ⟨_, rfl⟩
  rw [hq] at H1
  (try rw [hq])
  clear hW hq
  obtain ⟨f0, f1, f2⟩ := H1.out.f.cells
  go_wp2_with fail
  refine (CF _).out.mono ?_
  rintro e w2 ⟨rfl, hb⟩
  have H2 := hide ((H1.out.below hb).v 0 0)
  clear hb H1 CF f0 f1 f2
  go_upto_region 3 with (fail)
  obtain ⟨W2, hW⟩ : ∃ Z, w2.alloc (.cells #[.int .i64 0, .int .i64 0] 26) = Z := ⟨_, rfl⟩
  rw [hW] at H2
  (try rw [hW])
  obtain ⟨q2, hq⟩ : ∃ q, w2.heap.size = q := ⟨_, rfl⟩
  rw [hq] at H2
  (try rw [hq])
  clear hW hq
  obtain ⟨v0, v1, v2, v3⟩ := H2.out.v.cells
  obtain ⟨f0, f1, f2⟩ := H2.out.f.cells
  go_wp2_with fail
  refine (CD _).out.mono ?_
  rintro e w3 ⟨rfl, hb⟩
  have H3 := hide (H2.out.below hb)
  clear hb H2 CD f0 f1 f2 v0 v1 v2 v3
  obtain ⟨v0, v1, v2, v3⟩ := H3.out.v.cells
  go_wp2_with fail
  refine (CE _).out.mono ?_
  rintro e w3' ⟨rfl, hb⟩
  have H4 := hide ((H3.out.below hb).set 2 0)
  clear v0 v1 v2 v3
  obtain ⟨v0, v1, v2, v3⟩ := (H3.out.below hb).v.cells
  clear hb
  go_upto_region 5 with (fail)
  obtain ⟨W3, hW⟩ : ∃ Z, (w3'.setCell ⟨q2, 0, none⟩ (.int .i64 2)).setCell ⟨q2, 1, none⟩ (.int .i64 0) = Z := ⟨_, rfl⟩
  rw [hW] at H4
  (try rw [hW])
  clear hW v0 v1 v2 v3
  go_wp2_with fail
  refine (CB _).out.mono ?_
  rintro e w4 ⟨rfl, hb⟩
  have H5 := hide (H4.out.below hb)
  clear hb H3 H4 CB
  obtain ⟨v0, v1, _, _⟩ := H5.out.v.cells
  obtain ⟨e0, e1, _, _⟩ := H5.out.e.cells
  go_wp2_with fail
  go_ret
  exact ⟨rfl, H5.out.b⟩

set_option maxRecDepth 100000 in
set_option maxHeartbeats 6400000 in
theorem genera_c3 (a b c : Int) (w : World) (h : (formF a b c).1 = 0) (hn : -2000 ≤ b * b - 4 * a * c) : Calls Try.prog 3 #[.agg #[.int .i64 a, .int .i64 b, .int .i64 c]] w fun e w' => e = .returned (.bool true) ∧ Below w.heap.size w w' := by
  have z := formF_zero h
  obtain ⟨d, hd⟩ : ∃ d : Nat, b * b - 4 * a * c = -(d : Int) := ⟨(-(b * b - 4 * a * c)).toNat, by have := z.2.2.2.2.2.2.1; omega⟩
  have hmod := disc_mod hd.symm
  have hd3 : 3 ≤ d := by have := z.2.2.2.2.2.2.1; omega
  have hd2 : d ≤ 2000 := by omega
  have hac : -(d : Int) = b * b - 4 * (a * c) := by rw [← hd, Int.mul_assoc]
  have hfn := first_nums hac (by omega) (by omega)
  have hff := first_form hac (by omega) (by omega)
  have CG1 := fun W => hide (Genus_main 1 (sg (-(d : Int))) (c0 (-(d : Int))) d W hff (by omega) (by have := hfn.2.1; omega) (by have := hfn.2.2.2.1; omega) (by omega) hfn.2.2.1 (by have := hfn.1; omega) (by omega) hd2)
  have CFi := fun W => hide (first_any (-(d : Int)) W (by omega) (by omega))
  have hs0 : sg (-(d : Int)) = ((d % 2 : Nat) : Int) ∧ c0 (-(d : Int)) = (((d + d % 2) / 4 : Nat) : Int) := by
    obtain ⟨k1, k2, _⟩ := hfn
    rcases k2 with k2 | k2
    · rw [k2] at k1 ⊢
      omega
    · rw [k2] at k1 ⊢
      omega
  obtain ⟨S0, hS0⟩ : ∃ S0, sg (-(d : Int)) = S0 := ⟨_, rfl⟩
  obtain ⟨C0, hC0⟩ : ∃ C0, c0 (-(d : Int)) = C0 := ⟨_, rfl⟩
  rw [hS0, hC0] at hs0
  simp only [hS0, hC0] at CG1 CFi
  have CP := fun W => hide (Genus_main a b c d W z.1 (by omega) (by omega) (by omega) z.2.2.2.2.1 z.2.2.2.2.2.1 hd (by omega) hd2)
  simp only [fv] at CP CG1
  have CF := fun W => hide (formFault_any a b c W)
  unfold RetFault at CF
  rw [z.1] at CF
  simp only [fv] at CF
  have CD := fun W => hide (rdisc_any a b c W (by omega) (by omega) (by omega))
  rw [hd] at CD
  have CGO := hide (fun (h4 : d ≤ 400) (W : World) => genusOf_any a b c d W (by omega) h4 hd.symm (by omega) (by omega) (by omega))
  have CR := fun W => hide (reducedOf_any a b c (-(d : Int)) W (OInv.start z.2.2.2.2.1 z.2.2.2.2.2.1 (by omega) (by omega) hd.symm) (by omega) (by omega))
  unfold RetOf at CR
  have CC := fun W => hide (classesOf_any (-(d : Int)) W (by omega) (by omega))
  unfold RetClOf at CC
  have HGN := hide (fun (n : Nat) (A B C : Int) (hn : (d : Int) < 3 * ((n : Int) + 1) * ((n : Int) + 1)) (r : RedF A B C) (o : OInv (-(d : Int)) a b c A B C) => by
    have hg : Int.gcd A (Int.gcd B C) = 1 := by
      have h1 : ((Int.gcd A (Int.gcd B C) : Nat) : Int) ∣ A := Int.gcd_dvd_left ..
      have h2 : ((Int.gcd A (Int.gcd B C) : Nat) : Int) ∣ ((Int.gcd B C : Nat) : Int) := Int.gcd_dvd_right ..
      obtain ⟨j1, j2, j3⟩ := (o.g _).1 ⟨h1, Int.dvd_trans h2 (Int.gcd_dvd_left ..), Int.dvd_trans h2 (Int.gcd_dvd_right ..)⟩
      have j4 := Int.dvd_coe_gcd j1 (Int.dvd_coe_gcd j2 j3)
      rw [z.2.2.2.2.2.2.2] at j4
      have j5 : Int.gcd A (Int.gcd B C) ∣ 1 := by exact_mod_cast j4
      exact Nat.dvd_one.1 j5
    exact genera hd3 hd2 hmod hn (by have := z.2.2.2.2.1; omega) hd.symm r o.d hg o.sim)
  rw [← hs0.1, ← hs0.2] at HGN
  have HCO := hide (fun (n : Nat) (x y u : Int) (hn : (d : Int) < 3 * ((n : Int) + 1) * ((n : Int) + 1)) (ht : (x, y, u) ∈ allF (-(d : Int)) n) (W : World) => by
    have hc := (mem_cls hn).1 ht
    have hf := form_ok hc.1 hc.2.1 (by omega) (by omega) hc.2.2
    exact Compose_good x y u x y u (-(d : Int)) W (by rw [hf]) (by rw [hf]) hc.2.1.symm hc.2.1.symm)
  have HST := hide (fun (L : List (Int × Int × Int)) (A B C x y u A' B' C' : Int) (i : Nat) (ht : L[i]? = some (x, y, u)) (rA : RedF A B C) (eA : -(d : Int) = B * B - 4 * A * C) (r : RedF A' B' C') (e : -(d : Int) = B' * B' - 4 * A' * C') (s : Sim (-(d : Int)) (Pr (-(d : Int)) (Lf x y) (Lf x y)) (Lf A' B')) => SqIn.step (show -(d : Int) < 0 by omega) ht rA eA r e s)
  have hlen : ∀ a b c : Int, (gset d a b c).length ≤ 10000 := fun a b c => by
    have : (gset d a b c).length ≤ (List.range d).length := List.length_filter_le _ _
    rw [List.length_range] at this
    omega
  have hl1 := hlen a b c
  have hl2 := hlen 1 S0 C0
  have hle : ∀ n : Nat, n ≤ 258 → (allF (-(d : Int)) n).length ≤ 1000000 := fun n hn => by
    have h7 := allF_len (-(d : Int)) n
    have h8 : n * (2 * n + 1) ≤ 260 * 521 := Nat.mul_le_mul (by omega) (by omega)
    omega
  have HLE := hide hle
  obtain ⟨L, hL⟩ : ∃ L, gset d a b c = L := ⟨_, rfl⟩
  obtain ⟨M0, hM⟩ : ∃ M, gset d 1 S0 C0 = M := ⟨_, rfl⟩
  simp only [hL] at CP CGO
  simp only [hM] at CG1
  rw [hL, hM] at HGN
  rw [hL] at hl1
  rw [hM] at hl2
  obtain ⟨D, hDD⟩ : ∃ D : Int, -(d : Int) = D := ⟨_, rfl⟩
  simp only [hDD] at CFi CD CR CC HGN HCO HST HLE
  have g0 : decide (D < -2000) = false := by rw [← hDD]; simp; omega
  have g1 : (d ≤ 400 ∧ decide (-400 ≤ D) = true) ∨ decide (-400 ≤ D) = false := by
    rw [← hDD]
    by_cases h4 : d ≤ 400
    · exact .inl ⟨h4, by rw [decide_eq_true_eq]; omega⟩
    · exact .inr (by rw [decide_eq_false_iff_not]; omega)
  have HDD := hide hDD
  have HL1 := hide hl1
  have HL2 := hide hl2
  clear h hn z hmod hd3 hd2 hd hac hfn hff hs0 hS0 hC0 hlen hl1 hl2 hL hM hDD hle
  have CB := fun W => hide (formBegun_any W)
  have H0 := hide (GnS.start w a b c)
  go_enter Try.func3, Try.ntmps3
  go_wp2_with fail
  refine (CP _).out.mono ?_
  rintro e w1 ⟨l, rfl, hr, hb⟩
  obtain ⟨n1, hn1⟩ : ∃ n, (w.alloc (.cells #[.int .i64 a, .int .i64 b, .int .i64 c] 23)).heap.size = n := ⟨_, rfl⟩
  rw [hn1] at hr
  have H1 := hide ((H0.out.below hb).e 0 0)
  have HRO := hide (fun k (hk : l.ownBlock = some k) => (hr.lt k hk).2)
  have R1 := hide (hr.below (bel_obj _ (.cells #[.int .i64 0, .int .i64 0] 26)))
  clear hb hr hn1 H0 CP
  go_upto_region 2 with (fail)
  obtain ⟨W1, hW⟩ : ∃ Z, w1.alloc (.cells #[.int .i64 0, .int .i64 0] 26) = Z := ⟨_, rfl⟩
  rw [hW] at H1 R1
  (try rw [hW])
  obtain ⟨q1, hq⟩ : ∃ q, w1.heap.size = q := ⟨_, rfl⟩
  rw [hq] at H1 HRO
  (try rw [hq])
  clear hW hq
  obtain ⟨f0, f1, f2⟩ := H1.out.f.cells
  go_wp2_with fail
  refine (CF _).out.mono ?_
  rintro e w2 ⟨rfl, hb⟩
  have H2 := hide ((H1.out.below hb).v 0 0)
  have R2 := hide ((R1.out.below hb).below (bel_obj _ (.cells #[.int .i64 0, .int .i64 0] 26)))
  clear hb H1 R1 CF f0 f1 f2
  go_upto_region 3 with (fail)
  obtain ⟨W2, hW⟩ : ∃ Z, w2.alloc (.cells #[.int .i64 0, .int .i64 0] 26) = Z := ⟨_, rfl⟩
  rw [hW] at H2 R2
  (try rw [hW])
  obtain ⟨q2, hq⟩ : ∃ q, w2.heap.size = q := ⟨_, rfl⟩
  rw [hq] at H2
  (try rw [hq])
  clear hW hq
  obtain ⟨v0, v1, v2, v3⟩ := H2.out.v.cells
  obtain ⟨f0, f1, f2⟩ := H2.out.f.cells
  go_wp2_with fail
  refine (CD _).out.mono ?_
  rintro e w3 ⟨rfl, hb⟩
  have H3 := hide (H2.out.below hb)
  have R3 := hide (R2.out.below hb)
  clear hb H2 R2 v0 v1 v2 v3 f0 f1 f2
  go_wp2_with fail
  refine (CB _).out.mono ?_
  rintro e w4 ⟨rfl, hb⟩
  have H4 := hide (H3.out.below hb)
  have R4 := hide (R3.out.below hb)
  clear hb H3 R3 CB g0
  obtain ⟨v0, v1, _, _⟩ := H4.out.v.cells
  obtain ⟨e0, e1, _, _⟩ := H4.out.e.cells
  obtain ⟨f0, f1, f2⟩ := H4.out.f.cells
  go_wp2_with fail
  refine (CD _).out.mono ?_
  rintro e w5 ⟨rfl, hb⟩
  have H5 := hide (H4.out.below hb)
  have R5 := hide (R4.out.below hb)
  clear hb H4 R4 CD v0 v1 e0 e1 f0 f1 f2
  obtain ⟨f0, f1, f2⟩ := H5.out.f.cells
  go_upto_region 10 with (fail)
  go_cut [53] (fun u wx => u = .bool false ∧ Hid (Below w5.heap.size w5 wx))
  case first => as_aux_lemma =>
    clear HGN HCO HST CFi CG1 CR CC
    rcases g1 with ⟨h4, g1⟩ | g1
    · have CG0 := fun W => hide (CGO.out h4 W)
      clear CGO h4
      go_wp2_with fail
      refine (CG0 _).out.mono ?_
      rintro e w6 ⟨l', rfl, hr, hb⟩
      have HB := hide hb
      have CI := hide (ints_nrow l l' L L _ _ w6 ((R5.out.below hb)) hr HL1.out HL1.out)
      clear hb hr CG0
      go_wp2_with fail
      refine CI.out.mono ?_
      rintro e w7 ⟨rfl, hb⟩
      have HB2 := hide (HB.out.trans (hb.mono HB.out.size))
      clear hb CI
      go_wp2_with fail
      go_meet
      exact ⟨by simp, HB2⟩
    · go_wp2_with fail
      go_meet
      exact ⟨rfl, hide (Below.refl _ _)⟩
  case rest =>
    obtain ⟨rfl, HBX⟩ := hcut
    obtain ⟨w6, rfl⟩ : ∃ Z, Z = wc := ⟨_, rfl⟩
    have H6 := hide (H5.out.below HBX.out)
    have R6 := hide (R5.out.below HBX.out)
    clear HBX H5 R5 CGO g1 f0 f1 f2
    go_wp2_with fail
    refine (CFi _).out.mono ?_
    rintro e w7 ⟨rfl, hb⟩
    have H7 := hide (H6.out.below hb)
    have R7 := hide (R6.out.below hb)
    clear hb H6 R6 CFi
    go_wp2_with fail
    refine (CG1 _).out.mono ?_
    rintro e w8 ⟨l', rfl, hr, hb⟩
    have H8 := hide (H7.out.below hb)
    have R8 := hide (R7.out.below hb)
    have Q8 := hide hr
    have HQB := hide H7.out.e.lt
    clear hb hr H7 R7 CG1
    obtain ⟨e0, e1, e2, e3⟩ := H8.out.e.cells
    go_upto_region 13 with (fail)
    obtain ⟨W8, hW⟩ : ∃ Z, (w8.setCell ⟨q1, 0, none⟩ (.int .i64 0)).setCell ⟨q1, 1, none⟩ (.int .i64 0) = Z := ⟨_, rfl⟩
    have H9 := hide (H8.out.sete 0 0)
    have R9 := hide ((R8.out.off (fun k hk => Nat.ne_of_lt (HRO.out k hk)) 0 (.int .i64 0)).off (fun k hk => Nat.ne_of_lt (HRO.out k hk)) 1 (.int .i64 0))
    have Q9 := hide ((Q8.out.cell HQB.out 0 (.int .i64 0)).cell HQB.out 1 (.int .i64 0))
    rw [hW] at H9 R9 Q9
    (try rw [hW])
    clear hW e0 e1 e2 e3 H8 R8 Q8 HQB HRO
    obtain ⟨e0, e1, _, _⟩ := H9.out.e.cells
    obtain ⟨f0, f1, f2⟩ := H9.out.f.cells
    go_wp2_with fail
    refine (CR _).out.mono ?_
    rintro e w9 ⟨⟨A1, B1, C1, rfl, r1, o1⟩, hb⟩
    have B9 := hide (((H9.out.b.trans (hb.mono H9.out.b.size))).alloc ((H9.out.b.trans (hb.mono H9.out.b.size))).size (.cells #[.int .i64 A1, .int .i64 B1, .int .i64 C1] 23))
    have R10 := hide ((R9.out.below hb).below (bel_obj _ (.cells #[.int .i64 A1, .int .i64 B1, .int .i64 C1] 23)))
    have Q10 := hide ((Q9.out.below hb).below (bel_obj _ (.cells #[.int .i64 A1, .int .i64 B1, .int .i64 C1] 23)))
    have HR := hide (And.intro r1 o1)
    have HM := hide (MC.made w9 A1 B1 C1)
    clear hb r1 o1 H9 R9 Q9 CR e0 e1 f0 f1 f2
    go_upto_region 16 with (fail)
    obtain ⟨W10, hW⟩ : ∃ Z, w9.alloc (.cells #[.int .i64 A1, .int .i64 B1, .int .i64 C1] 23) = Z := ⟨_, rfl⟩
    rw [hW] at B9 R10 Q10 HM
    (try rw [hW])
    obtain ⟨q3, hq⟩ : ∃ q, w9.heap.size = q := ⟨_, rfl⟩
    rw [hq] at HM
    (try rw [hq])
    clear hW hq
    go_wp2_with fail
    refine (CC _).out.mono ?_
    rintro e w11 ⟨v, n, rfl, hn1, hn2, hn3, hf, hb⟩
    have hdn : (d : Int) < 3 * ((n : Int) + 1) * ((n : Int) + 1) := by
      have h1 : (d : Int) = -D := by rw [← HDD.out, Int.neg_neg]
      rw [h1]
      exact hn2
    have HEND0 := HGN.out n A1 B1 C1 hdn HR.out.1 HR.out.2
    have HCO0 := fun x y u => HCO.out n x y u hdn
    have HNL0 := HLE.out n hn3
    obtain ⟨A, cp, rfl, hA⟩ := hf.read
    obtain ⟨LC, hLC⟩ : ∃ l, allF D n = l := ⟨_, rfl⟩
    rw [hLC] at HEND0 HNL0 hA
    rw [hLC]
    simp only [hLC] at HCO0
    obtain ⟨N, hN⟩ : ∃ N, LC.length = N := ⟨_, rfl⟩
    rw [hN] at HEND0 HNL0
    rw [hN]
    have HEND := hide HEND0
    have HCO1 := hide HCO0
    have HNL := hide HNL0
    have HN := hide hN
    have B11 := hide (B9.out.trans (hb.mono B9.out.size))
    have R11 := R10.out.below hb
    have Q11 := Q10.out.below hb
    have HMM := HM.out.below hb
    have CI := fun W (k : Below w11.heap.size w11 W) => hide (ints_nrow l l' L M0 _ _ W (R11.below k) (Q11.below k) HL1.out HL2.out)
    have KQ := fun W (k : Below w11.heap.size w11 W) => hide ((HMM.below k).cells)
    have HA := hide (fun W (k : Below w11.heap.size w11 W) (i : Nat) (t : Int × Int × Int) (ht : LC[i]? = some t) => show ∃ g, A = some ⟨g, 0, none⟩ ∧ W.cell? ⟨g, i * 3, none⟩ = some (.int .i64 t.1) ∧ W.cell? ⟨g, i * 3 + 1, none⟩ = some (.int .i64 t.2.1) ∧ W.cell? ⟨g, i * 3 + 2, none⟩ = some (.int .i64 t.2.2) from by
      obtain ⟨g, e1, e2, e3, e4, e5⟩ := hA i t ht
      exact ⟨g, e1, (k.cell (p := ⟨g, i * 3, none⟩) e2).trans e3, (k.cell (p := ⟨g, i * 3 + 1, none⟩) e2).trans e4, (k.cell (p := ⟨g, i * 3 + 2, none⟩) e2).trans e5⟩)
    clear HEND0 HCO0 HNL0 hn1 hn2 hn3 hdn hf hb hA hLC hN HGN HCO HLE R10 Q10 R11 Q11 HM HMM B9 CC HL1 HL2
    go_wp2_with fail
    go_loopw [9, 11] (fun sv iv wr => ∃ (i : Nat) (x : Bool), i ≤ N ∧ iv = .int .i64 i ∧ sv = .bool x ∧ Hid (x = true ↔ SqIn D LC A1 B1 i) ∧ Hid (Below w11.heap.size w11 wr)) (fun _ iv _ => N - (intOf iv).toNat)
    case atStart => exact ⟨0, false, by omega, rfl, rfl, hide ⟨(fun h => by cases h), fun h => absurd h SqIn.zero⟩, hide (Below.refl _ _)⟩
    case round =>
      obtain ⟨i, x, hi, rfl, rfl, HX, HW⟩ := hrel
      obtain ⟨wo, rfl⟩ : ∃ Z, Z = wr := ⟨_, rfl⟩
      by_cases hin : i < N
      · obtain ⟨t, ht⟩ : ∃ t, LC[i]? = some t := ⟨_, List.getElem?_eq_getElem (by rw [HN.out]; exact hin)⟩
        obtain ⟨x0, y0, z0⟩ := t
        obtain ⟨g, rfl, _, _, _⟩ := HA.out wo HW.out i (x0, y0, z0) ht
        have CO1 := fun W => hide (HCO1.out x0 y0 z0 (List.mem_of_getElem? ht) W)
        have M := hide (FMem.start wo)
        have KM := fun W (k : Below wo.heap.size wo W) => hide (show (W.cell? ⟨g, i * 3, none⟩ = some (.int .i64 x0) ∧ W.cell? ⟨g, i * 3 + 1, none⟩ = some (.int .i64 y0) ∧ W.cell? ⟨g, i * 3 + 2, none⟩ = some (.int .i64 z0)) ∧ Hid (Below wo.heap.size wo W) from ⟨by
          obtain ⟨g', e, c1, c2, c3⟩ := HA.out W (HW.out.trans (k.mono HW.out.size)) i (x0, y0, z0) ht
          injection e with e
          injection e with e _ _
          subst e
          exact ⟨c1, c2, c3⟩, hide k⟩)
        have HT := hide ht
        clear ht
        go_upto_region 21 with (fail)
        go_cut [12, 13] (fun u v wx => ∃ p q A B C, u = .pointer (some ⟨p, 0, none⟩) ∧ v = .pointer (some ⟨q, 0, none⟩) ∧ Hid (RedF A B C ∧ D = B * B - 4 * A * C ∧ Int.gcd A (Int.gcd B C) = 1 ∧ Sim D (Pr D (Lf x0 y0) (Lf x0 y0)) (Lf A B)) ∧ Hid (FMem wo wx [(p, A, B, C)] [(q, 0, 0)]))
        case first => as_aux_lemma =>
          clear KQ HA CI HST HR HEND HCO1
          go_region_held3 (fun W => (W.cell? ⟨g, i * 3, none⟩ = some (.int .i64 x0) ∧ W.cell? ⟨g, i * 3 + 1, none⟩ = some (.int .i64 y0) ∧ W.cell? ⟨g, i * 3 + 2, none⟩ = some (.int .i64 z0)) ∧ Hid (Below wo.heap.size wo W)) (first | with_reducible exact (KM _ M.out.b).out | with_reducible exact (KM _ M.out.drw.b).out | with_reducible exact (KM _ M.out.nf.b).out | with_reducible exact (KM _ M.out.nz.b).out | with_reducible exact (KM _ M.out.nfz.b).out | with_reducible exact (KM _ M.out.nzf.b).out | with_reducible exact (KM _ M.out.nf.drw.b).out | with_reducible exact (KM _ M.out.nz.drw.b).out | with_reducible exact (KM _ M.out.nfz.drw.b).out | with_reducible exact (KM _ M.out.nzf.drw.b).out | exact (KM _ (by repeat' (first | with_reducible exact M.out.b | (with_reducible refine Below.setCell ?_ ?_ _) | (with_reducible refine Below.alloc ?_ ?_ _) | (have hms := M.out.b.size; (try simp only [World.size_alloc, World.size_setCell]); omega)))).out) (first | (go_at_call 14; refine calls_mono' (FMem.call (by first | with_reducible exact M.out | with_reducible exact M.out.drw | with_reducible exact M.out.nf | with_reducible exact M.out.nz | with_reducible exact M.out.nfz | with_reducible exact M.out.nzf | with_reducible exact M.out.nf.drw | with_reducible exact M.out.nz.drw | with_reducible exact M.out.nfz.drw | with_reducible exact M.out.nzf.drw) (CO1 _).out) ?_; rintro e w6 ⟨⟨A6, B6, C6, rfl, hfact⟩, M'⟩; have HF6 := hide hfact; have M := hide M'; (try (have hlp := M'.flo _ (List.mem_cons_self ..); have hlt := (M'.f _ (List.mem_cons_self ..)).lt; obtain ⟨c0, c1', c2'⟩ := (M'.f _ (List.mem_cons_self ..)).cells; have z0 := (M'.f _ (List.mem_cons_self ..)).frozen 0; have z1 := (M'.f _ (List.mem_cons_self ..)).frozen 1; have z2 := (M'.f _ (List.mem_cons_self ..)).frozen 2)); (try (have hlq := M'.zlo _ (List.mem_cons_self ..); have hltq := (M'.z _ (List.mem_cons_self ..)).lt; obtain ⟨d0, d1', e0, e1⟩ := (M'.z _ (List.mem_cons_self ..)).cells)); (try (have hne := mc_ne (M'.f _ (List.mem_cons_self ..)) (M'.z _ (List.mem_cons_self ..)); have hne2 := hne.symm)); clear hfact M'))
          all_goals
            clear KM CO1
            go_wp2_with fail
            go_meet
            refine ⟨_, _, A6, B6, C6, rfl, rfl, HF6, hide ?_⟩
            first
              | with_reducible exact M.out.e1 A6 B6 C6 0 0
              | with_reducible exact M.out.e2 A6 B6 C6 0 0
              | with_reducible exact M.out.e3 A6 B6 C6 0 0
              | with_reducible exact M.out.e4 A6 B6 C6 0 0
              | with_reducible exact M.out.e5 A6 B6 C6 0 0
        case rest =>
          obtain ⟨p6, q6, A6, B6, C6, rfl, rfl, HF6, M6⟩ := hcut
          obtain ⟨w6, rfl⟩ : ∃ Z, Z = wc := ⟨_, rfl⟩
          have HW6 := hide (HW.out.trans (M6.out.b.mono HW.out.size))
          have HSP := hide (HST.out LC A1 B1 C1 x0 y0 z0 A6 B6 C6 i HT.out HR.out.1 HR.out.2.d HF6.out.1 HF6.out.2.1 HF6.out.2.2.2)
          obtain ⟨c0, c1, c2⟩ := (M6.out.f (p6, A6, B6, C6) (by simp)).cells
          obtain ⟨u0, _, _, _⟩ := (M6.out.z (q6, 0, 0) (by simp)).cells
          obtain ⟨r0, r1, r2⟩ := (KQ _ HW6.out).out
          simp only at c0 c1 c2 u0
          have I7 : wrap64 ((i : Int) + 1) = (i : Int) + 1 := by have := HNL.out; unfold wrap64; omega
          clear M6 HF6 M KM CO1 HT
          cases x with
          | true =>
            have HX2 := hide (show (true = true ↔ SqIn D LC A1 B1 (i + 1)) from ⟨fun _ => HSP.out.2 (.inl (HX.out.1 rfl)), fun _ => rfl⟩)
            go_wp2_with fail
            (try simp only [I7])
            exact ⟨⟨i + 1, true, by omega, rfl, rfl, HX2, HW6⟩, by simp [intOf]; omega⟩
          | false =>
            by_cases hs : (A6, B6, C6) = (A1, B1, C1)
            · have HX2 := hide (show (true = true ↔ SqIn D LC A1 B1 (i + 1)) from ⟨fun _ => HSP.out.2 (.inr hs), fun _ => rfl⟩)
              injection hs with s1 s2
              injection s2 with s2 s3
              subst s1
              subst s2
              subst s3
              clear HSP
              go_wp2_with fail
              (try simp only [I7])
              exact ⟨⟨i + 1, true, by omega, rfl, by simp, HX2, HW6⟩, by simp [intOf]; omega⟩
            · have HX2 := hide (show (false = true ↔ SqIn D LC A1 B1 (i + 1)) from ⟨(fun h => by cases h), fun h => by
                rcases HSP.out.1 h with k | k
                · exact HX.out.2 k
                · exact absurd k hs⟩)
              clear HSP
              go_wp2_with fail
              all_goals (try simp only [I7])
              all_goals
                first
                  | (rename_i k1 k2 k3; exact absurd (show (A6, B6, C6) = (A1, B1, C1) by rw [k1, k2, k3]) hs)
                  | exact ⟨⟨i + 1, false, by omega, rfl, by simp, HX2, HW6⟩, by simp [intOf]; omega⟩
      · obtain rfl : i = N := by omega
        have hx : x = decide (L = M0) := by
          have e1 := HX.out
          have e2 := HEND.out
          by_cases k : L = M0
          · rw [decide_eq_true k]; exact e1.2 (e2.2 k)
          · rw [decide_eq_false k]
            cases x with
            | false => rfl
            | true => exact absurd (e2.1 (e1.1 rfl)) k
        subst hx
        go_wp2_with fail
        refine (CI _ HW.out).out.mono ?_
        rintro e w12 ⟨rfl, hb⟩
        have HB12 := hide (HW.out.trans (hb.mono HW.out.size))
        clear hb
        go_wp2_with fail
        go_ret
        exact ⟨by simp, B11.out.trans (HB12.out.mono B11.out.size)⟩

theorem genera_row (a b c : Int) (w : World) : Calls Try.prog 3 #[.agg #[.int .i64 a, .int .i64 b, .int .i64 c]] w fun e w' => e = .returned (.bool true) ∧ Below w.heap.size w w' := by
  by_cases h : (formF a b c).1 = 0
  · by_cases hn : b * b - 4 * a * c < -2000
    · exact genera_c2 a b c w h hn
    · exact genera_c3 a b c w h (by omega)
  · exact genera_c1 a b c w h
end Go.Proofs.Ytkfjjljdhfjpbaa
