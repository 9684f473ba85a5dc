/- The walk of quad.Points at a good form and a good number. -/
import Derived.Test.YtlchmaiflcnaoaaKPtMem
import Derived.Test.YtlchmaiflcnaoaaKRedR
import Derived.Test.YtlchmaiflcnaoaaKRoot
namespace Go.Proofs.Ytlchmaiflcnaoaa
open Go.RowKit Go.Sort

/-- the blocks of Points' frame -/
structure QpA (w W : World) (a b c : Int) : Prop where
  f : MC W w.heap.size a b c
  e : FC W (w.heap.size + 1) 0 0
  b : Below w.heap.size w W
theorem QpA.start (w : World) (a b c : Int) : QpA w ((w.alloc (.cells #[.int .i64 a, .int .i64 b, .int .i64 c] 23)).alloc (.cells #[.int .i64 0, .int .i64 0] 26)) a b c := by
  refine ⟨(MC.made w a b c).below (bel_obj _ _), ?_, ((Below.refl _ _).alloc (Nat.le_refl _) _).alloc (by simp) _⟩
  have := FC.made (w.alloc (.cells #[.int .i64 a, .int .i64 b, .int .i64 c] 23)) 0 0
  rwa [World.size_alloc] at this
theorem QpA.below {w W W' : World} {a b c : Int} (h : QpA w W a b c) (k : Below W.heap.size W W') : QpA w W' a b c := ⟨h.f.below k, h.e.below k, h.b.trans (k.mono h.b.size)⟩
structure QpB (w W : World) (g : Nat) (A B C p q r s : Int) : Prop where
  e : FC W (w.heap.size + 1) 0 0
  gm : MC W g A B C
  m : TC W (g + 1) p q r s 69
  b : Below w.heap.size w W
theorem QpA.two {w W : World} {a b c : Int} (h : QpA w W a b c) (A B C p q r s : Int) : QpB w ((W.alloc (.cells #[.int .i64 A, .int .i64 B, .int .i64 C] 23)).alloc (.cells #[.int .i64 p, .int .i64 q, .int .i64 r, .int .i64 s] 69)) W.heap.size A B C p q r s := by
  refine ⟨(h.e.below (bel_obj _ _)).below (bel_obj _ _), (MC.made W A B C).below (bel_obj _ _), ?_, (h.b.alloc h.b.size _).alloc (Nat.le_trans h.b.size (by simp)) _⟩
  have := TC.made (W.alloc (.cells #[.int .i64 A, .int .i64 B, .int .i64 C] 23)) p q r s 69
  rwa [World.size_alloc] at this

/-- the numbers of Points -/
theorem qp_nums {A B C D n R : Int} (h : RedF A B C) (hD : D = B * B - 4 * A * C) (hlow : -4000000000000 ≤ D) (hneg : D < 0) (hn : 0 ≤ n) (hn2 : n ≤ 1000000) (hR : 0 ≤ R) (h1 : -D * R * R ≤ 4 * A * n) {Y : Int} (hY1 : -R ≤ Y) (hY2 : Y ≤ R + 1) :
    R ≤ 1155 ∧ wrap64 (-D * Y) = -D * Y ∧ wrap64 (-D * Y * Y) = -D * Y * Y ∧ (Y ≤ R → -D * Y * Y ≤ 4 * A * n) ∧ (Y ≤ R → wrap64 (4 * A * n - -D * Y * Y) = 4 * A * n - -D * Y * Y) ∧ 0 ≤ -D * Y * Y ∧ 4 * A * n ≤ 4700000000000 := by
  obtain ⟨y1, p1, p2, p3, p4, p5, p6⟩ := cn_y (y := R + 1) h hD hlow hn hn2 (by omega) (.inr (by rw [show R + 1 - 1 = R by omega]; exact h1))
  obtain ⟨⟨e1, e2⟩, ⟨e3, e4⟩, e5⟩ := row_y (d := -D) (r := R) (Y := Y) (by omega) hY1 hY2
  refine ⟨by omega, ?_, ?_, fun h => by have := e5 h; omega, fun h => ?_, e3, p6⟩
  · unfold wrap64; omega
  · unfold wrap64; omega
  · have := e5 h
    unfold wrap64; omega
theorem qp_hit {A B C D n x Y z p q r s : Int} (h : RedF A B C) (hD : D = B * B - 4 * A * C) (hn2 : n ≤ 1000000) (hz : z * z = 4 * A * n - -D * Y * Y) (hx : 2 * A * x + B * Y = z)
    (hp : -2000000 ≤ p ∧ p ≤ 2000000) (hq : -2000000 ≤ q ∧ q ≤ 2000000) (hr : -2000000 ≤ r ∧ r ≤ 2000000) (hs : -2000000 ≤ s ∧ s ≤ 2000000) :
    (-1155 ≤ x ∧ x ≤ 1155) ∧ (wrap64 (p * x) = p * x ∧ wrap64 (q * Y) = q * Y ∧ wrap64 (p * x + q * Y) = p * x + q * Y) ∧ (wrap64 (r * x) = r * x ∧ wrap64 (s * Y) = s * Y ∧ wrap64 (r * x + s * Y) = r * x + s * Y) := by
  have hv : tA A B C x Y = n := (val_iff hD (by have := h.pos; omega) x Y).2 (by rw [hx]; exact hz)
  obtain ⟨⟨x1, x2⟩, y1, y2⟩ := pt_small h hn2 (by rw [hv]; exact Int.le_refl _)
  have m1 := abs_mul_le (x := p) (y := x) (p := 2000000) (q := 1155) (by omega) (by omega)
  have m2 := abs_mul_le (x := q) (y := Y) (p := 2000000) (q := 1155) (by omega) (by omega)
  have m3 := abs_mul_le (x := r) (y := x) (p := 2000000) (q := 1155) (by omega) (by omega)
  have m4 := abs_mul_le (x := s) (y := Y) (p := 2000000) (q := 1155) (by omega) (by omega)
  refine ⟨⟨x1, x2⟩, ⟨?_, ?_, ?_⟩, ?_, ?_, ?_⟩ <;> unfold wrap64 <;> omega

theorem nat_low {K : Int} {N : Nat} (h : (N : Int) ≤ K) (h2 : K ≤ 5000000000000) : N ≤ 1000000000000000000 := by omega
theorem zfacts {z0 N2 : Nat} (h1 : z0 ^ 2 ≤ N2) (h2 : N2 < (z0 + 1) ^ 2) (h3 : z0 ≤ N2) {K : Int} (hNK : (N2 : Int) ≤ K) (hN : K ≤ 4700000000000) : ((z0 : Int) * z0 ≤ N2 ∧ (N2 : Int) < ((z0 : Int) + 1) * (z0 + 1)) ∧ 0 ≤ (z0 : Int) ∧ (z0 : Int) ≤ 4700000000000 ∧ wrap64 ((z0 : Int) * z0) = (z0 : Int) * z0 ∧ wrap64 (-(z0 : Int)) = -(z0 : Int) := by
  have a1 : (z0 : Int) * z0 ≤ N2 := by rw [Nat.pow_two] at h1; rw [← Int.natCast_mul]; exact Int.ofNat_le.2 h1
  have a2 : (N2 : Int) < ((z0 : Int) + 1) * (z0 + 1) := by rw [Nat.pow_two] at h2; have := Int.ofNat_lt.2 h2; simpa using this
  have a3 := sq_nn (z0 : Int)
  refine ⟨⟨a1, a2⟩, by omega, by omega, ?_, ?_⟩
  · unfold wrap64; omega
  · unfold wrap64; omega
theorem row_wraps {B Y z : Int} (hB : -1000000 ≤ B ∧ B ≤ 1000000) (hY : -1155 ≤ Y ∧ Y ≤ 1155) (h0 : 0 ≤ z) (h1 : z ≤ 4700000000000) : wrap64 (B * Y) = B * Y ∧ wrap64 (z - B * Y) = z - B * Y ∧ wrap64 (-z - B * Y) = -z - B * Y := by
  have mB := abs_mul_le (x := B) (y := Y) (p := 1000000) (q := 1156) (by omega) (by omega)
  refine ⟨?_, ?_, ?_⟩ <;> unfold wrap64 <;> omega
theorem hit_eq {u b z : Int} (h : z - b = u) : u + b = z := by omega
theorem neg_sq (z : Int) : -z * -z = z * z := by grind
theorem small_wrap {x : Int} (h1 : -1155 ≤ x) (h2 : x ≤ 1155) : wrap64 x = x := by unfold wrap64; omega
theorem len_map_le {L : List (Int × Int)} {p q r s : Int} (h : L.length ≤ (2 * 1155 + 1) * (2 * 1155 + 1)) : (L.map (tP p q r s)).length ≤ 6000000 := by rw [List.length_map]; omega
theorem len_max {n : Nat} (h : n ≤ 6000000) : n + 1 ≤ maxLen ∧ n < 1000000000000 := by simp only [maxLen]; omega
/-- what the inner rows ask -/
def RowI (A B C n Y z : Int) (i : Int) (L : List (Int × Int)) : Prop := (i = 0 → Has L (PtL A B C n Y)) ∧ (i = 1 → z ≠ 0 ∧ Has L (PtM A B C n Y z)) ∧ (i = 2 → Has L (PtL A B C n (Y + 1)))

set_option maxRecDepth 100000 in
set_option maxHeartbeats 12800000 in
theorem points_ok (a b c n : Int) (w : World) (h : (formF a b c).1 = 0) (hn : 0 ≤ n) (hn2 : n ≤ 1000000) :
    Calls Try.prog 8 #[.agg #[.int .i64 a, .int .i64 b, .int .i64 c], .int .i64 n] w fun e w' => (∃ (v : Value) (L : List (Int × Int)), e = .returned (.tuple #[v, .agg #[.int .i64 0, .int .i64 0]]) ∧ PRow w' w.heap.size v L ∧ PtsOf a b c n L) ∧ Below w.heap.size w w' := by
  have z := formF_zero h
  have CK := fun W => hide (check_any a b c W)
  have CR := fun W => hide (reduce_any a b c W z.2.2.2.2.1 z.2.1.2 z.2.2.2.2.2.1 z.2.2.2.1.2 z.2.2.2.2.2.2.1)
  unfold RetFault at CK
  rw [z.1] at CK
  simp only [fv] at CK
  have HZ := hide (show 1 ≤ a ∧ a ≤ 1000000 ∧ 1 ≤ c ∧ c ≤ 1000000 ∧ b * b - 4 * a * c < 0 from ⟨z.2.2.2.2.1, z.2.1.2, z.2.2.2.2.2.1, z.2.2.2.1.2, z.2.2.2.2.2.2.1⟩)
  have H0 := hide (QpA.start w a b c)
  have q1 : decide (n < 0) = false := by simp; omega
  have q2 : decide (1000000 < n) = false := by simp; omega
  obtain ⟨i0, hi, hz0, hz1, hz2⟩ := info_parts pinfo
  have HI := hide (And.intro hi (And.intro hz0 (And.intro hz1 hz2)))
  clear h z hi hz0 hz1 hz2
  go_enter Try.func8, Try.ntmps8
  go_wp2_with fail
  refine (CK _).out.mono ?_
  rintro e w1 ⟨rfl, hb⟩
  have l1 := (H0.out.below hb).f.lt
  have H1 := hide ((H0.out.below hb).below (bel_obj w1 (.cells #[.int .i64 0, .int .i64 0] 26)))
  obtain ⟨f0, f1, f2⟩ := (H0.out.below hb).f.cells
  clear hb H0 CK
  go_wp2_with fail
  refine (CR _).out.mono ?_
  rintro e w2 ⟨A, B, C, p, q, r, s, rfl, hI, hl, hh, ha, hb⟩
  have H2 := hide ((H1.out.below hb).two A B C p q r s)
  clear hb H1 CR f0 f1 f2 l1
  go_upto_region 7 with (fail)
  obtain ⟨W6, hW⟩ : ∃ Z, (w2.alloc (.cells #[.int .i64 A, .int .i64 B, .int .i64 C] 23)).alloc (.cells #[.int .i64 p, .int .i64 q, .int .i64 r, .int .i64 s] 69) = Z := ⟨_, rfl⟩
  rw [hW] at H2
  (try rw [hW])
  obtain ⟨g, hg⟩ : ∃ g, w2.heap.size = g := ⟨_, rfl⟩
  rw [hg] at H2
  (try rw [hg])
  clear hW hg
  have hred : RedF A B C := ⟨by have := hI.a1; omega, hl, hh, by omega, by omega⟩
  have hsm := hI.small HZ.out.1 HZ.out.2.1 HZ.out.2.2.1 HZ.out.2.2.2.1 HZ.out.2.2.2.2
  have ha1 := hI.a1
  have ha2 := hI.a2
  have hc1 := hI.c1
  have hc2 := hI.c2
  have HRI := hide (And.intro hI hred)
  obtain ⟨D, hD⟩ : ∃ D, B * B - 4 * A * C = D := ⟨_, rfl⟩
  have hDn : D < 0 := by have := hI.d; have := HZ.out.2.2.2.2; omega
  have hDl : -4000000000000 ≤ D := by
    have e1 := sq_nn B
    have e2 := mul_le_of (x := A) (y := C) (N := 1000000) (M := 1000000) (by omega) (by omega) (by omega) (by omega)
    rw [Int.mul_assoc 4 A C] at hD
    omega
  have CD := fun W => hide (disc_any A B C W (by omega) (by omega) (by omega))
  rw [hD] at CD
  obtain ⟨d, hd⟩ : ∃ d, -D = d := ⟨_, rfl⟩
  have hdp : 0 < d := by omega
  have n0 : wrap64 (-D) = d := by rw [hd]; unfold wrap64; omega
  have HQN := hide (fun (R Y : Int) (hR : 0 ≤ R) (h1 : -D * R * R ≤ 4 * A * n) (hY1 : -R ≤ Y) (hY2 : Y ≤ R + 1) => qp_nums hred hD.symm hDl hDn hn hn2 hR h1 hY1 hY2)
  have HHT := hide (fun (x Y z : Int) (hz : z * z = 4 * A * n - -D * Y * Y) (hx : 2 * A * x + B * Y = z) => qp_hit (p := p) (q := q) (r := r) (s := s) hred hD.symm hn2 hz hx ⟨hsm.1.1, hsm.1.2.1⟩ ⟨hsm.2.1.1, hsm.2.1.2.1⟩ ⟨hsm.1.2.2.1, hsm.1.2.2.2⟩ ⟨hsm.2.1.2.2.1, hsm.2.1.2.2.2⟩)
  have HNO := hide (fun (L : List (Int × Int)) (y z : Int) (hL : Has L (PtL A B C n y)) => pt_none (D := D) (z := z) hL hD.symm ha1)
  have HON := hide (fun (L : List (Int × Int)) (y z x : Int) (hL : Has L (PtL A B C n y)) => pt_one (D := D) (z := z) (x := x) hL hD.symm ha1)
  have HO0 := hide (fun (L : List (Int × Int)) (y z : Int) (hL : Has L (PtL A B C n y)) => pt_one_no (z := z) hL)
  have HTW := hide (fun (L : List (Int × Int)) (y z x : Int) (hL : Has L (PtM A B C n y z)) => pt_two (D := D) (x := x) hL hD.symm ha1)
  have HT0 := hide (fun (L : List (Int × Int)) (y z : Int) (hL : Has L (PtM A B C n y z)) => pt_two_no (D := D) hL hD.symm ha1)
  have HRW := hide (fun (Y R x : Int) (hY : 0 ≤ R) (h2 : 4 * A * n < -D * (R + 1) * (R + 1)) (e : tA A B C x Y = n) => pt_rows hD.symm hDn hY h2 e)
  have HSH := hide (fun (L : List (Int × Int)) (S : Int → Int → Prop) (hL : Has L S) (k : ∀ x y, S x y → tA A B C x y = n) => hL.short 1155 (fun x y hs => pt_small hred hn2 (by rw [k x y hs]; exact Int.le_refl _)))
  rw [hd] at HQN HHT HNO HON HTW HT0 HRW
  obtain ⟨K, hK⟩ : ∃ K, 4 * A * n = K := ⟨_, rfl⟩
  have hK0 : 0 ≤ K := by rw [← hK]; exact Int.mul_nonneg (by omega) hn
  have hK1 := mul_le_of (x := 4 * A) (y := n) (N := 4000000) (M := 1000000) (by omega) (by omega) hn hn2
  rw [hK] at HQN HHT HNO HON HTW HT0 HRW hK1
  have n3 : wrap64 (4 * A) = 4 * A := by unfold wrap64; omega
  have n4 : wrap64 (4 * A * n) = K := by rw [hK]; unfold wrap64; omega
  have n8 : wrap64 (2 * A) = 2 * A := by unfold wrap64; omega
  have hq0 := Int.ediv_nonneg hK0 (show 0 ≤ d by omega)
  have hq1 : K / d ≤ K := Int.ediv_le_self _ hK0
  have HRT := hide (fun (R : Int) => row_root (r := R) (K := K) hdp)
  obtain ⟨N1, hN1⟩ : ∃ N1 : Nat, K / d = (N1 : Int) := ⟨(K / d).toNat, by omega⟩
  have hN2 : K.tdiv d = (N1 : Int) := by rw [← hN1]; exact Int.tdiv_eq_ediv_of_nonneg hK0
  rw [hN1] at HRT hq1
  have n5 : wrap64 (N1 : Int) = N1 := by unfold wrap64; omega
  have hK2 : K ≤ 5000000000000 := by omega
  have hN1b := hide hq1
  have HK2 := hide (show K ≤ 4700000000000 by omega)
  have CF := fun W => hide (floor_any N1 2 W (by decide) (by decide) (nat_low hq1 hK2))
  have nd : ¬ d = 0 := by omega
  have HB0 := hide (show -1000000 ≤ B ∧ B ≤ 1000000 by omega)
  have HA0 := hide (show 1 ≤ A ∧ A ≤ 1000000 by omega)
  clear hI hl hh ha hred hsm ha1 ha2 hc1 hc2 hD hDn hDl hd hdp hK hK0 hK1 hK2 hq0 hq1 hn hn2 HZ
  obtain ⟨g0, g1, g2⟩ := H2.out.gm.cells
  go_wp2_with fail
  refine (CD _).out.mono ?_
  rintro e w3 ⟨rfl, hb⟩
  have HB := hide hb
  have hlt := H2.out.gm.lt
  clear g0 g1 g2
  obtain ⟨g0, g1, g2⟩ := (H2.out.gm.below hb).cells
  clear hb CD
  go_wp2_with fail
  refine (CF _).out.mono ?_
  rintro e w4 ⟨r0, rfl, hr0, hr1, hr2, rfl⟩
  have hzf := zfacts hr1 hr2 hr0 hN1b.out HK2.out
  have hr3 := hzf.1.1
  have hr4 := hzf.1.2
  clear hzf
  obtain ⟨hRa, hRb⟩ := HRT.out (r0 : Int) hr3 hr4
  obtain ⟨R, hR⟩ : ∃ R, (r0 : Int) = R := ⟨_, rfl⟩
  have hR0 : 0 ≤ R := by omega
  rw [hR] at hRa hRb
  have hR1 : R ≤ 1155 := (HQN.out R R hR0 hRa (by omega) (by omega)).1
  have nR : wrap64 (-R) = -R := by unfold wrap64; omega
  have HRA := hide hRa
  have HRB := hide hRb
  rw [hR]
  clear hr0 hr1 hr2 hr3 hr4 hRa hRb hR CF HRT g0 g1 g2 hN1b
  have S0 := hide (PO.nil w3 W6.heap.size)
  go_wp2_with fail
  (try simp only [n0, nR])
  go_loopg [9, 11] (2 * R + 1).toNat (fun N u y wr => ∃ (L : List (Int × Int)) (Y : Int), y = .int .i64 Y ∧ -R ≤ Y ∧ Y ≤ R + 1 ∧ N = (R + 1 - Y).toNat ∧ Hid (PO wr W6.heap.size u (L.map (tP p q r s))) ∧ Hid (Has L (PtL A B C n Y)) ∧ Hid (Below W6.heap.size W6 wr))
  case atStart => exact ⟨[], -R, rfl, by omega, by omega, by congr 1; omega, S0, hide (Has.nil fun x y hc => by have := (HRW.out y R x hR0 HRB.out hc.1).1; have := hc.2; omega), HB⟩
  case round =>
    clear HB S0
    obtain ⟨L, Y, rfl, hY1, hY2, rfl, HP, HL, HB⟩ := hrel
    obtain ⟨wo, rfl⟩ : ∃ wo : World, wo = wr := ⟨_, rfl⟩
    obtain ⟨_, m1, m2, m3, m4o, m5, m6⟩ := HQN.out R Y hR0 HRA.out hY1 hY2
    have nY : wrap64 (Y + 1) = Y + 1 := by unfold wrap64; omega
    obtain ⟨g0, g1, g2⟩ := (H2.out.gm.below HB.out).cells
    by_cases hY : Y ≤ R
    · have hle := m3 hY
      have q3 : decide (d * Y * Y ≤ K) = true := by simpa using hle
      have m4' := m4o hY
      obtain ⟨E, hE⟩ : ∃ E, d * Y * Y = E := ⟨_, rfl⟩
      rw [hE] at m5 hle m4'
      obtain ⟨N2, hN2⟩ : ∃ N2 : Nat, K - E = (N2 : Int) := ⟨(K - E).toNat, by omega⟩
      have m4 : wrap64 (K - d * Y * Y) = (N2 : Int) := by rw [hE, m4', hN2]
      have hN2b := hide (show (N2 : Int) ≤ K by omega)
      have CF2 := fun W => hide (floor_any N2 2 W (by decide) (by decide) (nat_low hN2b.out (Int.le_trans HK2.out (by decide))))
      have HE := hide (show (N2 : Int) = K - d * Y * Y by rw [hE]; omega)
      clear m3 m4' m4o hle hE hN2 m5 m6
      go_wp2_with fail
      (try simp only [m1, m2, m4, n3, n4])
      refine (CF2 _).out.mono ?_
      rintro e w5 ⟨z0, rfl, hz0, hz1, hz2, rfl⟩
      obtain ⟨⟨hz3, hz4⟩, hzp, hzb, k1, k2⟩ := zfacts hz1 hz2 hz0 hN2b.out HK2.out
      obtain ⟨z, hz⟩ : ∃ z, (z0 : Int) = z := ⟨_, rfl⟩
      rw [hz] at hz3 hz4 hzp hzb k1 k2
      rw [hz]
      have hzb' := hide hzb
      have hz3' := hide hz3
      have hz4' := hide hz4
      clear hzb hz3 hz4
      clear hz hz0 hz1 hz2 CF2 hN2b
      by_cases hzz : z * z = N2
      · have q4 : (z * z != (N2 : Int)) = false := by simpa using hzz
        have q5 : decide (z * z = (N2 : Int)) = true := by simpa using hzz
        have HZZ := hide (show z * z = K - d * Y * Y by rw [hzz, HE.out])
        have HRO := hide (Row.made wo #[.int .i64 z, .int .i64 (-z)] 3)
        have HP2 := hide (HP.out.below (bel_obj wo (.cells #[.int .i64 z, .int .i64 (-z)] 3)))
        have HB2 := hide (HB.out.alloc HB.out.size (.cells #[.int .i64 z, .int .i64 (-z)] 3))
        have lg := HB.out.size
        obtain ⟨k3, k4, k5⟩ := row_wraps (Y := Y) HB0.out ⟨by omega, by omega⟩ hzp hzb'.out
        have nA : ¬ 2 * A = 0 := by have := HA0.out.1; omega
        obtain ⟨by_, hby⟩ : ∃ by_, B * Y = by_ := ⟨_, rfl⟩
        have k3' := k3.trans hby
        rw [hby] at k4 k5
        clear k3
        have HBY := hide hby
        clear hzz hby HE HP HB
        go_wp2_with fail
        (try simp only [k1, k2])
        obtain ⟨w7, hw7⟩ : ∃ Z, wo.alloc (.cells #[.int .i64 z, .int .i64 (-z)] 3) = Z := ⟨_, rfl⟩
        rw [hw7] at HRO HP2 HB2
        (try rw [hw7])
        obtain ⟨t, ht⟩ : ∃ t, wo.heap.size = t := ⟨_, rfl⟩
        rw [ht] at HRO lg
        (try rw [ht])
        clear hw7 ht g0 g1 g2
        go_loopg [9, 83] 2 (fun N u x wr => ∃ (L : List (Int × Int)) (i : Int), x = .int .i64 i ∧ (i = 0 ∨ i = 1 ∨ i = 2) ∧ N = (2 - i).toNat ∧ Hid (PO wr W6.heap.size u (L.map (tP p q r s))) ∧ Hid (RowI A B C n Y z i L) ∧ Hid (Below W6.heap.size W6 wr) ∧ Hid (Row wr t #[.int .i64 z, .int .i64 (-z)] 3))
        case atStart => exact ⟨L, 0, rfl, .inl rfl, rfl, HP2, hide ⟨fun _ => HL.out, fun h => absurd h (by decide), fun h => absurd h (by decide)⟩, HB2, HRO⟩
        case round =>
          clear HP2 HL HB2 HRO L
          obtain ⟨L, i, rfl, hi, rfl, HP, HL, HB, HRO⟩ := hrel
          obtain ⟨w8, rfl⟩ : ∃ w8 : World, w8 = wr := ⟨_, rfl⟩
          have c0 : w8.cell? ⟨t, 0, none⟩ = some (.int .i64 z) := HRO.out.cell 0
          have c1 : w8.cell? ⟨t, 1, none⟩ = some (.int .i64 (-z)) := HRO.out.cell 1
          obtain ⟨g0, g1, g2⟩ := (H2.out.gm.below HB.out).cells
          obtain ⟨t0, t1, t2, t3⟩ := (H2.out.m.below HB.out).cells
          rcases hi with rfl | rfl | rfl
          · by_cases hdv : (2 * A) ∣ z - by_
            · obtain ⟨x, hx⟩ := hdv
              have hxz : 2 * A * x + B * Y = z := by rw [HBY.out]; exact hit_eq hx
              have e1 : (z - by_).tmod (2 * A) = 0 := by rw [hx]; exact Int.mul_tmod_right _ _
              have e2 : (z - by_).tdiv (2 * A) = x := by rw [hx]; exact Int.mul_tdiv_cancel_left _ nA
              have e3 : (z - by_) % (2 * A) = 0 := by rw [hx]; exact Int.mul_emod_right _ _
              have e4 : (z - by_) / (2 * A) = x := by rw [hx]; exact Int.mul_ediv_cancel_left _ nA
              obtain ⟨⟨x1, x2⟩, ⟨j1, j2, j3⟩, j4, j5, j6⟩ := HHT.out x Y (z) (HZZ.out) hxz
              have e5 := small_wrap x1 x2
              have HL1 := hide (HON.out L Y z x (HL.out.1 rfl) HZZ.out hxz)
              have HLN := hide (len_max (len_map_le (p := p) (q := q) (r := r) (s := s) (HSH.out L _ (HL.out.1 rfl) (fun _ _ e => e.1))))
              clear hx hxz x1 x2
              go_wp2_with (at_builtin; refine wpList_append_own _ rfl _ _ 24 rfl W6.heap.size 34 i0 (.agg #[.int .i64 0, .int .i64 0]) 2 16 Try.underlying24 HI.out.1 HI.out.2.1 HI.out.2.2.1 HI.out.2.2.2 rfl (by decide) u9 _ _ rfl (HP.out.below (bel_obj w8 (.cells #[.int .i64 (p * x + q * Y), .int .i64 (r * x + s * Y)] 34))) ⟨w8.heap.size, 0, none⟩ 1 1 [.int .i64 (p * x + q * Y), .int .i64 (r * x + s * Y)] rfl rfl (two_new _ _ _ _) ?c2 ?c3 ?c4 ?c5 ?_)
              case c2 => intro u hu; simp at hu; rcases hu with rfl | rfl <;> rfl
              case c3 => exact HLN.out.1
              case c4 => have := HLN.out.2; omega
              case c5 => have := HB.out.size; simp at this ⊢; omega
              intro v' w9 hown hg _
              have HP2 : Hid (PO w9 W6.heap.size v' ((L ++ [(x, Y)]).map (tP p q r s))) := hide (by rw [List.map_append]; exact PO.grow (by rw [List.length_map]; exact hown))
              have HB2 := hide ((HB.out.alloc HB.out.size (.cells #[.int .i64 (p * x + q * Y), .int .i64 (r * x + s * Y)] 34)).grown hg (by have := HB.out.size; simp at this ⊢; omega) (PO.own HP.out))
              have HRO2 : Hid (Row w9 t #[.int .i64 z, .int .i64 (-z)] 3) := hide (rowI_grown (HRO.out.below (bel_obj w8 (.cells #[.int .i64 (p * x + q * Y), .int .i64 (r * x + s * Y)] 34))) (PO.below HP.out (bel_obj w8 (.cells #[.int .i64 (p * x + q * Y), .int .i64 (r * x + s * Y)] 34))) hg)
              clear hown hg c0 c1
              by_cases hz0 : z = 0
              · have r1 : (z == 0) = true := by simpa using hz0
                have r2 : decide (z = 0) = true := by simpa using hz0
                have HL2 := hide (HT0.out _ _ _ HL1.out HZZ.out (.inl hz0))
                clear hz0
                go_wp2_with fail
                go_roundg (R + 1 - (Y + 1)).toNat
                case measure => omega
                case rel => exact ⟨L ++ [(x, Y)], Y + 1, rfl, by omega, by omega, rfl, HP2, HL2, HB2⟩
              · have r1 : (z == 0) = false := by simpa using hz0
                have r2 : decide (z = 0) = false := by simpa using hz0
                have HL2 := hide (show RowI A B C n Y z 1 (L ++ [(x, Y)]) from ⟨fun h => absurd h (by decide), fun _ => ⟨hz0, HL1.out⟩, fun h => absurd h (by decide)⟩)
                clear hz0
                go_wp2_with fail
                go_roundg 1
                case measure => decide
                case rel => exact ⟨L ++ [(x, Y)], 1, rfl, .inr (.inl rfl), rfl, HP2, HL2, HB2, HRO2⟩
            · obtain ⟨m, hm⟩ : ∃ m, (z - by_).tmod (2 * A) = m := ⟨_, rfl⟩
              have hm0 : m ≠ 0 := fun e => hdv (Int.dvd_of_tmod_eq_zero (by rw [hm]; exact e))
              have r3 : (m == 0) = false := by simpa using hm0
              have r4 : decide (m = 0) = false := by simpa using hm0
              have HL1 := hide (HO0.out L Y z (HL.out.1 rfl) (by have := HBY.out; rw [this]; exact hdv))
              clear hm0 hdv
              by_cases hz0 : z = 0
              · have r1 : (z == 0) = true := by simpa using hz0
                have r2 : decide (z = 0) = true := by simpa using hz0
                have HL2 := hide (HT0.out _ _ _ HL1.out HZZ.out (.inl hz0))
                clear hz0
                go_wp2_with fail
                go_roundg (R + 1 - (Y + 1)).toNat
                case measure => omega
                case rel => exact ⟨L, Y + 1, rfl, by omega, by omega, rfl, HP, HL2, HB⟩
              · have r1 : (z == 0) = false := by simpa using hz0
                have r2 : decide (z = 0) = false := by simpa using hz0
                have HL2 := hide (show RowI A B C n Y z 1 (L) from ⟨fun h => absurd h (by decide), fun _ => ⟨hz0, HL1.out⟩, fun h => absurd h (by decide)⟩)
                clear hz0
                go_wp2_with fail
                go_roundg 1
                case measure => decide
                case rel => exact ⟨L, 1, rfl, .inr (.inl rfl), rfl, HP, HL2, HB, HRO⟩
          · by_cases hdv : (2 * A) ∣ -z - by_
            · obtain ⟨x, hx⟩ := hdv
              have hxz : 2 * A * x + B * Y = -z := by rw [HBY.out]; exact hit_eq hx
              have e1 : (-z - by_).tmod (2 * A) = 0 := by rw [hx]; exact Int.mul_tmod_right _ _
              have e2 : (-z - by_).tdiv (2 * A) = x := by rw [hx]; exact Int.mul_tdiv_cancel_left _ nA
              have e3 : (-z - by_) % (2 * A) = 0 := by rw [hx]; exact Int.mul_emod_right _ _
              have e4 : (-z - by_) / (2 * A) = x := by rw [hx]; exact Int.mul_ediv_cancel_left _ nA
              obtain ⟨⟨x1, x2⟩, ⟨j1, j2, j3⟩, j4, j5, j6⟩ := HHT.out x Y (-z) ((neg_sq z).trans HZZ.out) hxz
              have e5 := small_wrap x1 x2
              have HL1 := hide (HTW.out L Y z x (HL.out.2.1 rfl).2 HZZ.out (HL.out.2.1 rfl).1 hxz)
              have HLN := hide (len_max (len_map_le (p := p) (q := q) (r := r) (s := s) (HSH.out L _ (HL.out.2.1 rfl).2 (fun _ _ e => e.1))))
              clear hx hxz x1 x2
              go_wp2_with (at_builtin; refine wpList_append_own _ rfl _ _ 24 rfl W6.heap.size 34 i0 (.agg #[.int .i64 0, .int .i64 0]) 2 16 Try.underlying24 HI.out.1 HI.out.2.1 HI.out.2.2.1 HI.out.2.2.2 rfl (by decide) u9 _ _ rfl (HP.out.below (bel_obj w8 (.cells #[.int .i64 (p * x + q * Y), .int .i64 (r * x + s * Y)] 34))) ⟨w8.heap.size, 0, none⟩ 1 1 [.int .i64 (p * x + q * Y), .int .i64 (r * x + s * Y)] rfl rfl (two_new _ _ _ _) ?c2 ?c3 ?c4 ?c5 ?_)
              case c2 => intro u hu; simp at hu; rcases hu with rfl | rfl <;> rfl
              case c3 => exact HLN.out.1
              case c4 => have := HLN.out.2; omega
              case c5 => have := HB.out.size; simp at this ⊢; omega
              intro v' w9 hown hg _
              have HP2 : Hid (PO w9 W6.heap.size v' ((L ++ [(x, Y)]).map (tP p q r s))) := hide (by rw [List.map_append]; exact PO.grow (by rw [List.length_map]; exact hown))
              have HB2 := hide ((HB.out.alloc HB.out.size (.cells #[.int .i64 (p * x + q * Y), .int .i64 (r * x + s * Y)] 34)).grown hg (by have := HB.out.size; simp at this ⊢; omega) (PO.own HP.out))
              have HRO2 : Hid (Row w9 t #[.int .i64 z, .int .i64 (-z)] 3) := hide (rowI_grown (HRO.out.below (bel_obj w8 (.cells #[.int .i64 (p * x + q * Y), .int .i64 (r * x + s * Y)] 34))) (PO.below HP.out (bel_obj w8 (.cells #[.int .i64 (p * x + q * Y), .int .i64 (r * x + s * Y)] 34))) hg)
              clear hown hg c0 c1
              have hz0 := (HL.out.2.1 rfl).1
              have r1 : (z == 0) = false := by simpa using hz0
              have r2 : decide (z = 0) = false := by simpa using hz0
              have HL2 := hide (show RowI A B C n Y z 2 (L ++ [(x, Y)]) from ⟨fun h => absurd h (by decide), fun h => absurd h (by decide), fun _ => HL1.out⟩)
              clear hz0
              go_wp2_with fail
              go_roundg 0
              case measure => decide
              case rel => exact ⟨L ++ [(x, Y)], 2, rfl, .inr (.inr rfl), rfl, HP2, HL2, HB2, HRO2⟩
            · obtain ⟨m, hm⟩ : ∃ m, (-z - by_).tmod (2 * A) = m := ⟨_, rfl⟩
              have hm0 : m ≠ 0 := fun e => hdv (Int.dvd_of_tmod_eq_zero (by rw [hm]; exact e))
              have r3 : (m == 0) = false := by simpa using hm0
              have r4 : decide (m = 0) = false := by simpa using hm0
              have HL1 := hide (HT0.out L Y z (HL.out.2.1 rfl).2 HZZ.out (.inr (by have := HBY.out; rw [this]; exact hdv)))
              clear hm0 hdv
              have hz0 := (HL.out.2.1 rfl).1
              have r1 : (z == 0) = false := by simpa using hz0
              have r2 : decide (z = 0) = false := by simpa using hz0
              have HL2 := hide (show RowI A B C n Y z 2 (L) from ⟨fun h => absurd h (by decide), fun h => absurd h (by decide), fun _ => HL1.out⟩)
              clear hz0
              go_wp2_with fail
              go_roundg 0
              case measure => decide
              case rel => exact ⟨L, 2, rfl, .inr (.inr rfl), rfl, HP, HL2, HB, HRO⟩
          · have HL2 := hide (HL.out.2.2 rfl)
            go_wp2_with fail
            go_roundg (R + 1 - (Y + 1)).toNat
            case measure => omega
            case rel => exact ⟨L, Y + 1, rfl, by omega, by omega, rfl, HP, HL2, HB⟩
      · have q4 : (z * z != (N2 : Int)) = true := by simpa using hzz
        have q5 : decide (z * z = (N2 : Int)) = false := by simpa using hzz
        have HL2 := hide (HNO.out L Y z HL.out hzp (by rw [← HE.out]; exact hz3'.out) (by rw [← HE.out]; exact hz4'.out) (by rw [← HE.out]; exact hzz))
        clear hzz
        go_wp2_with fail
        go_roundg (R + 1 - (Y + 1)).toNat
        case measure => omega
        case rel => exact ⟨L, Y + 1, rfl, by omega, by omega, rfl, HP, HL2, HB⟩
    · obtain rfl : Y = R + 1 := by omega
      have q3 : decide (d * (R + 1) * (R + 1) ≤ K) = false := by have := HRB.out; simp; omega
      have HALL : Hid (Has L (fun x y => tA A B C x y = n)) := hide (HL.out.conv fun x y => ⟨fun e => e.1, fun e => ⟨e, by have := (HRW.out y R x hR0 HRB.out e).2; omega⟩⟩)
      have hsh := HSH.out L _ HALL.out (fun _ _ e => e)
      have HSL := hide (show (L.map (tP p q r s)).length ≤ 1000000000 from Nat.le_trans (len_map_le hsh) (by decide))
      clear hY hsh m3 m4o m5 m6
      go_wp2_with fail
      refine (sort_p _ W6.heap.size _ _ HB.out.size HSL.out HP.out).mono ?_
      rintro e w8 ⟨rfl, L', hperm, hsort, hrow, hb⟩
      have HB3 := hide (HB.out.trans hb)
      have HE3 := H2.out.e.below HB3.out
      obtain ⟨e0, e1, e2, e3⟩ := HE3.cells
      have HW := hide (show w.heap.size + 1 < W6.heap.size from H2.out.e.lt)
      have HROW := hide (((hrow.set (a := ⟨w.heap.size + 1, 0, none⟩) HW.out (.int .i64 0)).set (a := ⟨w.heap.size + 1, 1, none⟩) HW.out (.int .i64 0)).mono H2.out.b.size)
      have HPT : Hid (PtsOf a b c n L') := hide ⟨A, B, C, p, q, r, s, HRI.out.1, HRI.out.2, ⟨L, HALL.out, hperm⟩, hsort⟩
      have HFB := hide (((H2.out.b.trans (HB3.out.mono H2.out.b.size)).setCell (p := ⟨w.heap.size + 1, 0, none⟩) (Nat.le_succ _) (.int .i64 0)).setCell (p := ⟨w.heap.size + 1, 1, none⟩) (Nat.le_succ _) (.int .i64 0))
      have F2 := (HE3.set0 0).set1 0
      obtain ⟨G0, G1, _, _⟩ := F2.cells
      clear hperm hsort hrow hb HE3 F2
      go_wp2_with fail
      exact bodyPost_ret (v := .tuple #[u9, .agg #[.int .i64 0, .int .i64 0]]) (by simp [results, Try.results8, go_sem, G0, G1]) rfl ⟨⟨u9, L', rfl, HROW.out, HPT.out⟩, HFB.out⟩
end Go.Proofs.Ytlchmaiflcnaoaa
