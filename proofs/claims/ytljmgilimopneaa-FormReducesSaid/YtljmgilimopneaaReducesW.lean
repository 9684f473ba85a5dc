/- The walk of the law FormReduces. -/
import Derived.Test.YtljmgilimopneaaLong
import Derived.Test.YtljmgilimopneaaFormI
namespace Go.Proofs.Ytljmgilimopneaa
open Go.RowKit

/-- the reduced form's fault and what Reduced says of it -/
theorem red_good {a b c A B C p q r s : Int} (h : RInv a b c A B C p q r s) (hg : Int.gcd a (Int.gcd b c) = 1) (h1 : -A < B) (h2 : B ≤ A) (h3 : A < C ∨ A = C ∧ 0 ≤ B) (hd : b * b - 4 * a * c < 0) : formF A B C = (0, 0) ∧ redB A B C = true := by
  have a1 := h.a1
  have a2 := h.a2
  have c1 := h.c1
  have c2 := h.c2
  have hdd := h.d
  constructor
  · have hs : smallF A B C = (0, 0) := by
      unfold smallF
      rw [lookS, if_pos (small_of (by omega)), lookS, if_pos (small_of (by omega)), lookS, if_pos (small_of (by omega)), lookS]
    refine formF_none hs (by omega) ?_
    have g1 : (Int.gcd A (Int.gcd B C) : Int) ∣ A := Int.gcd_dvd_left _ _
    have g2 : (Int.gcd A (Int.gcd B C) : Int) ∣ Int.gcd B C := Int.gcd_dvd_right _ _
    have g3 := Int.dvd_trans g2 (Int.gcd_dvd_left B C)
    have g4 := Int.dvd_trans g2 (Int.gcd_dvd_right B C)
    obtain ⟨k1, k2, k3⟩ := (h.g _).1 ⟨g1, g3, g4⟩
    have k4 := Int.dvd_coe_gcd k1 (Int.dvd_coe_gcd k2 k3)
    rw [hg] at k4
    have := Int.eq_one_of_dvd_one (by omega) k4
    omega
  · unfold redB
    simp only [Bool.and_eq_true, Bool.or_eq_true, decide_eq_true_eq]
    omega

/-- the blocks of FormReduces' frame -/
structure FrSt (w W : World) (n1 n2 n3 : Nat) (a b c A B C p q r s x y : Int) : Prop where
  f : MC W w.heap.size a b c
  e1 : FC W n1 x y
  g : MC W n2 A B C
  m : TC W (n2 + 1) p q r s 27
  e2 : FC W (n2 + 1 + 1) x y
  e3 : FC W n3 x y
  b : Below w.heap.size w W
theorem FrSt.below {w W W' : World} {n1 n2 n3 : Nat} {a b c A B C p q r s x y : Int} (h : FrSt w W n1 n2 n3 a b c A B C p q r s x y) (k : Below W.heap.size W W') : FrSt w W' n1 n2 n3 a b c A B C p q r s x y :=
  ⟨h.f.below k, h.e1.below k, h.g.below k, h.m.below k, h.e2.below k, h.e3.below k, h.b.trans (k.mono h.b.size)⟩
theorem FrSt.keep {w W : World} {n1 n2 n3 : Nat} {a b c A B C p q r s x y : Int} (h : FrSt w W n1 n2 n3 a b c A B C p q r s x y) :
    (W.cell? ⟨w.heap.size, 0, none⟩ = some (.int .i64 a) ∧ W.cell? ⟨w.heap.size, 1, none⟩ = some (.int .i64 b) ∧ W.cell? ⟨w.heap.size, 2, none⟩ = some (.int .i64 c)) ∧ (W.cell? ⟨n2, 0, none⟩ = some (.int .i64 A) ∧ W.cell? ⟨n2, 1, none⟩ = some (.int .i64 B) ∧ W.cell? ⟨n2, 2, none⟩ = some (.int .i64 C)) ∧ (W.cell? ⟨n2 + 1, 0, none⟩ = some (.int .i64 p) ∧ W.cell? ⟨n2 + 1, 1, none⟩ = some (.int .i64 q) ∧ W.cell? ⟨n2 + 1, 2, none⟩ = some (.int .i64 r) ∧ W.cell? ⟨n2 + 1, 3, none⟩ = some (.int .i64 s)) ∧ Hid (FrSt w W n1 n2 n3 a b c A B C p q r s x y) :=
  ⟨h.f.cells, h.g.cells, h.m.cells, h⟩

theorem field_code2 (x y : Int) (w : World) : (Instr.field 25 (.agg #[.int .i64 x, .int .i64 y]) 0).run Try.prog w = .ok (.int .i64 x) w := by kernel_rfl

theorem equal_four (w : World) : Sem.run Try.prog (Op.equalIn 10000 27 (.agg #[.int .i64 0, .int .i64 0, .int .i64 0, .int .i64 0]) (.agg #[.int .i64 0, .int .i64 0, .int .i64 0, .int .i64 0])) w = .ok true w := by kernel_rfl

set_option maxRecDepth 100000 in
set_option maxHeartbeats 6400000 in
theorem freduces_any (a b c : Int) (w : World) : Calls Try.prog 3 #[.agg #[.int .i64 a, .int .i64 b, .int .i64 c]] w fun e w' => e = .returned (.bool true) ∧ Below w.heap.size w w' := by
  have CK := fun W => hide (check_any a b c W)
  have CF := fun W => hide (formFault_any a b c W)
  have CR := fun W => hide (Reduce_any a b c W)
  have CB := fun W => hide (formBegun_any W)
  have M0 := hide (MC.made w a b c)
  unfold RetFault at CK CF
  unfold RetReduce at CR
  have HZ := hide (fun h => formF_zero (a := a) (b := b) (c := c) h)
  obtain ⟨⟨x, y⟩, hF⟩ : ∃ F, formF a b c = F := ⟨_, rfl⟩
  rw [hF] at CK CF CR HZ
  clear hF
  simp only [fv] at CK CF CR
  go_enter Try.func3, Try.ntmps3
  go_wp2_with fail
  refine (CK _).out.mono ?_
  rintro e w1 ⟨rfl, hb⟩
  have M1 := M0.out.below hb
  have B1 := hide (below_new hb)
  have l1 := M1.lt
  have E1 := hide (FC.made w1 x y)
  have M1' := hide (M1.below (bel_obj w1 (.cells #[.int .i64 x, .int .i64 y] 25)))
  obtain ⟨a0, a1, a2⟩ := M1.cells
  clear hb M1
  go_wp2_with fail
  refine (CR _).out.mono ?_
  rintro e w2 ⟨A, B, C, p, q, r, s, rfl, hz, hr, hb⟩
  have M2 := M1'.out.below hb
  have E2 := hide (E1.out.below hb)
  have B2 := hide ((B1.out.alloc B1.out.size (.cells #[.int .i64 x, .int .i64 y] 25)).trans (hb.mono (Nat.le_trans B1.out.size (by simp))))
  have l2 := M2.lt
  have l3 := E2.out.lt
  have HR := hide (And.intro hz hr)
  clear a0 a1 a2 hz hr
  obtain ⟨a0, a1, a2⟩ := M2.cells
  have S2 : Hid (FrSt w (((w2.alloc (.cells #[.int .i64 A, .int .i64 B, .int .i64 C] 23)).alloc (.cells #[.int .i64 p, .int .i64 q, .int .i64 r, .int .i64 s] 27)).alloc (.cells #[.int .i64 x, .int .i64 y] 25)) w1.heap.size w2.heap.size w1.heap.size a b c A B C p q r s x y) := by
    have z := World.size_alloc
    refine ⟨((M2.below (bel_obj _ _)).below (bel_obj _ _)).below (bel_obj _ _), ((E2.out.below (bel_obj _ _)).below (bel_obj _ _)).below (bel_obj _ _), ((MC.made w2 A B C).below (bel_obj _ _)).below (bel_obj _ _), ?_, ?_, ((E2.out.below (bel_obj _ _)).below (bel_obj _ _)).below (bel_obj _ _), B2.out.trans ((bel3 _ _ _ _).mono B2.out.size)⟩
    · have := (TC.made (w2.alloc (.cells #[.int .i64 A, .int .i64 B, .int .i64 C] 23)) p q r s 27).below (bel_obj _ (.cells #[.int .i64 x, .int .i64 y] 25))
      rwa [z] at this
    · have := FC.made ((w2.alloc (.cells #[.int .i64 A, .int .i64 B, .int .i64 C] 23)).alloc (.cells #[.int .i64 p, .int .i64 q, .int .i64 r, .int .i64 s] 27)) x y
      rwa [z, z] at this
  clear hb M2 a0 a1 a2
  obtain ⟨a0, a1, a2⟩ := S2.out.f.cells
  go_wp2_with fail
  refine (CF _).out.mono ?_
  rintro e w3 ⟨rfl, hb⟩
  have S3' := S2.out.below hb
  have S3 : Hid (FrSt w (w3.alloc (.cells #[.int .i64 x, .int .i64 y] 25)) w1.heap.size w2.heap.size w3.heap.size a b c A B C p q r s x y) := by
    obtain ⟨h1, h2, h3, h4, h5, h6, h7⟩ := S3'.below (bel_obj w3 (.cells #[.int .i64 x, .int .i64 y] 25))
    exact ⟨h1, h2, h3, h4, h5, FC.made w3 x y, h7⟩
  clear hb S3' a0 a1 a2
  go_wp2_with fail
  refine (CB _).out.mono ?_
  rintro e w4 ⟨rfl, hb⟩
  have S4 := S3.out.below hb
  obtain ⟨b0, b1, _, _⟩ := S4.e1.cells
  obtain ⟨c0, c1, _, _⟩ := S4.e2.cells
  obtain ⟨d0, d1, _, _⟩ := S4.e3.cells
  obtain ⟨g0, g1, g2⟩ := S4.g.cells
  obtain ⟨t0, t1, t2, t3⟩ := S4.m.cells
  have HS := hide S4
  clear hb S4
  by_cases hx : x = 0
  · subst hx
    obtain ⟨h0, h1, h2, h3, h4, h5, h6, h7⟩ := HZ.out rfl
    obtain rfl : y = 0 := by injection h0
    obtain ⟨hi, k1, k2, k3⟩ := HR.out.2 rfl
    obtain ⟨⟨p1, p2, r1, r2⟩, ⟨q1, q2, s1, s2⟩, hB1, hB2⟩ := hi.small h4 h1.2 h5 h3.2 h6
    obtain ⟨f0, f1⟩ := red_good hi h7 k1 k2 k3 h6
    have dd := hi.d
    have i1 := hi.a1
    have i2 := hi.a2
    have i3 := hi.c1
    have i4 := hi.c2
    have CL := fun W => hide (likeBy_any a b c A B C p q r s W hi (by omega) (by omega) (by omega) (by omega) (by omega) (by omega) (by omega) (by omega) (by omega) (by omega))
    have C1 := fun W => hide (reduced_any A B C W (by omega) (by omega))
    have C2 := fun W => hide (formFault_any A B C W)
    unfold RetFault at C2
    rw [f1] at C1
    rw [f0] at C2
    simp only [fv] at C2
    have D1 := fun W => hide (rdisc_any a b c W (by omega) (by omega) (by omega))
    have D2 := fun W => hide (rdisc_any A B C W (by omega) (by omega) (by omega))
    rw [dd] at D2
    have hbb := abs_mul_le (x := b) (y := b) (p := 1000000) (q := 1000000) (by omega) (by omega)
    have hac := abs_mul_le (x := 4 * a) (y := c) (p := 4000000) (q := 1000000) (by omega) (by omega)
    obtain ⟨D, hD⟩ : ∃ D, b * b - 4 * a * c = D := ⟨_, rfl⟩
    rw [hD] at D1 D2
    have CC := fun W => hide (combined_any 1 D (-1) D W (by omega) (by omega) (by omega) (by omega))
    rw [show 1 * D + -1 * D = 0 from by omega] at CC
    have u1 : decide (100000000 < p) = false := by rw [decide_eq_false_iff_not]; omega
    have u2 : decide (p < -100000000) = false := by rw [decide_eq_false_iff_not]; omega
    have u3 : decide (100000000 < q) = false := by rw [decide_eq_false_iff_not]; omega
    have u4 : decide (q < -100000000) = false := by rw [decide_eq_false_iff_not]; omega
    have u5 : decide (100000000 < r) = false := by rw [decide_eq_false_iff_not]; omega
    have u6 : decide (r < -100000000) = false := by rw [decide_eq_false_iff_not]; omega
    have u7 : decide (100000000 < s) = false := by rw [decide_eq_false_iff_not]; omega
    have u8 : decide (s < -100000000) = false := by rw [decide_eq_false_iff_not]; omega
    have hdet := hi.det
    have m1 := prod_le (x := p) (y := s) (N := 2000000) (M := 2000000) (by omega) (by omega) (by omega) (by omega)
    have m2 := prod_le (x := q) (y := r) (N := 2000000) (M := 2000000) (by omega) (by omega) (by omega) (by omega)
    have W1 : IntKind.i64.wrap (p * s) = p * s := by rw [IntKind.wrap_i64]; omega
    have W2 : IntKind.i64.wrap (q * r) = q * r := by rw [IntKind.wrap_i64]; omega
    have W3 : IntKind.i64.wrap (p * s - q * r) = 1 := by rw [IntKind.wrap_i64]; omega
    have LZ := hide (lim_256 (x := Int.natAbs 0) (by decide))
    have KF := field_code2
    clear h0 h1 h2 h3 h4 h5 h6 h7 hi k1 k2 k3 p1 p2 q1 q2 r1 r2 s1 s2 hB1 hB2 f0 f1 dd i1 i2 i3 i4 hbb hac hD hdet m1 m2 HZ HR
    go_wp2_with fail
    refine wp_loop_rounds 5 ?_
    rw [rounds_succ]
    go_wp2_with fail
    rw [rounds_succ]
    go_wp2_with fail
    rw [rounds_succ]
    go_wp2_with fail
    rw [rounds_succ]
    go_wp2_with fail
    rw [rounds_succ]
    go_wp2_with fail
    clear u1 u2 u3 u4 u5 u6 u7 u8 b0 b1 c0 c1 d0 d1 g0 g1 g2 t0 t1 t2 t3
    go_region_held3 (fun W => (W.cell? ⟨w.heap.size, 0, none⟩ = some (.int .i64 a) ∧ W.cell? ⟨w.heap.size, 1, none⟩ = some (.int .i64 b) ∧ W.cell? ⟨w.heap.size, 2, none⟩ = some (.int .i64 c)) ∧ (W.cell? ⟨w2.heap.size, 0, none⟩ = some (.int .i64 A) ∧ W.cell? ⟨w2.heap.size, 1, none⟩ = some (.int .i64 B) ∧ W.cell? ⟨w2.heap.size, 2, none⟩ = some (.int .i64 C)) ∧ (W.cell? ⟨w2.heap.size + 1, 0, none⟩ = some (.int .i64 p) ∧ W.cell? ⟨w2.heap.size + 1, 1, none⟩ = some (.int .i64 q) ∧ W.cell? ⟨w2.heap.size + 1, 2, none⟩ = some (.int .i64 r) ∧ W.cell? ⟨w2.heap.size + 1, 3, none⟩ = some (.int .i64 s)) ∧ Hid (FrSt w W w1.heap.size w2.heap.size w3.heap.size a b c A B C p q r s 0 0)) (first | exact FrSt.keep (HS.out.below (below_drewN (Below.refl _ _) 1)) | assumption | (have hx := ‹(_ ∧ _ ∧ _) ∧ (_ ∧ _ ∧ _) ∧ (_ ∧ _ ∧ _ ∧ _) ∧ Hid (FrSt _ _ _ _ _ _ _ _ _ _ _ _ _ _ _ _ _)›; have hy := hx.2.2.2.out.below hb; clear hx hb; exact FrSt.keep hy)) (first | (go_at_call 12; refine (C1 _).out.mono ?_; rintro e w5 ⟨rfl, hb⟩) | (go_at_call 10; refine (C2 _).out.mono ?_; rintro e w5 ⟨rfl, hb⟩) | (go_at_call 14; (first | (with_reducible refine (D1 _).out.mono ?_) | (with_reducible refine (D2 _).out.mono ?_)); rintro e w5 ⟨rfl, hb⟩) | (go_at_call 13; refine (CC _).out.mono ?_; rintro e w5 ⟨g5, rfl, hg5, hi5, hb⟩) | (go_at_call 15; refine (sign_int _ 0 _ (by assumption) LZ.out).mono ?_; rintro e w5 ⟨rfl, rfl⟩) | (go_at_call 16; refine (CL _).out.mono ?_; rintro e w5 ⟨rfl, hb⟩))
    all_goals
      rename_i hS
      have HS2 := hS.2.2.2.out.b
      clear hS
      go_wp2_with fail
      go_ret
      exact ⟨rfl, HS2⟩
  · have qx : (x != 0) = true := by simpa using hx
    obtain ⟨rfl, rfl, rfl, rfl, rfl, rfl, rfl⟩ := HR.out.1 hx
    have EQ := equal_four
    clear hx HZ HR
    go_wp2_with fail
    go_ret
    exact ⟨rfl, HS.out.b⟩
end Go.Proofs.Ytljmgilimopneaa
