/- The walks of the answers' LongValue and of the law's likeBy. Under the bounds that each names. -/
import Derived.Test.YtlchmaiflcnaoaaKOwn
import Derived.Test.YtlchmaiflcnaoaaKRedR
namespace Go.Proofs.Ytlchmaiflcnaoaa
open Go.RowKit

theorem long_lims {a b c x y : Int} (ha : a.natAbs ≤ 1000000000) (hb : b.natAbs ≤ 1000000000) (hc : c.natAbs ≤ 1000000000) (hx : x.natAbs ≤ 1000000000) (hy : y.natAbs ≤ 1000000000) :
    (x.natAbs < lim ∧ y.natAbs < lim ∧ a.natAbs < lim ∧ b.natAbs < lim ∧ c.natAbs < lim) ∧ ((x * x).natAbs < lim ∧ (x * y).natAbs < lim ∧ (y * y).natAbs < lim) ∧ ((x * x * a).natAbs < lim ∧ (x * y * b).natAbs < lim ∧ (y * y * c).natAbs < lim) ∧ (x * x * a + x * y * b).natAbs < lim ∧ (x * x * a + x * y * b + y * y * c).natAbs < lim := by
  have q1 : (x * x).natAbs ≤ 1000000000 * 1000000000 := by rw [Int.natAbs_mul]; exact Nat.mul_le_mul hx hx
  have q2 : (x * y).natAbs ≤ 1000000000 * 1000000000 := by rw [Int.natAbs_mul]; exact Nat.mul_le_mul hx hy
  have q3 : (y * y).natAbs ≤ 1000000000 * 1000000000 := by rw [Int.natAbs_mul]; exact Nat.mul_le_mul hy hy
  have r1 : (x * x * a).natAbs ≤ 1000000000 * 1000000000 * 1000000000 := by rw [Int.natAbs_mul]; exact Nat.mul_le_mul q1 ha
  have r2 : (x * y * b).natAbs ≤ 1000000000 * 1000000000 * 1000000000 := by rw [Int.natAbs_mul]; exact Nat.mul_le_mul q2 hb
  have r3 : (y * y * c).natAbs ≤ 1000000000 * 1000000000 * 1000000000 := by rw [Int.natAbs_mul]; exact Nat.mul_le_mul q3 hc
  refine ⟨⟨lim_256 (by omega), lim_256 (by omega), lim_256 (by omega), lim_256 (by omega), lim_256 (by omega)⟩, ⟨lim_256 (by omega), lim_256 (by omega), lim_256 (by omega)⟩, ⟨lim_256 (by omega), lim_256 (by omega), lim_256 (by omega)⟩, lim_256 (by omega), lim_256 (by omega)⟩

set_option maxRecDepth 100000 in
set_option maxHeartbeats 3200000 in
theorem longValue_any (a b c x y : Int) (w : World) (ha : a.natAbs ≤ 1000000000) (hb : b.natAbs ≤ 1000000000) (hc : c.natAbs ≤ 1000000000) (hx : x.natAbs ≤ 1000000000) (hy : y.natAbs ≤ 1000000000) :
    Calls Try.prog 12 #[.agg #[.int .i64 a, .int .i64 b, .int .i64 c], .int .i64 x, .int .i64 y] w (RetNew w (x * x * a + x * y * b + y * y * c)) := by
  have O0 : Hid (Own (w.alloc (.cells #[.int .i64 a, .int .i64 b, .int .i64 c] 23)) ((w.alloc (.cells #[.int .i64 a, .int .i64 b, .int .i64 c] 23)).alloc (.cells #[.bool false, .slice none 0 0] 58)) [(w.heap.size + 1, 0)]) := by
    have := (Own.start (w.alloc (.cells #[.int .i64 a, .int .i64 b, .int .i64 c] 23))).new
    rwa [World.size_alloc] at this
  have HM := hide (MC.made w a b c)
  have HL := hide (long_lims ha hb hc hx hy)
  have BA : Hid (-9223372036854775808 ≤ a ∧ a ≤ 9223372036854775807) := by unfold Hid; omega
  have BB : Hid (-9223372036854775808 ≤ b ∧ b ≤ 9223372036854775807) := by unfold Hid; omega
  have BC : Hid (-9223372036854775808 ≤ c ∧ c ≤ 9223372036854775807) := by unfold Hid; omega
  have BX : Hid (-9223372036854775808 ≤ x ∧ x ≤ 9223372036854775807) := by unfold Hid; omega
  have BY : Hid (-9223372036854775808 ≤ y ∧ y ≤ 9223372036854775807) := by unfold Hid; omega
  clear ha hb hc hx hy
  go_enter Try.func12, Try.ntmps12
  go_wp2_with fail
  refine (b_own O0.out x BX.out.1 BX.out.2).mono ?_
  rintro e w1 ⟨g1, rfl, O⟩
  have O1 := hide O
  clear O
  go_wp2_with fail
  refine (b_own O1.out x BX.out.1 BX.out.2).mono ?_
  rintro e w2 ⟨g2, rfl, O⟩
  have O2 := hide O
  clear O
  go_wp2_with fail
  refine (mul_own O2.out 2 1 0 rfl rfl rfl HL.out.1.1 HL.out.1.1 HL.out.2.1.1).mono ?_
  rintro e w3 ⟨rfl, O⟩
  simp only [List.set] at O
  have O3 := hide O.new
  clear O
  go_wp2_with fail
  refine (b_own O3.out x BX.out.1 BX.out.2).mono ?_
  rintro e w4 ⟨g4, rfl, O⟩
  have O4 := hide O
  clear O
  go_wp2_with fail
  refine (b_own O4.out y BY.out.1 BY.out.2).mono ?_
  rintro e w5 ⟨g5, rfl, O⟩
  have O5 := hide O
  clear O
  go_wp2_with fail
  refine (mul_own O5.out 2 1 0 rfl rfl rfl HL.out.1.1 HL.out.1.2.1 HL.out.2.1.2.1).mono ?_
  rintro e w6 ⟨rfl, O⟩
  simp only [List.set] at O
  have O6 := hide O.new
  clear O
  go_wp2_with fail
  refine (b_own O6.out y BY.out.1 BY.out.2).mono ?_
  rintro e w7 ⟨g7, rfl, O⟩
  have O7 := hide O
  clear O
  go_wp2_with fail
  refine (b_own O7.out y BY.out.1 BY.out.2).mono ?_
  rintro e w8 ⟨g8, rfl, O⟩
  have O8 := hide O
  clear O
  go_wp2_with fail
  refine (mul_own O8.out 2 1 0 rfl rfl rfl HL.out.1.2.1 HL.out.1.2.1 HL.out.2.1.2.2).mono ?_
  rintro e w9 ⟨rfl, O⟩
  simp only [List.set] at O
  obtain ⟨m0, m1, m2⟩ := (HM.out.below O.bel).cells
  have O9 := hide O
  clear O
  go_wp2_with fail
  refine (b_own O9.out a BA.out.1 BA.out.2).mono ?_
  rintro e w10 ⟨g10, rfl, O⟩
  have O10 := hide O
  clear O m0 m1 m2
  go_wp2_with fail
  refine (mul_own O10.out 9 9 0 rfl rfl rfl HL.out.2.1.1 HL.out.1.2.2.1 HL.out.2.2.1.1).mono ?_
  rintro e w11 ⟨rfl, O⟩
  simp only [List.set] at O
  obtain ⟨m0, m1, m2⟩ := (HM.out.below O.bel).cells
  have O11 := hide O
  clear O
  go_wp2_with fail
  refine (b_own O11.out b BB.out.1 BB.out.2).mono ?_
  rintro e w12 ⟨g12, rfl, O⟩
  have O12 := hide O
  clear O m0 m1 m2
  go_wp2_with fail
  refine (mul_own O12.out 7 7 0 rfl rfl rfl HL.out.2.1.2.1 HL.out.1.2.2.2.1 HL.out.2.2.1.2.1).mono ?_
  rintro e w13 ⟨rfl, O⟩
  simp only [List.set] at O
  have O13 := hide O
  clear O
  go_wp2_with fail
  refine (add_own O13.out 10 10 7 rfl rfl rfl HL.out.2.2.1.1 HL.out.2.2.1.2.1 HL.out.2.2.2.1).mono ?_
  rintro e w14 ⟨rfl, O⟩
  simp only [List.set] at O
  obtain ⟨m0, m1, m2⟩ := (HM.out.below O.bel).cells
  have O14 := hide O
  clear O
  go_wp2_with fail
  refine (b_own O14.out c BC.out.1 BC.out.2).mono ?_
  rintro e w15 ⟨g15, rfl, O⟩
  have O15 := hide O
  clear O m0 m1 m2
  go_wp2_with fail
  refine (mul_own O15.out 5 5 0 rfl rfl rfl HL.out.2.1.2.2 HL.out.1.2.2.2.2 HL.out.2.2.1.2.2).mono ?_
  rintro e w16 ⟨rfl, O⟩
  simp only [List.set] at O
  have O16 := hide O
  clear O
  go_wp2_with fail
  refine (add_own O16.out 11 11 5 rfl rfl rfl HL.out.2.2.2.1 HL.out.2.2.1.2.2 HL.out.2.2.2.2).mono ?_
  rintro e w17 ⟨rfl, O⟩
  simp only [List.set] at O
  have O17 := hide O
  clear O
  go_wp2_with fail
  go_ret
  exact ⟨_, rfl, Nat.le_succ _, O17.out.at_ 11 _ _ rfl, below_new O17.out.bel⟩

theorem like_law {a b c A B C p q r s : Int} (h : RInv a b c A B C p q r s) (x y : Int) :
    (p * x + q * y) * (p * x + q * y) * a + (p * x + q * y) * (r * x + s * y) * b + (r * x + s * y) * (r * x + s * y) * c = x * x * A + x * y * B + y * y * C := by
  have h1 := h.va
  have h2 := h.vb
  have h3 := h.vc
  unfold fval at h1 h3
  rw [h1, h2, h3]
  grind

/-- the blocks of likeBy's frame -/
structure LkSt (n : Nat) (w wr : World) (a b c A B C p q r s : Int) : Prop where
  f : MC wr n a b c
  g : MC wr (n + 1) A B C
  m : TC wr (n + 1 + 1) p q r s 47
  b : Below w.heap.size w wr
theorem LkSt.start (w : World) (a b c A B C p q r s : Int) : LkSt w.heap.size w (((w.alloc (.cells #[.int .i64 a, .int .i64 b, .int .i64 c] 23)).alloc (.cells #[.int .i64 A, .int .i64 B, .int .i64 C] 23)).alloc (.cells #[.int .i64 p, .int .i64 q, .int .i64 r, .int .i64 s] 47)) a b c A B C p q r s := by
  have e := World.size_alloc
  refine ⟨((MC.made w a b c).below (bel_obj _ _)).below (bel_obj _ _), ?_, ?_, bel3 _ _ _ _⟩
  · have := (MC.made (w.alloc (.cells #[.int .i64 a, .int .i64 b, .int .i64 c] 23)) A B C).below (bel_obj _ (.cells #[.int .i64 p, .int .i64 q, .int .i64 r, .int .i64 s] 47))
    rwa [e] at this
  · have := TC.made ((w.alloc (.cells #[.int .i64 a, .int .i64 b, .int .i64 c] 23)).alloc (.cells #[.int .i64 A, .int .i64 B, .int .i64 C] 23)) p q r s 47
    rwa [e, e] at this
theorem LkSt.below {n : Nat} {w wr w' : World} {a b c A B C p q r s : Int} (h : LkSt n w wr a b c A B C p q r s) (k : Below wr.heap.size wr w') : LkSt n w w' a b c A B C p q r s :=
  ⟨h.f.below k, h.g.below k, h.m.below k, h.b.trans (k.mono h.b.size)⟩
theorem LkSt.keep {n : Nat} {w W : World} {a b c A B C p q r s : Int} (h : LkSt n w W a b c A B C p q r s) :
    (W.cell? ⟨n, 0, none⟩ = some (.int .i64 a) ∧ W.cell? ⟨n, 1, none⟩ = some (.int .i64 b) ∧ W.cell? ⟨n, 2, none⟩ = some (.int .i64 c)) ∧ (W.cell? ⟨n + 1, 0, none⟩ = some (.int .i64 A) ∧ W.cell? ⟨n + 1, 1, none⟩ = some (.int .i64 B) ∧ W.cell? ⟨n + 1, 2, none⟩ = some (.int .i64 C)) ∧ (W.cell? ⟨n + 1 + 1, 0, none⟩ = some (.int .i64 p) ∧ W.cell? ⟨n + 1 + 1, 1, none⟩ = some (.int .i64 q) ∧ W.cell? ⟨n + 1 + 1, 2, none⟩ = some (.int .i64 r) ∧ W.cell? ⟨n + 1 + 1, 3, none⟩ = some (.int .i64 s)) ∧ Hid (LkSt n w W a b c A B C p q r s) :=
  ⟨h.f.cells, h.g.cells, h.m.cells, h⟩

theorem icmp_self (V : Int) : icmp V V = 0 := by unfold icmp; rw [if_neg (by omega), if_neg (by omega)]

end Go.Proofs.Ytlchmaiflcnaoaa
