/- equation.Legendre: the search. -/
import Derived.Test.YtlchmaiflcnaoaaKLgdG
namespace Go.Proofs.Ytlchmaiflcnaoaa
open Go.RowKit

/-- the searched numbers in their places: p at k + 1, q at k + 2, t at k -/
def vv (k : Nat) (p q t : Int) (n : Nat) : Int := if n = k then t else if n = (k + 1) % 3 then p else q
/-- Legendre's memory ahead of the search -/
structure LgL (w W : World) (a b c : Int) (N : Nat) : Prop where
  f : FC W w.heap.size 0 0
  m : LgM W (w.heap.size + 1) (w.heap.size + 1 + 1) (w.heap.size + 1 + 1 + 1) a b c N 3
  b : Below w.heap.size w W
theorem LgL.below {w W W' : World} {a b c : Int} {N : Nat} (h : LgL w W a b c N) (hb : Below W.heap.size W W') : LgL w W' a b c N :=
  ⟨h.f.below hb, h.m.below hb, h.b.trans (hb.mono h.b.size)⟩
theorem LgL.drw {w W : World} {a b c : Int} {N : Nat} (h : LgL w W a b c N) (n : Nat) : LgL w (W.drewN n) a b c N := h.below (below_drewN (Below.refl _ _) n)
/-- the search's memory -/
structure LgS (w W : World) (g : Nat) (a b c : Int) (N k : Nat) (p q t : Int) : Prop where
  l : LgL w W a b c N
  v : OB W g #[.int .i64 (vv k p q t 0), .int .i64 (vv k p q t 1), .int .i64 (vv k p q t 2)] 83
  lt : w.heap.size + 1 + 1 + 1 < g
theorem LgS.below {w W W' : World} {g : Nat} {a b c : Int} {N k : Nat} {p q t : Int} (h : LgS w W g a b c N k p q t) (hb : Below W.heap.size W W') : LgS w W' g a b c N k p q t :=
  ⟨h.l.below hb, h.v.below hb, h.lt⟩
theorem LgS.drw {w W : World} {g : Nat} {a b c : Int} {N k : Nat} {p q t : Int} (h : LgS w W g a b c N k p q t) (n : Nat) : LgS w (W.drewN n) g a b c N k p q t := h.below (below_drewN (Below.refl _ _) n)
theorem LgS.at {w W : World} {g : Nat} {a b c : Int} {N k : Nat} {p q t : Int} (h : LgS w W g a b c N k p q t) {i : Nat} (hi : i < 3) : W.cell? ⟨g, i, none⟩ = some (.int .i64 (vv k p q t i)) := by
  refine h.v.cell ?_
  rcases (by omega : i = 0 ∨ i = 1 ∨ i = 2) with rfl | rfl | rfl <;> rfl
theorem vv_k (k : Nat) (p q t : Int) : vv k p q t k = t := by unfold vv; rw [if_pos rfl]
theorem vv_i {k : Nat} (p q t : Int) : vv k p q t ((k + 1) % 3) = p := by unfold vv; rw [if_neg (by omega), if_pos rfl]
theorem vv_j {k : Nat} (p q t : Int) : vv k p q t ((k + 2) % 3) = q := by unfold vv; rw [if_neg (by omega), if_neg (by omega)]
theorem LgL.far {w W : World} {g : Nat} {a b c : Int} {N : Nat} (h : LgL w W a b c N) (hg : w.heap.size + 1 + 1 + 1 < g) (i : Nat) (v : Value) : LgL w (W.setCell ⟨g, i, none⟩ v) a b c N :=
  ⟨(Below.heap_setCell _ ⟨g, i, none⟩ _ _ (by show w.heap.size ≠ g; omega)).trans h.f, ⟨h.m.hs.far (by show _ ≠ g; omega) _, h.m.hl.far (by show _ ≠ g; omega) _, h.m.hn.far (by show _ ≠ g; omega) _⟩, h.b.setCell (by show w.heap.size ≤ g; omega) _⟩
theorem LgS.put {w W : World} {g : Nat} {a b c : Int} {N k : Nat} {p q t p' q' t' : Int} (h : LgS w W g a b c N k p q t) {i : Nat} (hi : i < 3) (v : Int) (he : ∀ n, n < 3 → vv k p' q' t' n = if n = i then v else vv k p q t n) :
    LgS w (W.setCell ⟨g, i, none⟩ (.int .i64 v)) g a b c N k p' q' t' := by
  refine ⟨h.l.far h.lt _ _, ?_, h.lt⟩
  have h2 := h.v.set i (.int .i64 v)
  rw [he 0 (by omega), he 1 (by omega), he 2 (by omega)]
  rcases (by omega : i = 0 ∨ i = 1 ∨ i = 2) with rfl | rfl | rfl <;> exact h2
theorem LgS.put_i {w W : World} {g : Nat} {a b c : Int} {N k : Nat} {p q t : Int} (h : LgS w W g a b c N k p q t) (hk : k < 3) (v : Int) : LgS w (W.setCell ⟨g, (k + 1) % 3, none⟩ (.int .i64 v)) g a b c N k v q t :=
  h.put (by omega) v fun n hn => by have hk' := hk; unfold vv; split <;> split <;> (try split) <;> first | rfl | omega
theorem LgS.put_j {w W : World} {g : Nat} {a b c : Int} {N k : Nat} {p q t : Int} (h : LgS w W g a b c N k p q t) (hk : k < 3) (v : Int) : LgS w (W.setCell ⟨g, (k + 2) % 3, none⟩ (.int .i64 v)) g a b c N k p v t :=
  h.put (by omega) v fun n hn => by have hk' := hk; unfold vv; split <;> split <;> (try split) <;> first | rfl | omega
theorem LgS.put_k {w W : World} {g : Nat} {a b c : Int} {N k : Nat} {p q t : Int} (h : LgS w W g a b c N k p q t) (hk : k < 3) (v : Int) : LgS w (W.setCell ⟨g, k, none⟩ (.int .i64 v)) g a b c N k p q v :=
  h.put hk v fun n hn => by unfold vv; split <;> (try split) <;> first | rfl | omega
theorem lg_mem (w : World) (a b c : Int) (N m : Nat) : LgM (World.drewN ((((w.alloc (.cells #[.int .i64 0, .int .i64 0] 26)).alloc (.cells #[.int .i64 a, .int .i64 b, .int .i64 c] 3)).alloc (.cells #[.slice (some ⟨w.heap.size + 1, 0, none⟩) 3 3] 53)).alloc (.cells #[.int .i64 (N : Int)] 3)) m) (w.heap.size + 1) (w.heap.size + 1 + 1) (w.heap.size + 1 + 1 + 1) a b c N 3 := by
  refine LgM.below (W := ((((w.alloc (.cells #[.int .i64 0, .int .i64 0] 26)).alloc (.cells #[.int .i64 a, .int .i64 b, .int .i64 c] 3)).alloc (.cells #[.slice (some ⟨w.heap.size + 1, 0, none⟩) 3 3] 53)).alloc (.cells #[.int .i64 (N : Int)] 3))) ⟨(lg_list w a b c).below (bel_e _ _), ?_, ?_⟩ (below_drewN (Below.refl _ _) m)
  · have h := OB.made ((w.alloc (.cells #[.int .i64 0, .int .i64 0] 26)).alloc (.cells #[.int .i64 a, .int .i64 b, .int .i64 c] 3)) #[.slice (some ⟨w.heap.size + 1, 0, none⟩) 3 3] 53
    rw [World.size_alloc, World.size_alloc] at h
    exact h.below (bel_e _ _)
  · have h := OB.made (((w.alloc (.cells #[.int .i64 0, .int .i64 0] 26)).alloc (.cells #[.int .i64 a, .int .i64 b, .int .i64 c] 3)).alloc (.cells #[.slice (some ⟨w.heap.size + 1, 0, none⟩) 3 3] 53)) #[.int .i64 (N : Int)] 3
    rw [World.size_alloc, World.size_alloc, World.size_alloc] at h
    exact h
theorem LgL.start (w : World) (a b c : Int) (N : Nat) : LgL w ((((w.alloc (.cells #[.int .i64 0, .int .i64 0] 26)).alloc (.cells #[.int .i64 a, .int .i64 b, .int .i64 c] 3)).alloc (.cells #[.slice (some ⟨w.heap.size + 1, 0, none⟩) 3 3] 53)).alloc (.cells #[.int .i64 (N : Int)] 3)) a b c N :=
  ⟨(((FC.fresh w).below (bel_e _ _)).below (bel_e _ _)).below (bel_e _ _), lg_mem w a b c N 0, lg_first⟩
theorem LgS.start {w W : World} {a b c : Int} {N : Nat} (h : LgL w W a b c N) (k : Nat) : LgS w (W.alloc (.cells #[.int .i64 0, .int .i64 0, .int .i64 0] 83)) W.heap.size a b c N k 0 0 0 := by
  have hv : ∀ n, vv k 0 0 0 n = 0 := fun n => by unfold vv; split <;> (try split) <;> rfl
  refine ⟨h.below (bel_e _ _), ?_, h.m.hn.lt⟩
  rw [hv, hv, hv]
  exact OB.made W _ _
theorem tri_small {a b c : Int} (h : Lg3 a b c) {i : Nat} (_hi : i < 3) : tri a b c i ≠ 0 ∧ -1000 ≤ tri a b c i ∧ tri a b c i ≤ 1000 := by
  obtain ⟨a0, b0, c0, a1, b1, c1⟩ := h
  unfold tri
  split
  · exact ⟨a0, a1⟩
  · split
    · exact ⟨b0, b1⟩
    · exact ⟨c0, c1⟩
/-- no solution whose first number is less than p, and whose second is at most m -/
def NoHit (x y z : Int) (p m : Nat) : Prop := ∀ p' q' t' : Nat, p' < p → q' ≤ m → p' + q' ≠ 0 → ¬ x * p' * p' + y * q' * q' + z * t' * t' = 0
theorem NoHit.start (x y z : Int) (m : Nat) : NoHit x y z 0 m := fun _ _ _ h => absurd h (Nat.not_lt_zero _)
/-- .. of a row -/
def NoRow (x y z : Int) (p q : Nat) : Prop := ∀ q' t' : Nat, q' < q → p + q' ≠ 0 → ¬ x * p * p + y * q' * q' + z * t' * t' = 0
theorem NoRow.start (x y z : Int) (p : Nat) : NoRow x y z p 0 := fun _ _ h => absurd h (Nat.not_lt_zero _)
theorem NoHit.next {x y z : Int} {p m : Nat} (h : NoHit x y z p m) (k : NoRow x y z p (m + 1)) : NoHit x y z (p + 1) m := fun p' q' t' hp hq hn => by
  rcases Nat.lt_succ_iff_lt_or_eq.1 hp with e | rfl
  · exact h p' q' t' e hq hn
  · exact k q' t' (by omega) hn
theorem NoRow.next {x y z : Int} {p q : Nat} (h : NoRow x y z p q) (k : ∀ t' : Nat, p + q ≠ 0 → ¬ x * p * p + y * q * q + z * t' * t' = 0) : NoRow x y z p (q + 1) := fun q' t' hq hn => by
  rcases Nat.lt_succ_iff_lt_or_eq.1 hq with e | rfl
  · exact h q' t' e hn
  · exact k t' hn
theorem root_small {m N : Nat} (h : m * m ≤ N) (hN : N ≤ 1000000000) : m ≤ 32000 := by
  rcases Nat.lt_or_ge 32000 m with h1 | h1
  · have := Nat.mul_le_mul (Nat.succ_le_of_lt h1) (Nat.succ_le_of_lt h1)
    omega
  · exact h1
theorem root_le {x m l N r : Nat} (hl : 0 < l) (hN : N = l * m) (hx : x * x ≤ m) (hb : N / l < (r + 1) * (r + 1)) : x ≤ r := by
  rw [hN, Nat.mul_div_cancel_left _ hl] at hb
  rcases Nat.lt_or_ge r x with h | h
  · have := Nat.mul_le_mul (show r + 1 ≤ x by omega) (show r + 1 ≤ x by omega)
    omega
  · exact h
theorem sq_zero {a : Int} {x : Nat} (ha : a ≠ 0) (h : a * x * x = 0) : x = 0 := by
  rcases Int.mul_eq_zero.1 h with h1 | h1
  · rcases Int.mul_eq_zero.1 h1 with h2 | h2
    · exact absurd h2 ha
    · omega
  · omega
/-- a solution within the bounds would have been hit -/
theorem no_one {x y z : Int} {N mi mj p q t : Nat} (hx : x ≠ 0) (hy : y ≠ 0) (hz : z ≠ 0) (hN : N = (x * y * z).natAbs) (hn : p ≠ 0 ∨ q ≠ 0 ∨ t ≠ 0) (he : x * p * p + y * q * q + z * t * t = 0) (hp : p * p ≤ (y * z).natAbs) (hq : q * q ≤ (x * z).natAbs) (hm : NoHit x y z (mi + 1) mj) (h1 : N / x.natAbs < (mi + 1) * (mi + 1)) (h2 : N / y.natAbs < (mj + 1) * (mj + 1)) : False := by
  have k1 := root_le (by omega) (hN.trans (by rw [Int.mul_assoc, Int.natAbs_mul])) hp h1
  have k2 := root_le (by omega) (hN.trans (by rw [show x * y * z = y * (x * z) by grind, Int.natAbs_mul])) hq h2
  refine hm p q t (by omega) k2 (fun e => ?_) he
  have e1 : p = 0 := by omega
  have e2 : q = 0 := by omega
  subst e1 e2
  have := sq_zero (a := z) (x := t) hz (by simpa using he)
  omega
theorem no_hz {a b c : Int} {N k mi mj : Nat} (h : Lg3 a b c) (hN : (a * b * c).natAbs = N) (hk : k < 3) (hm : NoHit (tri a b c ((k + 1) % 3)) (tri a b c ((k + 2) % 3)) (tri a b c k) (mi + 1) mj) (h1 : N / (tri a b c ((k + 1) % 3)).natAbs < (mi + 1) * (mi + 1)) (h2 : N / (tri a b c ((k + 2) % 3)).natAbs < (mj + 1) * (mj + 1)) : ¬ HZ a b c := by
  rintro ⟨x, y, z, h0, he, hx, hy, hz⟩
  obtain ⟨a0, b0, c0, _, _, _⟩ := h
  rcases (by omega : k = 0 ∨ k = 1 ∨ k = 2) with rfl | rfl | rfl
  · exact no_one (x := b) (y := c) (z := a) (p := y) (q := z) (t := x) b0 c0 a0 (hN.symm.trans (by rw [show a * b * c = b * c * a by grind])) (by omega) (by omega) (by rwa [Int.mul_comm c a]) (by rwa [Int.mul_comm b a]) hm h1 h2
  · exact no_one (x := c) (y := a) (z := b) (p := z) (q := x) (t := y) c0 a0 b0 (hN.symm.trans (by rw [show a * b * c = c * a * b by grind])) (by omega) (by omega) hz (by rwa [Int.mul_comm c b]) hm h1 h2
  · exact no_one (x := a) (y := b) (z := c) (p := x) (q := y) (t := z) a0 b0 c0 hN.symm (by omega) (by omega) hx hy hm h1 h2
/-- the sums and products of a round of the search -/
theorem lg_wraps {x y p q : Int} (hx : -1000 ≤ x ∧ x ≤ 1000) (hy : -1000 ≤ y ∧ y ≤ 1000) (hp : 0 ≤ p ∧ p ≤ 32000) (hq : 0 ≤ q ∧ q ≤ 32000) :
    (IntKind.i64.wrap (x * p) = x * p ∧ IntKind.i64.wrap (x * p * p) = x * p * p ∧ IntKind.i64.wrap (y * q) = y * q ∧ IntKind.i64.wrap (y * q * q) = y * q * q ∧ IntKind.i64.wrap (x * p * p + y * q * q) = x * p * p + y * q * q ∧ IntKind.i64.wrap (-(x * p * p + y * q * q)) = -(x * p * p + y * q * q)) ∧ (-(x * p * p + y * q * q)).natAbs ≤ 2048000000000 := by
  have e1 := abs_mul_le (x := x) (y := p) (p := 1000) (q := 32000) (by omega) (by omega)
  have e2 := abs_mul_le (x := x * p) (y := p) (p := 32000000) (q := 32000) (by omega) (by omega)
  have e3 := abs_mul_le (x := y) (y := q) (p := 1000) (q := 32000) (by omega) (by omega)
  have e4 := abs_mul_le (x := y * q) (y := q) (p := 32000000) (q := 32000) (by omega) (by omega)
  simp only [IntKind.wrap_i64]
  refine ⟨⟨?_, ?_, ?_, ?_, ?_, ?_⟩, ?_⟩ <;> omega
theorem LgS.put_j' {w W : World} {g : Nat} {a b c : Int} {N k j : Nat} {p q t : Int} (h : LgS w W g a b c N k p q t) (hk : k < 3) (hj : (k + 2) % 3 = j) (v : Int) : LgS w (W.setCell ⟨g, j, none⟩ (.int .i64 v)) g a b c N k p v t := by
  subst hj; exact h.put_j hk v
/-- what a hit says of the rest -/
theorem hit_rest {x y z p q r : Int} {t : Nat} (hz : z ≠ 0) (hr : -(x * p * p + y * q * q) = r) (h : x * p * p + y * q * q + z * t * t = 0) : r.tmod z = 0 ∧ r.tdiv z = ((t * t : Nat) : Int) := by
  have e : r = z * ((t * t : Nat) : Int) := by
    have : z * t * t = z * ((t * t : Nat) : Int) := by rw [Int.mul_assoc]; simp
    omega
  rw [e]
  exact ⟨Int.mul_tmod_right _ _, Int.mul_tdiv_cancel_left _ hz⟩
theorem vv_small {k p q s B : Nat} (i : Nat) (hp : p ≤ B) (hq : q ≤ B) (hs : s ≤ B) : ∃ n : Nat, vv k (p : Int) (q : Int) (s : Int) i = (n : Int) ∧ n ≤ B := by
  unfold vv
  split
  · exact ⟨s, rfl, hs⟩
  · split
    · exact ⟨p, rfl, hp⟩
    · exact ⟨q, rfl, hq⟩
/-- a hit, in the order of the numbers -/
theorem hit_sum {a b c : Int} {k p q s x y z : Nat} (hk : k < 3) (he : tri a b c ((k + 1) % 3) * p * p + tri a b c ((k + 2) % 3) * q * q + tri a b c k * s * s = 0) (hn : p + q ≠ 0) (hx : vv k (p : Int) (q : Int) (s : Int) 0 = (x : Int)) (hy : vv k (p : Int) (q : Int) (s : Int) 1 = (y : Int)) (hz : vv k (p : Int) (q : Int) (s : Int) 2 = (z : Int)) :
    a * x * x + b * y * y + c * z * z = 0 ∧ (x ≠ 0 ∨ y ≠ 0 ∨ z ≠ 0) := by
  rcases (by omega : k = 0 ∨ k = 1 ∨ k = 2) with rfl | rfl | rfl <;> simp [vv, tri] at he hx hy hz <;> rw [← hx, ← hy, ← hz] <;> exact ⟨by omega, by omega⟩
theorem root_small2 {m N : Nat} (h : m * m ≤ N) (hN : N ≤ 2048000000000) : m ≤ 1500000 := by
  rcases Nat.lt_or_ge 1500000 m with h1 | h1
  · have := Nat.mul_le_mul (Nat.succ_le_of_lt h1) (Nat.succ_le_of_lt h1)
    omega
  · exact h1
/-- what is answered at a hit -/
theorem lg_out {a b c : Int} {x y z g : Nat} (he : a * x * x + b * y * y + c * z * z = 0) (hn : x ≠ 0 ∨ y ≠ 0 ∨ z ≠ 0) (hg : Nat.gcd x (Nat.gcd y z) = g) :
    0 < g ∧ a * ((x / g : Nat) : Int) * ((x / g : Nat) : Int) + b * ((y / g : Nat) : Int) * ((y / g : Nat) : Int) + c * ((z / g : Nat) : Int) * ((z / g : Nat) : Int) = 0 ∧ Nat.gcd (x / g) (Nat.gcd (y / g) (z / g)) = 1 := by
  have g0 : 0 < g := by
    rcases Nat.eq_zero_or_pos g with h | h
    · rw [h, Nat.gcd_eq_zero_iff, Nat.gcd_eq_zero_iff] at hg
      omega
    · exact h
  have d1 : g ∣ x := hg ▸ Nat.gcd_dvd_left _ _
  have d2 : g ∣ Nat.gcd y z := hg ▸ Nat.gcd_dvd_right _ _
  have d3 : g ∣ y := Nat.dvd_trans d2 (Nat.gcd_dvd_left _ _)
  have d4 : g ∣ z := Nat.dvd_trans d2 (Nat.gcd_dvd_right _ _)
  refine ⟨g0, ?_, ?_⟩
  · obtain ⟨x', rfl⟩ := d1
    obtain ⟨y', rfl⟩ := d3
    obtain ⟨z', rfl⟩ := d4
    rw [Nat.mul_div_cancel_left _ g0, Nat.mul_div_cancel_left _ g0, Nat.mul_div_cancel_left _ g0]
    have e : (g : Int) * (g : Int) * (a * x' * x' + b * y' * y' + c * z' * z') = 0 := by
      rw [← he]
      simp only [Int.natCast_mul]
      grind
    rcases Int.mul_eq_zero.1 e with h | h
    · rcases Int.mul_eq_zero.1 h with h | h <;> omega
    · exact h
  · rw [Nat.gcd_div d3 d4, Nat.gcd_div d1 d2, hg, Nat.div_self g0]
theorem LgS.same {w W : World} {g : Nat} {a b c : Int} {N k : Nat} {p q t : Int} (h : LgS w W g a b c N k p q t) : LgS w ((W.setCell ⟨w.heap.size, 0, none⟩ (.int .i64 0)).setCell ⟨w.heap.size, 1, none⟩ (.int .i64 0)) g a b c N k p q t := by
  have n1 := h.lt
  refine ⟨⟨(h.l.f.set0 0).set1 0, ⟨(h.l.m.hs.far ?_ _).far ?_ _, (h.l.m.hl.far ?_ _).far ?_ _, (h.l.m.hn.far ?_ _).far ?_ _⟩, below_fault h.l.b (Nat.le_refl _)⟩, (h.v.far ?_ _).far ?_ _, h.lt⟩
  all_goals
    show _ ≠ w.heap.size
    omega
theorem gcd_le_add (m n : Nat) : Nat.gcd m n ≤ m + n := by
  rcases Nat.eq_zero_or_pos m with rfl | h
  · simp
  · have := Nat.gcd_le_left n h
    omega
/-- no hit where the rest is no square -/
theorem no_square {Q : Int} {s t' : Nat} (s1 : s * s ≤ Q.toNat) (s2 : Q.toNat < (s + 1) * (s + 1)) (hq : Q = ((t' * t' : Nat) : Int)) : (s : Int) * s = Q := by
  have e : Q.toNat = t' * t' := by omega
  rw [e] at s1 s2
  have h : s = t' := root_one s1 s2 (Nat.le_refl _) (Nat.mul_lt_mul_of_lt_of_lt (Nat.lt_succ_self _) (Nat.lt_succ_self _))
  rw [hq, h]
  simp
end Go.Proofs.Ytlchmaiflcnaoaa
