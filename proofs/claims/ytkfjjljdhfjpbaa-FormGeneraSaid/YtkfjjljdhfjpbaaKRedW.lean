/- The walk of quad.reduce, for forms of small numbers. -/
import Derived.Test.YtkfjjljdhfjpbaaKFormF
import Derived.Test.YtkfjjljdhfjpbaaKFormH
import Derived.Test.YtkfjjljdhfjpbaaKRedLaw
import Derived.Deep.LoopGhost
namespace Go.Proofs.Ytkfjjljdhfjpbaa
open Go.RowKit

/-- block g holds four integers -/
def TC (w : World) (g : Nat) (p q r s : Int) (T : TypeId) : Prop := w.heap[g]? = some (.cells #[.int .i64 p, .int .i64 q, .int .i64 r, .int .i64 s] T (0, 0))
theorem TC.made (w : World) (p q r s : Int) (T : TypeId) : TC (w.alloc (.cells #[.int .i64 p, .int .i64 q, .int .i64 r, .int .i64 s] T)) w.heap.size p q r s T := by
  show (w.heap.push _)[w.heap.size]? = _
  simp
theorem TC.lt {w : World} {g : Nat} {p q r s : Int} {T : TypeId} (h : TC w g p q r s T) : g < w.heap.size := heap_lt h
theorem TC.below {w w' : World} {g : Nat} {p q r s : Int} {T : TypeId} (h : TC w g p q r s T) (k : Below w.heap.size w w') : TC w' g p q r s T := (k.block g h.lt).trans h
theorem TC.cells {w : World} {g : Nat} {p q r s : Int} {T : TypeId} (h : TC w g p q r s T) : w.cell? ⟨g, 0, none⟩ = some (.int .i64 p) ∧ w.cell? ⟨g, 1, none⟩ = some (.int .i64 q) ∧ w.cell? ⟨g, 2, none⟩ = some (.int .i64 r) ∧ w.cell? ⟨g, 3, none⟩ = some (.int .i64 s) := by
  unfold TC at h
  exact ⟨by simp [World.cell?, h], by simp [World.cell?, h], by simp [World.cell?, h], by simp [World.cell?, h]⟩
theorem TC.frozen {w : World} {g : Nat} {p q r s : Int} {T : TypeId} (h : TC w g p q r s T) (k : Nat) : w.frozen? ⟨g, k, none⟩ = false := by
  unfold TC at h
  simp [World.frozen?, h]
theorem TC.set0 {w : World} {g : Nat} {p q r s : Int} {T : TypeId} (h : TC w g p q r s T) (x : Int) : TC (w.setCell ⟨g, 0, none⟩ (.int .i64 x)) g x q r s T := by
  unfold TC at h ⊢
  simp [World.setCell, Array.getElem?_modify, h]
theorem TC.set1 {w : World} {g : Nat} {p q r s : Int} {T : TypeId} (h : TC w g p q r s T) (x : Int) : TC (w.setCell ⟨g, 1, none⟩ (.int .i64 x)) g p x r s T := by
  unfold TC at h ⊢
  simp [World.setCell, Array.getElem?_modify, h]
theorem TC.set2 {w : World} {g : Nat} {p q r s : Int} {T : TypeId} (h : TC w g p q r s T) (x : Int) : TC (w.setCell ⟨g, 2, none⟩ (.int .i64 x)) g p q x s T := by
  unfold TC at h ⊢
  simp [World.setCell, Array.getElem?_modify, h]
theorem TC.set3 {w : World} {g : Nat} {p q r s : Int} {T : TypeId} (h : TC w g p q r s T) (x : Int) : TC (w.setCell ⟨g, 3, none⟩ (.int .i64 x)) g p q r x T := by
  unfold TC at h ⊢
  simp [World.setCell, Array.getElem?_modify, h]
theorem TC.other {w : World} {g : Nat} {p q r s : Int} {T : TypeId} (h : TC w g p q r s T) {a : Addr} (hp : a.block ≠ g) (v : Value) : TC (w.setCell a v) g p q r s T := by
  unfold TC at h ⊢
  simp [World.setCell, Array.getElem?_modify, hp, h]

/-- the blocks of reduce's frame -/
structure RedSt (n : Nat) (w wr : World) (A B C p q r s : Int) : Prop where
  f : MC wr n A B C
  g : MC wr (n + 1) 0 0 0
  z : TC wr (n + 1 + 1) 0 0 0 0 43
  m : TC wr (n + 1 + 1 + 1) p q r s 43
  b : Below n w wr
theorem RedSt.start (w : World) (A B C : Int) : RedSt w.heap.size w ((((w.alloc (.cells #[.int .i64 A, .int .i64 B, .int .i64 C] 23)).alloc (.cells #[.int .i64 0, .int .i64 0, .int .i64 0] 23)).alloc (.cells #[.int .i64 0, .int .i64 0, .int .i64 0, .int .i64 0] 43)).alloc (.cells #[.int .i64 1, .int .i64 0, .int .i64 0, .int .i64 1] 43)) A B C 1 0 0 1 := by
  have s := World.size_alloc
  refine ⟨(((MC.made w A B C).below (bel_obj _ _)).below (bel_obj _ _)).below (bel_obj _ _), ?_, ?_, ?_, ?_⟩
  · have := ((MC.made (w.alloc (.cells #[.int .i64 A, .int .i64 B, .int .i64 C] 23)) 0 0 0).below (bel_obj _ (.cells #[.int .i64 0, .int .i64 0, .int .i64 0, .int .i64 0] 43))).below (bel_obj _ (.cells #[.int .i64 1, .int .i64 0, .int .i64 0, .int .i64 1] 43))
    rwa [s] at this
  · have := (TC.made ((w.alloc (.cells #[.int .i64 A, .int .i64 B, .int .i64 C] 23)).alloc (.cells #[.int .i64 0, .int .i64 0, .int .i64 0] 23)) 0 0 0 0 43).below (bel_obj _ (.cells #[.int .i64 1, .int .i64 0, .int .i64 0, .int .i64 1] 43))
    rwa [s, s] at this
  · have := TC.made (((w.alloc (.cells #[.int .i64 A, .int .i64 B, .int .i64 C] 23)).alloc (.cells #[.int .i64 0, .int .i64 0, .int .i64 0] 23)).alloc (.cells #[.int .i64 0, .int .i64 0, .int .i64 0, .int .i64 0] 43)) 1 0 0 1 43
    rwa [s, s, s] at this
  · go_grown
theorem RedSt.norm {n : Nat} {w wr : World} {A B C p q r s : Int} (h : RedSt n w wr A B C p q r s) (A' B' C' q' s' : Int) :
    RedSt n w (((((wr.setCell ⟨n, 0, none⟩ (.int .i64 A')).setCell ⟨n, 1, none⟩ (.int .i64 B')).setCell ⟨n, 2, none⟩ (.int .i64 C')).setCell ⟨n + 1 + 1 + 1, 1, none⟩ (.int .i64 q')).setCell ⟨n + 1 + 1 + 1, 3, none⟩ (.int .i64 s')) A' B' C' p q' r s' := by
  have e1 : ∀ k, (⟨n, k, none⟩ : Addr).block ≠ n + 1 := fun k => by show n ≠ n + 1; omega
  have e2 : ∀ k, (⟨n, k, none⟩ : Addr).block ≠ n + 1 + 1 := fun k => by show n ≠ n + 1 + 1; omega
  have e3 : ∀ k, (⟨n, k, none⟩ : Addr).block ≠ n + 1 + 1 + 1 := fun k => by show n ≠ n + 1 + 1 + 1; omega
  have f1 : ∀ k, (⟨n + 1 + 1 + 1, k, none⟩ : Addr).block ≠ n := fun k => by show n + 1 + 1 + 1 ≠ n; omega
  have f2 : ∀ k, (⟨n + 1 + 1 + 1, k, none⟩ : Addr).block ≠ n + 1 := fun k => by show n + 1 + 1 + 1 ≠ n + 1; omega
  have f3 : ∀ k, (⟨n + 1 + 1 + 1, k, none⟩ : Addr).block ≠ n + 1 + 1 := fun k => by show n + 1 + 1 + 1 ≠ n + 1 + 1; omega
  refine ⟨((((h.f.set0 A').set1 B').set2 C').other (f1 1) _).other (f1 3) _, ((((h.g.other (e1 0) _).other (e1 1) _).other (e1 2) _).other (f2 1) _).other (f2 3) _, ((((h.z.other (e2 0) _).other (e2 1) _).other (e2 2) _).other (f3 1) _).other (f3 3) _, ((((h.m.other (e3 0) _).other (e3 1) _).other (e3 2) _).set1 q').set3 s', ?_⟩
  exact ((((h.b.setCell (p := ⟨n, 0, none⟩) (Nat.le_refl _) _).setCell (p := ⟨n, 1, none⟩) (Nat.le_refl _) _).setCell (p := ⟨n, 2, none⟩) (Nat.le_refl _) _).setCell (p := ⟨n + 1 + 1 + 1, 1, none⟩) (Nat.le_add_right _ 3) _).setCell (p := ⟨n + 1 + 1 + 1, 3, none⟩) (Nat.le_add_right _ 3) _
theorem RedSt.swap {n : Nat} {w wr : World} {A B C p q r s : Int} (h : RedSt n w wr A B C p q r s) (A' B' C' p' q' r' s' : Int) :
    RedSt n w (((((((wr.setCell ⟨n, 0, none⟩ (.int .i64 A')).setCell ⟨n, 1, none⟩ (.int .i64 B')).setCell ⟨n, 2, none⟩ (.int .i64 C')).setCell ⟨n + 1 + 1 + 1, 0, none⟩ (.int .i64 p')).setCell ⟨n + 1 + 1 + 1, 1, none⟩ (.int .i64 q')).setCell ⟨n + 1 + 1 + 1, 2, none⟩ (.int .i64 r')).setCell ⟨n + 1 + 1 + 1, 3, none⟩ (.int .i64 s')) A' B' C' p' q' r' s' := by
  have e1 : ∀ k, (⟨n, k, none⟩ : Addr).block ≠ n + 1 := fun k => by show n ≠ n + 1; omega
  have e2 : ∀ k, (⟨n, k, none⟩ : Addr).block ≠ n + 1 + 1 := fun k => by show n ≠ n + 1 + 1; omega
  have e3 : ∀ k, (⟨n, k, none⟩ : Addr).block ≠ n + 1 + 1 + 1 := fun k => by show n ≠ n + 1 + 1 + 1; omega
  have f1 : ∀ k, (⟨n + 1 + 1 + 1, k, none⟩ : Addr).block ≠ n := fun k => by show n + 1 + 1 + 1 ≠ n; omega
  have f2 : ∀ k, (⟨n + 1 + 1 + 1, k, none⟩ : Addr).block ≠ n + 1 := fun k => by show n + 1 + 1 + 1 ≠ n + 1; omega
  have f3 : ∀ k, (⟨n + 1 + 1 + 1, k, none⟩ : Addr).block ≠ n + 1 + 1 := fun k => by show n + 1 + 1 + 1 ≠ n + 1 + 1; omega
  have l3 : n ≤ n + 1 + 1 + 1 := Nat.le_add_right _ 3
  refine ⟨((((((h.f.set0 A').set1 B').set2 C').other (f1 0) _).other (f1 1) _).other (f1 2) _).other (f1 3) _, ((((((h.g.other (e1 0) _).other (e1 1) _).other (e1 2) _).other (f2 0) _).other (f2 1) _).other (f2 2) _).other (f2 3) _, ((((((h.z.other (e2 0) _).other (e2 1) _).other (e2 2) _).other (f3 0) _).other (f3 1) _).other (f3 2) _).other (f3 3) _, ((((((h.m.other (e3 0) _).other (e3 1) _).other (e3 2) _).set0 p').set1 q').set2 r').set3 s', ?_⟩
  exact ((((((h.b.setCell (p := ⟨n, 0, none⟩) (Nat.le_refl _) _).setCell (p := ⟨n, 1, none⟩) (Nat.le_refl _) _).setCell (p := ⟨n, 2, none⟩) (Nat.le_refl _) _).setCell (p := ⟨n + 1 + 1 + 1, 0, none⟩) l3 _).setCell (p := ⟨n + 1 + 1 + 1, 1, none⟩) l3 _).setCell (p := ⟨n + 1 + 1 + 1, 2, none⟩) l3 _).setCell (p := ⟨n + 1 + 1 + 1, 3, none⟩) l3 _

theorem MC.drew {w : World} {g : Nat} {a b c : Int} (h : MC w g a b c) : MC w.drew g a b c := h
theorem TC.drew {w : World} {g : Nat} {p q r s : Int} {T : TypeId} (h : TC w g p q r s T) : TC w.drew g p q r s T := h
theorem RedSt.done {n : Nat} {w wr : World} {A B C p q r s : Int} (h : RedSt n w wr A B C p q r s) (A' B' C' p' q' r' s' : Int) :
    MC (((((((wr.setCell ⟨n + 1, 0, none⟩ (.int .i64 A')).setCell ⟨n + 1, 1, none⟩ (.int .i64 B')).setCell ⟨n + 1, 2, none⟩ (.int .i64 C')).setCell ⟨n + 1 + 1, 0, none⟩ (.int .i64 p')).setCell ⟨n + 1 + 1, 1, none⟩ (.int .i64 q')).setCell ⟨n + 1 + 1, 2, none⟩ (.int .i64 r')).setCell ⟨n + 1 + 1, 3, none⟩ (.int .i64 s')) (n + 1) A' B' C' ∧
    TC (((((((wr.setCell ⟨n + 1, 0, none⟩ (.int .i64 A')).setCell ⟨n + 1, 1, none⟩ (.int .i64 B')).setCell ⟨n + 1, 2, none⟩ (.int .i64 C')).setCell ⟨n + 1 + 1, 0, none⟩ (.int .i64 p')).setCell ⟨n + 1 + 1, 1, none⟩ (.int .i64 q')).setCell ⟨n + 1 + 1, 2, none⟩ (.int .i64 r')).setCell ⟨n + 1 + 1, 3, none⟩ (.int .i64 s')) (n + 1 + 1) p' q' r' s' 43 ∧
    Below n w (((((((wr.setCell ⟨n + 1, 0, none⟩ (.int .i64 A')).setCell ⟨n + 1, 1, none⟩ (.int .i64 B')).setCell ⟨n + 1, 2, none⟩ (.int .i64 C')).setCell ⟨n + 1 + 1, 0, none⟩ (.int .i64 p')).setCell ⟨n + 1 + 1, 1, none⟩ (.int .i64 q')).setCell ⟨n + 1 + 1, 2, none⟩ (.int .i64 r')).setCell ⟨n + 1 + 1, 3, none⟩ (.int .i64 s')) := by
  have e2 : ∀ k, (⟨n + 1, k, none⟩ : Addr).block ≠ n + 1 + 1 := fun k => by show n + 1 ≠ n + 1 + 1; omega
  have f2 : ∀ k, (⟨n + 1 + 1, k, none⟩ : Addr).block ≠ n + 1 := fun k => by show n + 1 + 1 ≠ n + 1; omega
  have l2 : n ≤ n + 1 := Nat.le_add_right _ 1
  have l3 : n ≤ n + 1 + 1 := Nat.le_add_right _ 2
  refine ⟨((((((h.g.set0 A').set1 B').set2 C').other (f2 0) _).other (f2 1) _).other (f2 2) _).other (f2 3) _, ((((((h.z.other (e2 0) _).other (e2 1) _).other (e2 2) _).set0 p').set1 q').set2 r').set3 s', ?_⟩
  exact (((((((h.b.setCell (p := ⟨n + 1, 0, none⟩) l2 _).setCell (p := ⟨n + 1, 1, none⟩) l2 _).setCell (p := ⟨n + 1, 2, none⟩) l2 _).setCell (p := ⟨n + 1 + 1, 0, none⟩) l3 _).setCell (p := ⟨n + 1 + 1, 1, none⟩) l3 _).setCell (p := ⟨n + 1 + 1, 2, none⟩) l3 _).setCell (p := ⟨n + 1 + 1, 3, none⟩) l3 _)

theorem prod_le {x y : Int} {N M : Int} (hx : -N ≤ x ∧ x ≤ N) (hy : -M ≤ y ∧ y ≤ M) (hN : 0 ≤ N) (hM : 0 ≤ M) : -(N * M) ≤ x * y ∧ x * y ≤ N * M := by
  have h := abs_mul_le (x := x) (y := y) (p := N.toNat) (q := M.toNat) (by omega) (by omega)
  rw [Int.natCast_mul, Int.toNat_of_nonneg hN, Int.toNat_of_nonneg hM] at h
  exact h

/-- no sum or product of a round is too long -/
theorem round_wraps {A B C p q r s k : Int} (a1 : 1 ≤ A) (a2 : A ≤ 1000000) (b1 : -2000000 ≤ B) (b2 : B ≤ 2000000) (c1 : 1 ≤ C) (c2 : C ≤ 1000000) (hp : -2000000 ≤ p ∧ p ≤ 2000000) (hq : -2000000 ≤ q ∧ q ≤ 2000000) (hr : -2000000 ≤ r ∧ r ≤ 2000000) (hs : -2000000 ≤ s ∧ s ≤ 2000000) (hk : -3000000 ≤ k ∧ k ≤ 3000000) (n1 : -A < B + 2 * k * A) (n2 : B + 2 * k * A ≤ A) :
    (wrap64 (2 * k) = 2 * k ∧ wrap64 (2 * k * A) = 2 * k * A ∧ wrap64 (B + 2 * k * A) = B + 2 * k * A ∧ wrap64 (k * A) = k * A ∧ wrap64 (B + k * A) = B + k * A ∧ wrap64 (k * (B + k * A)) = k * (B + k * A) ∧ wrap64 (C + k * (B + k * A)) = C + k * (B + k * A)) ∧
    (wrap64 (k * p) = k * p ∧ wrap64 (q + k * p) = q + k * p ∧ wrap64 (k * r) = k * r ∧ wrap64 (s + k * r) = s + k * r) ∧
    (wrap64 (A - B) = A - B ∧ wrap64 (2 * A) = 2 * A ∧ wrap64 (-p) = -p ∧ wrap64 (-r) = -r ∧ wrap64 (-(B + 2 * k * A)) = -(B + 2 * k * A)) := by
  have m5 : 2 * k * A = 2 * (k * A) := Int.mul_assoc _ _ _
  have m2 := prod_le (x := k) (y := p) (N := 3000000) (M := 2000000) (by omega) (by omega) (by omega) (by omega)
  have m3 := prod_le (x := k) (y := r) (N := 3000000) (M := 2000000) (by omega) (by omega) (by omega) (by omega)
  have m4 := prod_le (x := k) (y := B + k * A) (N := 3000000) (M := 100000000) (by omega) (by omega) (by omega) (by omega)
  obtain ⟨x, hx⟩ : ∃ x, k * (B + k * A) = x := ⟨_, rfl⟩
  obtain ⟨y, hy⟩ : ∃ y, k * A = y := ⟨_, rfl⟩
  obtain ⟨z, hz⟩ : ∃ z, k * p = z := ⟨_, rfl⟩
  obtain ⟨u, hu⟩ : ∃ u, k * r = u := ⟨_, rfl⟩
  rw [m5] at n1 n2 ⊢
  rw [hx] at m4 ⊢
  rw [hy] at n1 n2 ⊢
  rw [hz] at m2 ⊢
  rw [hu] at m3 ⊢
  clear m5 hx hy hz hu
  unfold wrap64
  refine ⟨⟨?_, ?_, ?_, ?_, ?_, ?_, ?_⟩, ⟨?_, ?_, ?_, ?_⟩, ?_, ?_, ?_, ?_, ?_⟩ <;> omega

def RetRed (w : World) (a b c : Int) : Ending → World → Prop := fun e w' => ∃ A B C p q r s : Int, e = .returned (.tuple #[.agg #[.int .i64 A, .int .i64 B, .int .i64 C], .agg #[.int .i64 p, .int .i64 q, .int .i64 r, .int .i64 s]]) ∧ RInv a b c A B C p q r s ∧ -A < B ∧ B ≤ A ∧ (A < C ∨ A = C ∧ 0 ≤ B) ∧ Below w.heap.size w w'

set_option maxRecDepth 100000 in
set_option maxHeartbeats 6400000 in
theorem reduce_any (a b c : Int) (w : World) (ha : 1 ≤ a) (ha2 : a ≤ 1000000) (hc : 1 ≤ c) (hc2 : c ≤ 1000000) (hd : b * b - 4 * a * c < 0) :
    Calls Try.prog 18 #[.agg #[.int .i64 a, .int .i64 b, .int .i64 c]] w (RetRed w a b c) := by
  have H0 := hide (RedSt.start w a b c)
  have I0 := hide (RInv.start (b := b) ha ha2 hc hc2)
  have HSM : Hid (∀ A B C p q r s, RInv a b c A B C p q r s → (-2000000 ≤ p ∧ p ≤ 2000000 ∧ -2000000 ≤ r ∧ r ≤ 2000000) ∧ (-2000000 ≤ q ∧ q ≤ 2000000 ∧ -2000000 ≤ s ∧ s ≤ 2000000) ∧ -2000000 ≤ B ∧ B ≤ 2000000) := fun A B C p q r s h => h.small ha ha2 hc hc2 hd
  have HD := hide hd
  clear ha ha2 hc hc2 hd
  go_enter Try.func18, Try.ntmps18
  go_wp2_with fail
  go_loopg [5] (rmeas a b c) (fun N _ wr => ∃ A B C p q r s : Int, N = rmeas A B C ∧ Hid (RInv a b c A B C p q r s) ∧ Hid (RedSt w.heap.size w wr A B C p q r s))
  case atStart => exact ⟨a, b, c, 1, 0, 0, 1, rfl, I0, H0⟩
  case round =>
    clear H0 I0
    obtain ⟨A, B, C, p, q, r, s, rfl, HI, HS⟩ := hrel
    obtain ⟨⟨p1, p2, r1, r2⟩, ⟨q1, q2, s1, s2⟩, b1, b2⟩ := HSM.out _ _ _ _ _ _ _ HI.out
    have a1 := HI.out.a1
    have a2 := HI.out.a2
    have c1 := HI.out.c1
    have c2 := HI.out.c2
    have hk0 := Int.mul_ediv_add_emod (A - B) (2 * A)
    have CF := fun W => hide (qfloor_any (A - B) (2 * A) W (by omega) (by omega) (by omega) (by omega))
    have hk1 : (A - B) / (2 * A) ≤ 3000000 ∧ -3000000 ≤ (A - B) / (2 * A) := by
      have h0 : ((A - B) / (2 * A)).natAbs ≤ (A - B).natAbs := Int.natAbs_ediv_le_natAbs _ _
      omega
    obtain ⟨n1, n2⟩ := round_k (A := A) (B := B) a1
    have HL := hide (fun h1 h2 => rmeas_less (A := A) (B := B) (C := C) (k := (A - B) / (2 * A)) a1 h1 rfl h2)
    obtain ⟨k, hk⟩ : ∃ k, (A - B) / (2 * A) = k := ⟨_, rfl⟩
    rw [hk] at CF hk1 n1 n2 HL
    have HI2 := hide (HI.out.norm HD.out n1 n2)
    obtain ⟨⟨W1, W2, W3, W4, W5, W6, W7⟩, ⟨W8, W9, W10, W11⟩, W12, W13, W14, W15, W16⟩ := round_wraps (k := k) a1 a2 b1 b2 c1 c2 ⟨p1, p2⟩ ⟨q1, q2⟩ ⟨r1, r2⟩ ⟨s1, s2⟩ (by omega) n1 n2
    have HA2 : Hid (¬ 2 * A = 0) := by unfold Hid; omega
    clear hk0 hk hk1 a1 a2 b1 b2 c1 c2 p1 p2 q1 q2 r1 r2 s1 s2
    obtain ⟨g0, g1, g2⟩ := HS.out.f.cells
    obtain ⟨t0, t1, t2, t3⟩ := HS.out.m.cells
    have fz0 := HS.out.f.frozen 0
    have fz1 := HS.out.f.frozen 1
    have fz2 := HS.out.f.frozen 2
    have fy1 := HS.out.m.frozen 1
    have fy3 := HS.out.m.frozen 3
    have x0 := (HS.out.f.set0 A).cells.1
    have x1 := ((HS.out.f.set0 A).set1 (B + 2 * k * A)).cells.2.1
    have x2 := (((HS.out.f.set0 A).set1 (B + 2 * k * A)).set2 (C + k * (B + k * A))).cells.2.2
    have hS2 := HS.out.norm A (B + 2 * k * A) (C + k * (B + k * A)) (q + k * p) (s + k * r)
    have M1 := ((HS.out.m.other (a := ⟨w.heap.size, 0, none⟩) (by show w.heap.size ≠ _; omega) (.int .i64 A)).other (a := ⟨w.heap.size, 1, none⟩) (by show w.heap.size ≠ _; omega) (.int .i64 (B + 2 * k * A))).other (a := ⟨w.heap.size, 2, none⟩) (by show w.heap.size ≠ _; omega) (.int .i64 (C + k * (B + k * A)))
    have y1 := (M1.set1 (q + k * p)).cells.2.1
    have y3 := ((M1.set1 (q + k * p)).set3 (s + k * r)).cells.2.2.2
    have HS2 := hide hS2
    clear hS2 M1
    go_wp2_with fail
    refine (CF _).out.mono ?_
    rintro e w1 ⟨rfl, rfl⟩
    have z0 := HS2.out.g.frozen 0
    have z1 := HS2.out.g.frozen 1
    have z2 := HS2.out.g.frozen 2
    have z3 := HS2.out.z.frozen 0
    have z4 := HS2.out.z.frozen 1
    have z5 := HS2.out.z.frozen 2
    have z6 := HS2.out.z.frozen 3
    obtain ⟨v0, v1, v2⟩ := HS2.out.g.cells
    obtain ⟨v3, v4, v5, v6⟩ := HS2.out.z.cells
    have k0 := HS2.out.f.frozen 0
    have k1 := HS2.out.f.frozen 1
    have k2 := HS2.out.f.frozen 2
    have k3 := HS2.out.m.frozen 0
    have k4 := HS2.out.m.frozen 1
    have k5 := HS2.out.m.frozen 2
    have k6 := HS2.out.m.frozen 3
    by_cases h1 : A < C + k * (B + k * A) ∨ A = C + k * (B + k * A) ∧ 0 ≤ B + 2 * k * A
    · have e1 : decide (A < C + k * (B + k * A)) = true ∨ decide (A < C + k * (B + k * A)) = false ∧ (A == C + k * (B + k * A)) = true ∧ decide (0 ≤ B + 2 * k * A) = true := by
        simp only [decide_eq_true_eq, decide_eq_false_iff_not, beq_iff_eq]
        omega
      have FIN := hide (HS2.out.done A (B + 2 * k * A) (C + k * (B + k * A)) p (q + k * p) r (s + k * r))
      have H1 := hide h1
      have HN := hide (And.intro n1 n2)
      clear h1 n1 n2
      rcases e1 with e1 | ⟨e1, e2, e3⟩
      all_goals
        go_wp2_with fail
        go_region
        generalize hX : World.setCell _ _ _ = w9
        have F := FIN.out
        rw [hX] at F
        clear hX FIN k0 k1 k2 k3 k4 k5 k6 z0 z1 z2 z3 z4 z5 z6 v0 v1 v2 v3 v4 v5 v6 x0 x1 x2 y1 y3
        obtain ⟨F1, F2, F3⟩ := F
        obtain ⟨G0, G1, G2⟩ := F1.drew.cells
        obtain ⟨G3, G4, G5, G6⟩ := F2.drew.cells
        go_wp2_with fail
        refine bodyPost_ret (v := .tuple #[.agg #[.int .i64 A, .int .i64 (B + 2 * k * A), .int .i64 (C + k * (B + k * A))], .agg #[.int .i64 p, .int .i64 (q + k * p), .int .i64 r, .int .i64 (s + k * r)]]) (by simp [results, Try.results18, go_sem, G0, G1, G2, G3, G4, G5, G6]) rfl ⟨_, _, _, _, _, _, _, rfl, HI2.out, HN.out.1, HN.out.2, H1.out, below_drewN F3 1⟩
    · have e1 : decide (A < C + k * (B + k * A)) = false ∧ ((A == C + k * (B + k * A)) = false ∨ (A == C + k * (B + k * A)) = true ∧ decide (0 ≤ B + 2 * k * A) = false) := by
        simp only [decide_eq_false_iff_not, beq_iff_eq, beq_eq_false_iff_ne, ne_eq]
        omega
      have HM := hide (HL.out HI2.out.c1 h1)
      have HI3 := hide HI2.out.swap
      have HS3 := hide (HS2.out.swap (C + k * (B + k * A)) (-(B + 2 * k * A)) A (q + k * p) (-p) (s + k * r) (-r))
      clear h1 n1 n2
      rcases e1 with ⟨e1, e2 | ⟨e2, e3⟩⟩
      all_goals
        go_wp2_with fail
        go_roundg (rmeas (C + k * (B + k * A)) (-(B + 2 * k * A)) A)
        case measure => exact HM.out
        case rel => exact ⟨_, _, _, _, _, _, _, rfl, HI3, HS3⟩
end Go.Proofs.Ytkfjjljdhfjpbaa
