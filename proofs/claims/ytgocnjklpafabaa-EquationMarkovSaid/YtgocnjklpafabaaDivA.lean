/- The set-up of arithmeticabig's long division: what memory holds between its steps; the short ways of div. -/
import Derived.Test.YtgocnjklpafabaaKnuth
import Derived.Laws.CopyOwn
import Derived.Deep.RegionWith
namespace Go.Proofs.Ytgocnjklpafabaa
open Go.RowKit

/-- what memory holds while the long division runs: u's words U in block gu, q's words Q in block gq, the divisor's words v -/
structure DW (w wr : World) (gu gq : Nat) (U Q : List Nat) (va : Addr) (n c : Nat) (v : List Nat) : Prop where
  bel : Below w.heap.size w wr
  base : w.heap.size ≤ gu
  lt : gu < gq
  u : wr.heap[gu]? = some (.cells (wcs U) 82 (0, 0))
  q : wr.heap[gq]? = some (.cells (wcs Q) 82 (0, 0))
  v : Wds wr (some va) n c v
  vb : va.block < gu

section
variable {w wr : World} {gu gq : Nat} {U Q : List Nat} {va : Addr} {n c : Nat} {v : List Nat}
theorem cell_of_blk {g : Nat} {L : List Nat} (h : wr.heap[g]? = some (.cells (wcs L) 82 (0, 0))) {k x : Nat} (hx : L[k]? = some x) : wr.cell? ⟨g, k, none⟩ = some (.int .u32 (x : Int)) := by
  simp [World.cell?, h, wcs_get, hx]
theorem frozen_of_blk {g : Nat} {cs : Array Value} {T : TypeId} (h : wr.heap[g]? = some (.cells cs T (0, 0))) (k : Nat) : wr.frozen? ⟨g, k, none⟩ = false := by
  simp [World.frozen?, h]
theorem set_blk {g : Nat} {L : List Nat} (h : wr.heap[g]? = some (.cells (wcs L) 82 (0, 0))) (k x : Nat) : (wr.setCell ⟨g, k, none⟩ (.int .u32 (x : Int))).heap[g]? = some (.cells (wcs (L.set k x)) 82 (0, 0)) := by
  simp [World.setCell, Array.getElem?_modify, h, wcs_set]
theorem far_blk {g : Nat} {p : Addr} (hp : g ≠ p.block) (u : Value) : (wr.setCell p u).heap[g]? = wr.heap[g]? := Below.heap_setCell wr p u g hp

theorem DW.cellU (h : DW w wr gu gq U Q va n c v) {k x : Nat} (hx : U[k]? = some x) : wr.cell? ⟨gu, k, none⟩ = some (.int .u32 (x : Int)) := cell_of_blk h.u hx
theorem DW.cellQ (h : DW w wr gu gq U Q va n c v) {k x : Nat} (hx : Q[k]? = some x) : wr.cell? ⟨gq, k, none⟩ = some (.int .u32 (x : Int)) := cell_of_blk h.q hx
theorem DW.frozU (h : DW w wr gu gq U Q va n c v) (k : Nat) : wr.frozen? ⟨gu, k, none⟩ = false := frozen_of_blk h.u k
theorem DW.frozQ (h : DW w wr gu gq U Q va n c v) (k : Nat) : wr.frozen? ⟨gq, k, none⟩ = false := frozen_of_blk h.q k
theorem DW.cellV (h : DW w wr gu gq U Q va n c v) {k x : Nat} (hx : v[k]? = some x) : wr.cell? (va.add k) = some (.int .u32 (x : Int)) := by
  obtain ⟨ad, cs, fr, e, _, hc⟩ := h.v.cell k x hx
  injection e with e
  subst e
  exact hc
theorem Wds.keptBut {A : Addr} {l : List Nat} (h : Wds wr (some A) n c l) {p : Addr} (hp : A.block ≠ p.block) (u : Value) : Wds (wr.setCell p u) (some A) n c l :=
  ⟨h.len, h.cap, h.small, fun j d hd => by
    obtain ⟨ad, cs, fr, e, hb, hc⟩ := h.cell j d hd
    injection e with e
    subst e
    have hk := far_blk (wr := wr) hp u
    exact ⟨A, cs, fr, rfl, hk.trans hb, (World.cell?_of_block (w := wr) (by rw [add_block]; exact hk)).trans hc⟩, h.nil⟩
theorem DW.setU (h : DW w wr gu gq U Q va n c v) (k x : Nat) : DW w (wr.setCell ⟨gu, k, none⟩ (.int .u32 (x : Int))) gu gq (U.set k x) Q va n c v :=
  ⟨h.bel.setCell (p := ⟨gu, k, none⟩) h.base _, h.base, h.lt, set_blk h.u k x, (far_blk (by have := h.lt; show gq ≠ gu; omega) _).trans h.q, h.v.keptBut (by have := h.vb; show va.block ≠ gu; omega) _, h.vb⟩
theorem DW.setQ (h : DW w wr gu gq U Q va n c v) (k x : Nat) : DW w (wr.setCell ⟨gq, k, none⟩ (.int .u32 (x : Int))) gu gq U (Q.set k x) va n c v :=
  ⟨h.bel.setCell (p := ⟨gq, k, none⟩) (Nat.le_trans h.base (Nat.le_of_lt h.lt)) _, h.base, h.lt, (far_blk (by have := h.lt; show gu ≠ gq; omega) _).trans h.u, set_blk h.q k x, h.v.keptBut (by have := h.vb; have := h.lt; show va.block ≠ gq; omega) _, h.vb⟩
theorem DW.drewN (h : DW w wr gu gq U Q va n c v) (k : Nat) : DW w (wr.drewN k) gu gq U Q va n c v :=
  ⟨below_drewN h.bel k, h.base, h.lt, h.u, h.q, h.v.drewN k, h.vb⟩
end

/-- a call's word on div: the quotient and the rest -/
def RetDiv (w : World) (x y : Nat) : Ending → World → Prop := fun e w' => ∃ v1 v2, e = .returned (.tuple #[v1, v2]) ∧ NatAt w' v1 (x / y) ∧ NatAt w' v2 (x % y) ∧ Below w.heap.size w w'

theorem cmp_lt (va vb : Value) (x y : Nat) (w : World) (ha : NatAt w va x) (hb : NatAt w vb y) (hx : x < lim) (hy : y < lim) (h : x < y) :
    Calls Try.prog 32 #[va, vb] w fun e w' => e = .returned (.int .i64 (-1)) ∧ Below w.heap.size w w' := by
  have := cmp_any va vb x y w ha hb hx hy
  rw [show cmpI x y = -1 from by rw [cmpI, if_pos h]] at this
  exact this
theorem cmp_ge (va vb : Value) (x y : Nat) (w : World) (ha : NatAt w va x) (hb : NatAt w vb y) (hx : x < lim) (hy : y < lim) (h : y ≤ x) :
    Calls Try.prog 32 #[va, vb] w fun e w' => ∃ z : Int, e = .returned (.int .i64 z) ∧ 0 ≤ z ∧ z ≤ 1 ∧ Below w.heap.size w w' := by
  refine (cmp_any va vb x y w ha hb hx hy).mono ?_
  rintro e w' ⟨rfl, hb⟩
  refine ⟨_, rfl, ?_, ?_, hb⟩
  · rw [cmpI, if_neg (by omega)]; split <;> omega
  · rw [cmpI, if_neg (by omega)]; split <;> omega

theorem len_pos {l : List Nat} {n : Nat} (h : l.length = n) (hp : 0 < wv l) : 0 < n := by
  rcases Nat.eq_zero_or_pos n with h0 | h0
  · have := List.eq_nil_of_length_eq_zero (h.trans h0)
    subst this
    simp [wv] at hp
  · exact h0

theorem two_below {a b c : World} (h : Below a.drew.heap.size a.drew b) (k : Below b.heap.size b c) : Below a.heap.size a c :=
  ((Below.refl _ a).drew.trans h).trans (k.mono h.size)

theorem words_int (z : Int) (w : World) (h0 : 0 ≤ z) (h1 : z < 18446744073709551616) :
    Calls Try.prog 63 #[.int .u64 z] w (RetNat w z.toNat) := by
  have := words_any z.toNat w (by omega)
  rw [Int.toNat_of_nonneg h0] at this
  exact this

end Go.Proofs.Ytgocnjklpafabaa
