/- The walks of Rat's norm: what a ratio is in memory, and its lowest terms. Under a bound on the numbers. -/
import Derived.Test.YtojehmmkdkfkjaaGreatDoorKRatA
import Derived.Test.YtojehmmkdkfkjaaGreatDoorKRatB
namespace Go.Proofs.YtojehmmkdkfkjaaGreatDoor
open Go.RowKit

/-- block g is a Rat's struct -/
def RBlk (w : World) (g : Nat) (n1 : Bool) (v1 : Value) (n2 : Bool) (v2 : Value) : Prop := w.heap[g]? = some (.cells #[.bool n1, v1, .bool n2, v2] 51 (0, 0))
section
variable {w w' : World} {g : Nat} {n1 n2 : Bool} {v1 v2 : Value}
theorem RBlk.lt (h : RBlk w g n1 v1 n2 v2) : g < w.heap.size := heap_lt h
theorem RBlk.below (h : RBlk w g n1 v1 n2 v2) (k : Below w.heap.size w w') : RBlk w' g n1 v1 n2 v2 := (k.block g h.lt).trans h
theorem RBlk.cells (h : RBlk w g n1 v1 n2 v2) : w.cell? ⟨g, 0, none⟩ = some (.bool n1) ∧ w.cell? ⟨g, 1, none⟩ = some v1 ∧ w.cell? ⟨g, 2, none⟩ = some (.bool n2) ∧ w.cell? ⟨g, 3, none⟩ = some v2 := by
  unfold RBlk at h
  exact ⟨by simp [World.cell?, h], by simp [World.cell?, h], by simp [World.cell?, h], by simp [World.cell?, h]⟩
theorem RBlk.frozen (h : RBlk w g n1 v1 n2 v2) (k : Nat) : w.frozen? ⟨g, k, none⟩ = false := frozen_of_blk h k
theorem RBlk.set1 (h : RBlk w g n1 v1 n2 v2) (v : Value) : RBlk (w.setCell ⟨g, 1, none⟩ v) g n1 v n2 v2 := by
  unfold RBlk at h ⊢
  simp [World.setCell, Array.getElem?_modify, h]
theorem RBlk.set0 (h : RBlk w g n1 v1 n2 v2) (b : Bool) : RBlk (w.setCell ⟨g, 0, none⟩ (.bool b)) g b v1 n2 v2 := by
  unfold RBlk at h ⊢
  simp [World.setCell, Array.getElem?_modify, h]
theorem RBlk.set2 (h : RBlk w g n1 v1 n2 v2) (b : Bool) : RBlk (w.setCell ⟨g, 2, none⟩ (.bool b)) g n1 v1 b v2 := by
  unfold RBlk at h ⊢
  simp [World.setCell, Array.getElem?_modify, h]
theorem RBlk.set3 (h : RBlk w g n1 v1 n2 v2) (v : Value) : RBlk (w.setCell ⟨g, 3, none⟩ v) g n1 v1 n2 v := by
  unfold RBlk at h ⊢
  simp [World.setCell, Array.getElem?_modify, h]
theorem RBlk.words (h : RBlk w g n1 v1 n2 v2) (k : w.grownBy w' (some g)) : WordsKept w w' := fun b cs fr hb => k.block b (heap_lt hb) (by
  intro e
  injection e with e
  subst e
  unfold RBlk at h
  rw [h] at hb
  injection hb with hb
  injection hb with _ ht
  cases ht)
theorem grown_set (w : World) (g k : Nat) (v : Value) : w.grownBy (w.setCell ⟨g, k, none⟩ v) (some g) :=
  ⟨rfl, rfl, rfl, by simp [World.setCell], fun b _ hne => Below.heap_setCell _ _ _ _ (fun e => hne (by rw [e]))⟩
theorem grown_then {w w1 w2 : World} {g : Nat} (h : w.grownBy w1 (some g)) (k : w1.grownBy w2 (some g)) : w.grownBy w2 (some g) :=
  ⟨k.os.trans h.os, k.tape.trans h.tape, k.output.trans h.output, Nat.le_trans h.size k.size, fun b hb hne => (k.block b (Nat.lt_of_lt_of_le hb h.size) hne).trans (h.block b hb hne)⟩
end
/-- block g is a Rat that holds A / B, in whatever terms -/
structure RatIn (w : World) (g : Nat) (n1 : Bool) (v1 : Value) (n2 : Bool) (v2 : Value) (A B : Int) : Prop where
  blk : RBlk w g n1 v1 n2 v2
  a : NatAt w v1 A.natAbs
  sa : n1 = true ↔ A < 0
  b : NatAt w v2 B.natAbs
  sb : n2 = true ↔ B < 0
theorem RatIn.below {w w' : World} {g : Nat} {n1 n2 : Bool} {v1 v2 : Value} {A B : Int} (h : RatIn w g n1 v1 n2 v2 A B) (k : Below w.heap.size w w') : RatIn w' g n1 v1 n2 v2 A B :=
  ⟨h.blk.below k, h.a.below k, h.sa, h.b.below k, h.sb⟩
def RatAt (w : World) (g : Nat) (A B : Int) : Prop := ∃ n1 v1 n2 v2, RatIn w g n1 v1 n2 v2 A B ∧ 0 < B
theorem RatAt.below {w w' : World} {g : Nat} {A B : Int} (h : RatAt w g A B) (k : Below w.heap.size w w') : RatAt w' g A B := by
  obtain ⟨n1, v1, n2, v2, h, hB⟩ := h
  exact ⟨n1, v1, n2, v2, h.below k, hB⟩
theorem RatIn.num {w : World} {g : Nat} {n1 n2 : Bool} {v1 v2 : Value} {A B : Int} (h : RatIn w g n1 v1 n2 v2 A B) : IntIn w g 0 A := by
  obtain ⟨c0, c1, _, _⟩ := h.blk.cells
  exact ⟨⟨n1, v1, c0, c1, h.a, h.sa⟩, h.blk.lt⟩
theorem RatIn.den {w : World} {g : Nat} {n1 n2 : Bool} {v1 v2 : Value} {A B : Int} (h : RatIn w g n1 v1 n2 v2 A B) : IntIn w g 2 B := by
  obtain ⟨_, _, c2, c3⟩ := h.blk.cells
  exact ⟨⟨n2, v2, c2, c3, h.b, h.sb⟩, h.blk.lt⟩
/-- a call's word on a Rat's method that writes g -/
def RetRat (w : World) (g : Nat) (A B : Int) : Ending → World → Prop := fun e w' => e = .returned (.pointer (some ⟨g, 0, none⟩)) ∧ RatAt w' g A B ∧ w.grownBy w' (some g)
/-- a number's words, seen from their first one -/
theorem NatAt.first {w : World} {v : Value} {x : Nat} (h : NatAt w v x) (hx : x < lim) : ∃ A n c, v = .slice A n c ∧ n ≤ 1000 ∧ (n = 0 ↔ x = 0) ∧ (n = 1 → ∃ ad, A = some ad ∧ w.cell? ad = some (.int .u32 (x : Int))) ∧ (x = 1 → n = 1) := by
  obtain ⟨A, n, c, l, rfl, hl, hnl, hv, hn⟩ := h.open_ hx
  have hlen := hl.len
  refine ⟨A, n, c, rfl, hn, ?_, fun h1 => ?_, fun h1 => ?_⟩
  · constructor
    · intro h0
      rw [h0] at hlen
      rw [← hv, List.eq_nil_of_length_eq_zero hlen]; rfl
    · intro h0
      by_cases hn0 : n = 0
      · exact hn0
      · have := wv_ge hnl (by omega)
        have h3 : 0 < 4294967296 ^ (l.length - 1) := Nat.pow_pos (by omega)
        omega
  · obtain ⟨ad, p', e, hp, _, _, hpc⟩ := hl.at_ (k := 0) (by omega)
    rw [addr_zero] at hpc
    refine ⟨ad, e, ?_⟩
    have e2 : l = [p'] := by
      rw [h1] at hlen
      match l, hlen, hp with
      | [a], _, hp => simp at hp; rw [hp]
    have e3 : p' = x := by rw [← hv, e2]; simp [wv]
    rw [← e3]
    exact hpc
  · by_cases hn0 : n = 0
    · have h5 : l = [] := List.eq_nil_of_length_eq_zero (by omega)
      rw [h5] at hv
      have h6 : (0 : Nat) = x := hv
      omega
    · have := wv_ge hnl (by omega)
      by_cases h2 : n = 1
      · exact h2
      · have h3 : 4294967296 ^ 1 ≤ 4294967296 ^ (l.length - 1) := Nat.pow_le_pow_right (by omega) (by omega)
        omega

set_option maxRecDepth 100000 in
set_option maxHeartbeats 800000 in
/-- give at two cells of a block -/
theorem give_in (g i n : Nat) (neg : Bool) (v x y : Value) (w : World) (c0 : w.cell? ⟨g, i, none⟩ = some x) (c1 : w.cell? ⟨g, i + 1, none⟩ = some y) (f0 : w.frozen? ⟨g, i, none⟩ = false) (f1 : w.frozen? ⟨g, i + 1, none⟩ = false) (hv : NatAt w v n) (hn : n < lim) :
    Calls Tryz.prog 39 #[.pointer (some ⟨g, i, none⟩), .bool neg, v] w fun e w' => e = .returned (.pointer (some ⟨g, i, none⟩)) ∧ w' = (w.setCell ⟨g, i + 1, none⟩ v).setCell ⟨g, i, none⟩ (.bool (neg && decide (0 < n))) := by
  obtain ⟨A, k, c, rfl, _, hk0, _, _⟩ := hv.first hn
  cases neg with
  | false =>
    clear hv hn hk0
    go_enter Tryz.func39, Tryz.ntmps39
    go_wp2_with fail
    go_ret
    exact ⟨rfl, rfl⟩
  | true =>
    by_cases h0 : k = 0
    · subst h0
      have hn0 : n = 0 := hk0.1 rfl
      have e : decide (0 < n) = false := by simp [hn0]
      rw [e]
      clear hv hn hk0 hn0 e
      go_enter Tryz.func39, Tryz.ntmps39
      go_wp2_with fail
      go_ret
      exact ⟨rfl, rfl⟩
    · have hn0 : n ≠ 0 := fun h => h0 (hk0.2 h)
      have e : decide (0 < n) = true := by simp; omega
      have h1 : decide ((0 : Int) < (k : Int)) = true := by rw [decide_eq_true_eq]; omega
      have h2 : decide (0 < k) = true := by rw [decide_eq_true_eq]; omega
      rw [e]
      clear hv hn hk0 hn0 e h0
      go_enter Tryz.func39, Tryz.ntmps39
      go_wp2_with fail
      go_ret
      exact ⟨rfl, rfl⟩

set_option maxRecDepth 100000 in
set_option maxHeartbeats 800000 in
/-- SetInt64 of 1 at two cells of a block -/
theorem setOne_in (g i : Nat) (x y : Value) (w : World) (hl : g < w.heap.size) (c0 : w.cell? ⟨g, i, none⟩ = some x) (c1 : w.cell? ⟨g, i + 1, none⟩ = some y) (f0 : w.frozen? ⟨g, i, none⟩ = false) (f1 : w.frozen? ⟨g, i + 1, none⟩ = false) :
    Calls Tryz.prog 61 #[.pointer (some ⟨g, i, none⟩), .int .i64 1] w fun e w' => e = .returned (.pointer (some ⟨g, i, none⟩)) ∧ ∃ w1 v, Below w.heap.size w w1 ∧ NatAt w1 v 1 ∧ w' = (w1.setCell ⟨g, i + 1, none⟩ v).setCell ⟨g, i, none⟩ (.bool false) := by
  have C := hide (words_any 1 w (by omega))
  have HK := hide (And.intro c0 (And.intro c1 (And.intro f0 (And.intro f1 hl))))
  clear c0 c1 f0 f1 hl
  go_enter Tryz.func61, Tryz.ntmps61
  go_wp2_with fail
  refine C.out.mono ?_
  rintro e w1 ⟨v, rfl, hv, hb⟩
  have HV := hide hv
  have hlt := HK.out.2.2.2.2
  have C2 := hide (give_in g i 1 false v x y w1 ((hb.cell (p := ⟨g, i, none⟩) hlt).trans HK.out.1) ((hb.cell (p := ⟨g, i + 1, none⟩) hlt).trans HK.out.2.1) ((hb.frozen (p := ⟨g, i, none⟩) hlt).trans HK.out.2.2.1) ((hb.frozen (p := ⟨g, i + 1, none⟩) hlt).trans HK.out.2.2.2.1) hv (lim_u64 (by omega)))
  have HB := hide hb
  clear hv hb hlt C
  go_wp2_with fail
  refine C2.out.mono ?_
  rintro e w2 ⟨rfl, rfl⟩
  go_wp2_with fail
  go_ret
  exact ⟨rfl, w1, v, HB.out, HV.out, rfl⟩
end Go.Proofs.YtojehmmkdkfkjaaGreatDoor
