/- Small plain facts that the walks of this seat share: lists of words and their number; what blocks hold; what a call leaves as it was. No condition of its own. -/
import Derived.Test.YtkfjjljdhfjpbaaRows
import Derived.Test.YtkfjjljdhfjpbaaKArithDiv
import Derived.WalkKit
import Derived.WalkSpells
import Derived.WalkLawsBesides
import Derived.Deep.AppendLies
import Derived.Deep.Draws
import Derived.Deep.QuietTactic
import Derived.Deep.DeepCutAuto
import Derived.Deep.CutBlock
import Derived.BigQuiet
import Derived.Lib.Hide
namespace Go.Proofs.Ytkfjjljdhfjpbaa
open Go.RowKit

theorem ret_int {k : IntKind} {a b : Int} (h : a = b) : Ending.returned (.int k a) = .returned (.int k b) := by rw [h]
theorem hide {p : Prop} (h : p) : Hid p := h

/-- the number of a list of words, the least first -/
def wv : List Nat → Nat
  | [] => 0
  | d :: r => d + 4294967296 * wv r

/-- more words than any number here takes -/
def limW : Nat := 1000
def lim : Nat := 4294967296 ^ limW

/-- no nought at the end -/
def Norm (l : List Nat) : Prop := ∀ d, l.getLast? = some d → d ≠ 0

/-- a slice of words in memory -/
structure Wds (w : World) (A : Option Addr) (n c : Nat) (l : List Nat) : Prop where
  len : l.length = n
  cap : n ≤ c
  small : ∀ j d : Nat, l[j]? = some d → d < 4294967296
  cell : ∀ j d : Nat, l[j]? = some d → ∃ ad cs fr, A = some ad ∧ w.heap[ad.block]? = some (.cells cs 71 fr) ∧ w.cell? (ad.add j) = some (.int .u32 d)
  nil : A = none → c = 0

/-- a slice value that is a whole number's words -/
def NatAt (w : World) (v : Value) (x : Nat) : Prop := ∃ A n c l, v = .slice A n c ∧ Wds w A n c l ∧ Norm l ∧ wv l = x

/-- a call's word on a function that hands back a whole number's words -/
def RetNat (w : World) (x : Nat) : Ending → World → Prop := fun e w' => ∃ v, e = .returned v ∧ NatAt w' v x ∧ Below w.heap.size w w'

section
variable {w w' : World}
theorem heap_lt {g : Nat} {o : Obj} (h : w.heap[g]? = some o) : g < w.heap.size := by
  rcases Nat.lt_or_ge g w.heap.size with hlt | hge
  · exact hlt
  · rw [Array.getElem?_eq_none hge] at h; cases h

/-- all blocks of words are as they were -/
def WordsKept (w w' : World) : Prop := ∀ (g : Nat) (cs : Array Value) (fr : Nat × Nat), w.heap[g]? = some (Obj.cells cs 71 fr) → w'.heap[g]? = w.heap[g]?

theorem Wds.kept {A : Option Addr} {n c : Nat} {l : List Nat} (h : Wds w A n c l) (k : WordsKept w w') : Wds w' A n c l :=
  ⟨h.len, h.cap, h.small, fun j d hd => by
    obtain ⟨ad, cs, fr, e, hb, hc⟩ := h.cell j d hd
    have hk := k _ _ _ hb
    exact ⟨ad, cs, fr, e, hk.trans hb, (World.cell?_of_block (w := w) (by
      have : (ad.add j).block = ad.block := by unfold Addr.add; split <;> rfl
      rw [this]; exact hk)).trans hc⟩, h.nil⟩
theorem NatAt.kept {v : Value} {x : Nat} (h : NatAt w v x) (k : WordsKept w w') : NatAt w' v x := by
  obtain ⟨A, n, c, l, e, hw, hn, hx⟩ := h
  exact ⟨A, n, c, l, e, hw.kept k, hn, hx⟩
theorem WordsKept.refl : WordsKept w w := fun _ _ _ _ => rfl
theorem WordsKept.of_below (h : Below w.heap.size w w') : WordsKept w w' := fun g _ _ hg => h.block g (heap_lt hg)
theorem NatAt.below {v : Value} {x : Nat} (h : NatAt w v x) (k : Below w.heap.size w w') : NatAt w' v x := h.kept (.of_below k)
theorem grown_of_below (g : Option Nat) (k : Below w.heap.size w w') : w.grownBy w' g := ⟨k.os, k.tape, k.output, k.size, fun i hi _ => k.block i hi⟩
theorem below_drewN {B : Nat} {a : World} (h : Below B a w) (n : Nat) : Below B a (w.drewN n) := ⟨h.os, h.tape, h.output, h.size, h.block⟩
theorem below_of_grown {B : Nat} {a : World} {g : Nat} (h : Below B a w) (k : w.grownBy w' (some g)) (hB : B ≤ w.heap.size) (hg : B ≤ g) : Below B a w' :=
  h.grown k hB fun k' e => by injection e with e; omega
theorem NatAt.drewN {v : Value} {x : Nat} (h : NatAt w v x) (n : Nat) : NatAt (w.drewN n) v x := h.below (below_drewN (Below.refl _ _) n)
end

/-- a slice of ints that lies below block B -/
structure Ints (w : World) (B : Nat) (A : Option Addr) (l : List Int) : Prop where
  cell : ∀ j v, l[j]? = some v → ∃ ad, A = some ad ∧ ad.block < B ∧ w.cell? (ad.add j) = some (.int .i64 v)
theorem Ints.at_ {w : World} {B : Nat} {A : Option Addr} {l : List Int} (h : Ints w B A l) {k : Nat} (hk : k < l.length) :
    ∃ ad v, A = some ad ∧ l[k]? = some v ∧ ad.block < B ∧ w.cell? (ad.add k) = some (.int .i64 v) := by
  obtain ⟨ad, e, hb, hc⟩ := h.cell k l[k] (List.getElem?_eq_getElem hk)
  exact ⟨ad, _, e, List.getElem?_eq_getElem hk, hb, hc⟩
theorem addr_zero (a : Addr) : a.add 0 = a := by unfold Addr.add; rw [if_pos rfl]
theorem addr_pos (a : Addr) (k : Nat) (h : 0 < k) : a.add k = ⟨a.block, a.off + k, none⟩ := by unfold Addr.add; rw [if_neg (by omega)]
theorem add_block (a : Addr) (n : Nat) : (a.add n).block = a.block := by unfold Addr.add; split <;> rfl
theorem Ints.below {w w' : World} {B B' : Nat} {A : Option Addr} {l : List Int} (h : Ints w B A l) (k : Below B' w w') (hB : B ≤ B') : Ints w' B A l :=
  ⟨fun j v hv => by
    obtain ⟨ad, e, hb, hc⟩ := h.cell j v hv
    exact ⟨ad, e, hb, (k.cell (by rw [add_block]; omega)).trans hc⟩⟩
theorem Ints.more {w : World} {B B' : Nat} {A : Option Addr} {l : List Int} (h : Ints w B A l) (hB : B ≤ B') : Ints w B' A l :=
  ⟨fun j v hv => by
    obtain ⟨ad, e, hb, hc⟩ := h.cell j v hv
    exact ⟨ad, e, by omega, hc⟩⟩
theorem Ints.of_block {w : World} {g : Nat} {cs : Array Value} {T : TypeId} {fr : Nat × Nat} {l : List Int} (h : w.heap[g]? = some (.cells cs T fr)) (hc : cs.toList = l.map (Value.int .i64)) : Ints w (g + 1) (some ⟨g, 0, none⟩) l :=
  ⟨fun j v hv => ⟨_, rfl, Nat.lt_succ_self _, by
    have e : (⟨g, 0, none⟩ : Addr).add j = ⟨g, j, none⟩ := by
      unfold Addr.add
      split
      · rename_i h0; subst h0; rfl
      · simp
    rw [e]
    have hj : cs[j]? = some (.int .i64 v) := by
      rw [← Array.getElem?_toList, hc, List.getElem?_map, hv]; rfl
    simp [World.cell?, h, hj]⟩⟩

theorem wrap_u64_nat (a : Nat) (ha : a < 18446744073709551616) : IntKind.u64.wrap (a : Int) = (a : Int) := by rw [IntKind.wrap_u64]; omega
theorem bits_mask32 (a : Nat) (ha : a < 18446744073709551616) : bits .and .u64 (a : Int) 4294967295 = ((a % 4294967296 : Nat) : Int) := by
  have h := bits_and_u64_nat a 4294967295 ha (by omega)
  have e : a &&& 4294967295 = a % 4294967296 := Nat.and_two_pow_sub_one_eq_mod a 32
  rw [e] at h
  exact h

theorem wrap_shl (y s : Nat) (h : y * 2 ^ s < 18446744073709551616) : IntKind.u64.wrap ((y : Int) * 2 ^ s) = ((y * 2 ^ s : Nat) : Int) := by
  have e : ((y : Int) * 2 ^ s) = ((y * 2 ^ s : Nat) : Int) := by rw [Int.natCast_mul, Int.natCast_pow]; rfl
  rw [e]; exact wrap_u64_nat _ h
theorem wrap_shl_any (y s : Nat) : IntKind.u64.wrap ((y : Int) * 2 ^ s) = ((y * 2 ^ s % 18446744073709551616 : Nat) : Int) := by
  have e : ((y : Int) * 2 ^ s) = ((y * 2 ^ s : Nat) : Int) := by rw [Int.natCast_mul, Int.natCast_pow]; rfl
  rw [e, IntKind.wrap_u64]; omega

theorem bcell {W w1 : World} (hb : Below W.heap.size W w1) : (∀ b o, b < W.heap.size → w1.cell? ⟨b, o, none⟩ = W.cell? ⟨b, o, none⟩) ∧ (∀ b o, b < W.heap.size → w1.frozen? ⟨b, o, none⟩ = W.frozen? ⟨b, o, none⟩) :=
  ⟨fun b o h => hb.cell (p := ⟨b, o, none⟩) h, fun b o h => hb.frozen (p := ⟨b, o, none⟩) h⟩

end Go.Proofs.Ytkfjjljdhfjpbaa
