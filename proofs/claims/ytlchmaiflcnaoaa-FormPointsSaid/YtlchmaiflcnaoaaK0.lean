/- Plain laws and first walks, in one text: each under the conditions that its theorems name. -/
import Derived.Test.YtlchmaiflcnaoaaRows
import Derived.WalkKit
import Derived.WalkSpells
import Derived.WalkLawsBesides
import Derived.Deep.AppendLies
import Derived.Deep.Draws
import Derived.Deep.QuietTactic
import Derived.Deep.DeepCutAuto
import Derived.Deep.CutBlock
import Derived.BigQuiet
import Derived.Lib.Hide
import Derived.OwnWalk
import Derived.Handy
import Derived.Shelf.Spec.BitsCarry
namespace Go.Proofs.Ytlchmaiflcnaoaa.Ar

theorem natAbs_sub_of {x y : Int} (h : x * y ≤ 0) : (x - y).natAbs = x.natAbs + y.natAbs := by
  rcases Int.lt_trichotomy x 0 with hx | hx | hx
  · have hy : 0 ≤ y := by
      apply Int.not_lt.1
      intro hy
      have := Int.mul_pos_of_neg_of_neg hx hy
      omega
    omega
  · omega
  · have hy : y ≤ 0 := by
      apply Int.not_lt.1
      intro hy
      have := Int.mul_pos hx hy
      omega
    omega

theorem gcd_tmod (a b : Int) : Int.gcd b (a.tmod b) = Int.gcd a b := by
  unfold Int.gcd
  rw [Int.natAbs_tmod, Nat.gcd_comm b.natAbs, ← Nat.gcd_rec, Nat.gcd_comm]

/-- what holds at the head of each round of the extended division with rests -/
structure Ext (A B a b u v : Int) : Prop where
  gcd : Int.gcd a b = Int.gcd A B
  ra : B ∣ a - u * A
  rb : B ∣ b - v * A
  sum : u.natAbs * b.natAbs + v.natAbs * a.natAbs = B.natAbs
  sign : u * v * (a * b) ≤ 0
  ule : u.natAbs ≤ max 1 B.natAbs
  vle : v.natAbs ≤ max 1 B.natAbs
  ale : a.natAbs ≤ max A.natAbs B.natAbs
  ble : b.natAbs ≤ max A.natAbs B.natAbs

theorem Ext.start (A B : Int) : Ext A B A B 1 0 :=
  ⟨rfl, ⟨0, by omega⟩, ⟨1, by omega⟩, by simp, by simp, by simp; omega, by simp, by omega, by omega⟩

theorem q_sign (a b : Int) : 0 ≤ a.tdiv b * (a * b) := by
  have h := Int.tdiv_mul_add_tmod a b
  rcases Int.lt_trichotomy (a * b) 0 with hn | hn | hn
  · have : a.tdiv b ≤ 0 := by
      rcases Int.lt_trichotomy b 0 with hb | hb | hb
      · have ha : 0 < a := by
          apply Int.not_le.1; intro ha
          have := Int.mul_nonneg_of_nonpos_of_nonpos ha (Int.le_of_lt hb); omega
        have e : a.tdiv b = - (a.tdiv (-b)) := by rw [Int.tdiv_neg, Int.neg_neg]
        have := Int.tdiv_nonneg (a := a) (b := -b) (by omega) (by omega)
        omega
      · subst hb; simp
      · have ha : a < 0 := by
          apply Int.not_le.1; intro ha
          have := Int.mul_nonneg ha (Int.le_of_lt hb); omega
        have e : a.tdiv b = - ((-a).tdiv b) := by rw [Int.neg_tdiv, Int.neg_neg]
        have := Int.tdiv_nonneg (a := -a) (b := b) (by omega) (by omega)
        omega
    exact Int.mul_nonneg_of_nonpos_of_nonpos this (Int.le_of_lt hn)
  · rw [hn]; simp
  · have : 0 ≤ a.tdiv b := by
      rcases Int.lt_trichotomy b 0 with hb | hb | hb
      · have ha : a < 0 := by
          apply Int.not_le.1; intro ha
          have := Int.mul_nonneg ha (a := a) (b := -b) (by omega)
          have e : a * -b = -(a * b) := Int.mul_neg a b
          omega
        have e : a.tdiv b = (-a).tdiv (-b) := by rw [Int.neg_tdiv_neg]
        have := Int.tdiv_nonneg (a := -a) (b := -b) (by omega) (by omega)
        omega
      · subst hb; simp
      · have ha : 0 < a := by
          apply Int.not_le.1; intro ha
          have := Int.mul_nonneg (a := -a) (b := b) (by omega) (by omega)
          have e : -a * b = -(a * b) := Int.neg_mul a b
          omega
        exact Int.tdiv_nonneg (by omega) (by omega)
    exact Int.mul_nonneg this (Int.le_of_lt hn)

theorem pos_sq {x : Int} (h : x ≠ 0) : 0 < x * x := by
  rcases Int.lt_or_gt_of_ne h with h | h
  · exact Int.mul_pos_of_neg_of_neg h h
  · exact Int.mul_pos h h

theorem sign_q {a b u v : Int} (hb : b ≠ 0) (h : u * v * (a * b) ≤ 0) : u * (a.tdiv b * v) ≤ 0 := by
  by_cases ha : a = 0
  · subst ha; simp
  have hq := q_sign a b
  by_cases hq0 : a.tdiv b = 0
  · rw [hq0]; simp
  · have hab : a * b ≠ 0 := Int.mul_ne_zero ha hb
    have hp := pos_sq hab
    have e : u * (a.tdiv b * v) * (a * b * (a * b)) = (u * v * (a * b)) * (a.tdiv b * (a * b)) := by grind
    apply Int.not_lt.1
    intro hc
    have h1 := Int.mul_pos hc hp
    rw [e] at h1
    have h2 := Int.mul_nonneg (a := -(u * v * (a * b))) (b := a.tdiv b * (a * b)) (by omega) hq
    rw [Int.neg_mul] at h2
    omega

theorem Ext.step {A B a b u v : Int} (h : Ext A B a b u v) (hb : b ≠ 0) :
    Ext A B b (a - a.tdiv b * b) v (u - a.tdiv b * v) ∧ (a - a.tdiv b * b).natAbs < b.natAbs ∧ (a.tdiv b * v).natAbs ≤ max 1 B.natAbs ∧ (a.tdiv b * b).natAbs ≤ a.natAbs := by
  have hr : a - a.tdiv b * b = a.tmod b := by have := Int.tdiv_mul_add_tmod a b; omega
  have hrn : (a.tmod b).natAbs = a.natAbs % b.natAbs := Int.natAbs_tmod a b
  have hlt : a.natAbs % b.natAbs < b.natAbs := Nat.mod_lt _ (by omega)
  have hsg := sign_q hb h.sign
  have hab : (u - a.tdiv b * v).natAbs = u.natAbs + (a.tdiv b).natAbs * v.natAbs := by rw [natAbs_sub_of hsg, Int.natAbs_mul]
  have hqn : (a.tdiv b).natAbs = a.natAbs / b.natAbs := Int.natAbs_tdiv a b
  have hdm := Nat.div_add_mod a.natAbs b.natAbs
  have hsum : v.natAbs * (a.tmod b).natAbs + (u - a.tdiv b * v).natAbs * b.natAbs = B.natAbs := by
    rw [hab, hrn, hqn, ← h.sum]
    have e1 : v.natAbs * a.natAbs = v.natAbs * (b.natAbs * (a.natAbs / b.natAbs) + a.natAbs % b.natAbs) := by rw [hdm]
    rw [e1]
    grind
  have hle : (u - a.tdiv b * v).natAbs ≤ max 1 B.natAbs := by
    have h1 : (u - a.tdiv b * v).natAbs * 1 ≤ (u - a.tdiv b * v).natAbs * b.natAbs := Nat.mul_le_mul_left _ (by omega)
    omega
  refine ⟨⟨by rw [hr, gcd_tmod]; exact h.gcd, h.rb, ?_, by rw [hr]; exact hsum, ?_, h.vle, hle, h.ble, ?_⟩, ?_, ?_, ?_⟩
  · have e : a - a.tdiv b * b - (u - a.tdiv b * v) * A = (a - u * A) - a.tdiv b * (b - v * A) := by grind
    rw [e]
    exact Int.dvd_sub h.ra (Int.dvd_mul_of_dvd_right h.rb)
  · -- sign
    rw [hr]
    by_cases hz : a.tmod b = 0
    · rw [hz]; simp
    have ha0 : a ≠ 0 := by intro e; subst e; simp at hz
    -- the rest has the sign of a
    have hra : 0 < a.tmod b * a := by
      rcases Int.lt_or_gt_of_ne ha0 with hneg | hpos
      · have h1 : a.tmod b ≤ 0 := by
          have e : a.tmod b = -((-a).tmod b) := by rw [Int.neg_tmod, Int.neg_neg]
          have := Int.tmod_nonneg (a := -a) b (by omega)
          omega
        exact Int.mul_pos_of_neg_of_neg (by omega) hneg
      · have h1 := Int.tmod_nonneg (a := a) b (by omega)
        exact Int.mul_pos (by omega) hpos
    have hp := pos_sq ha0
    apply Int.not_lt.1
    intro hc
    have h1 := Int.mul_pos hc hp
    have e : v * (u - a.tdiv b * v) * (b * a.tmod b) * (a * a) = (u * v * (a * b)) * (a.tmod b * a) - (a.tdiv b * (a * b)) * (v * v) * (a.tmod b * a) := by grind
    rw [e] at h1
    have h2 := Int.mul_nonneg (a := -(u * v * (a * b))) (b := a.tmod b * a) (by have := h.sign; omega) (Int.le_of_lt hra)
    rw [Int.neg_mul] at h2
    have hvv : 0 ≤ v * v := by
      by_cases hv : v = 0
      · subst hv; simp
      · exact Int.le_of_lt (pos_sq hv)
    have h3 := Int.mul_nonneg (Int.mul_nonneg (q_sign a b) hvv) (Int.le_of_lt hra)
    omega
  · rw [hr, hrn]
    have := h.ble
    omega
  · rw [hr, hrn]; exact hlt
  · rw [Int.natAbs_mul]; rw [hab] at hle; omega
  · rw [Int.natAbs_mul, hqn]; exact Nat.div_mul_le_self _ _

/-- at the end -/
theorem Ext.fin {A B a u v : Int} (h : Ext A B a 0 u v) : (a.natAbs : Int) = Int.gcd A B ∧ B ∣ a - u * A := by
  have := h.gcd
  rw [Int.gcd_zero_right] at this
  exact ⟨by omega, h.ra⟩

end Go.Proofs.Ytlchmaiflcnaoaa.Ar

namespace Go.Proofs.Ytlchmaiflcnaoaa.Ar

/-- What is known behind the normalizing of bits.Div64: the divisor Y = y * 2^s in two digits, the dividend in three. -/
structure Dn (hi lo y s Y y1 y0 u n1 n0 : Nat) : Prop where
  Ys : Y = y * 2 ^ s
  Yd : Y = y1 * 4294967296 + y0
  y0lt : y0 < 4294967296
  y1lt : y1 < 4294967296
  y1ge : 2147483648 ≤ y1
  ult : u < Y
  n1lt : n1 < 4294967296
  n0lt : n0 < 4294967296
  num : (hi * 18446744073709551616 + lo) * 2 ^ s = (u * 4294967296 + n1) * 4294967296 + n0

/-- A guess at a digit: q * y1 + r = u, at least the true digit. -/
structure Guess (Y y1 y0 u n q r : Nat) : Prop where
  sum : q * y1 + r = u
  ge : (u * 4294967296 + n) / Y ≤ q
  le : q ≤ 4294967297

theorem Guess.start {Y y1 y0 u n : Nat} (hY : Y = y1 * 4294967296 + y0) (h0 : y0 < 4294967296) (h1 : 2147483648 ≤ y1) (hu : u < Y) (hn : n < 4294967296) :
    Guess Y y1 y0 u n (u / y1) (u % y1) := by
  have hd := Nat.div_add_mod u y1
  refine ⟨by rw [Nat.mul_comm]; exact hd, ?_, ?_⟩
  · -- the true digit times y1 is at most u
    have hq := Nat.div_mul_le_self (u * 4294967296 + n) Y
    rw [Nat.le_div_iff_mul_le (by omega)]
    generalize (u * 4294967296 + n) / Y = t at hq
    subst hY
    rw [Nat.mul_add, ← Nat.mul_assoc] at hq
    generalize t * y1 = z at hq ⊢
    omega
  · apply Nat.le_of_lt_succ
    rw [Nat.div_lt_iff_lt_mul (by omega)]
    omega

/-- What the test asks: is the guess too great? -/
theorem Guess.test {Y y1 y0 u n q r : Nat} (h : Guess Y y1 y0 u n q r) (hY : Y = y1 * 4294967296 + y0) (hp : 0 < Y) :
    (4294967296 * r + n < q * y0 ↔ (u * 4294967296 + n) / Y < q) := by
  have e : q * Y = (u - r) * 4294967296 + q * y0 := by
    have := h.sum
    have : u - r = q * y1 := by omega
    rw [this, hY, Nat.mul_add, Nat.mul_assoc]
  have hs := h.sum
  rw [Nat.div_lt_iff_lt_mul hp, e]
  generalize q * y0 = z
  have : r ≤ u := by omega
  omega

theorem Guess.small {Y y1 y0 u n q r : Nat} (_h : Guess Y y1 y0 u n q r) (hu : u < Y) (hn : n < 4294967296) (hq : 4294967296 ≤ q) :
    (u * 4294967296 + n) / Y < q := by
  rw [Nat.div_lt_iff_lt_mul (by omega)]
  have : 4294967296 * Y ≤ q * Y := Nat.mul_le_mul_right _ hq
  omega

theorem Guess.down {Y y1 y0 u n q r : Nat} (h : Guess Y y1 y0 u n q r) (hlt : (u * 4294967296 + n) / Y < q) : Guess Y y1 y0 u n (q - 1) (r + y1) := by
  obtain ⟨p, rfl⟩ : ∃ p, q = p + 1 := ⟨q - 1, by have := Nat.lt_of_le_of_lt (Nat.zero_le _) hlt; omega⟩
  have := h.sum
  have hl := h.le
  refine ⟨?_, ?_, by omega⟩
  · rw [Nat.add_sub_cancel]
    rw [Nat.add_mul] at this
    omega
  · rw [Nat.add_sub_cancel]
    exact Nat.le_of_lt_succ hlt

/-- a rest of a whole digit or more: the guess is right -/
theorem Guess.stop {Y y1 y0 u n q r : Nat} (h : Guess Y y1 y0 u n q r) (hY : Y = y1 * 4294967296 + y0) (hp : 0 < Y) (h0 : y0 < 4294967296) (hq : q ≤ 4294967296) (hr : 4294967296 ≤ r) :
    q = (u * 4294967296 + n) / Y := by
  have ht := h.test hY hp
  have : q * y0 ≤ 4294967296 * 4294967295 := Nat.mul_le_mul hq (by omega)
  have hg := h.ge
  have : ¬ (u * 4294967296 + n) / Y < q := by rw [← ht]; omega
  omega

/-- one round of looking for a digit, T the true one, in words that a walk wants -/
structure GuessAt (Y y1 y0 u n T q r : Nat) : Prop where
  g : Guess Y y1 y0 u n q r
  t : T = (u * 4294967296 + n) / Y
  hY : Y = y1 * 4294967296 + y0
  y0lt : y0 < 4294967296
  y1ge : 2147483648 ≤ y1
  ult : u < Y
  nlt : n < 4294967296
theorem GuessAt.out {Y y1 y0 u n T q r : Nat} (h : GuessAt Y y1 y0 u n T q r) (ht : ¬ 4294967296 * r + n < q * y0) : q = T := by
  have a := h.g.test h.hY (by have := h.y1ge; have := h.hY; omega)
  have b := h.g.ge
  rw [← h.t] at a b
  omega
theorem GuessAt.lt_of {Y y1 y0 u n T q r : Nat} (h : GuessAt Y y1 y0 u n T q r) (ht : 4294967296 ≤ q ∨ 4294967296 * r + n < q * y0) : T < q := by
  rcases ht with ht | ht
  · have := h.g.small h.ult h.nlt ht
    rw [← h.t] at this; exact this
  · have a := h.g.test h.hY (by have := h.y1ge; have := h.hY; omega)
    rw [← h.t] at a
    exact a.1 ht
theorem GuessAt.down {Y y1 y0 u n T q r : Nat} (h : GuessAt Y y1 y0 u n T q r) (ht : 4294967296 ≤ q ∨ 4294967296 * r + n < q * y0) : GuessAt Y y1 y0 u n T (q - 1) (r + y1) :=
  ⟨h.g.down (by rw [← h.t]; exact h.lt_of ht), h.t, h.hY, h.y0lt, h.y1ge, h.ult, h.nlt⟩
theorem GuessAt.stop {Y y1 y0 u n T q r : Nat} (h : GuessAt Y y1 y0 u n T q r) (ht : 4294967296 ≤ q ∨ 4294967296 * r + n < q * y0) (hr : 4294967296 ≤ r + y1) : q - 1 = T := by
  have a := h.down ht
  have := h.g.le
  rw [h.t]
  exact a.g.stop h.hY (by have := h.y1ge; have := h.hY; omega) h.y0lt (by omega) hr

/-- the sum of the two digits is the quotient -/
theorem shift_split (N Y n0 : Nat) : N * 4294967296 + n0 = (N % Y * 4294967296 + n0) + Y * (N / Y * 4294967296) := by
  have hd := Nat.div_add_mod N Y
  generalize N % Y = b at *
  generalize N / Y = a at *
  subst hd
  rw [Nat.add_mul, Nat.mul_assoc]
  generalize Y * (a * 4294967296) = c
  omega
theorem shift_quo (N Y n0 : Nat) (hY : 0 < Y) : (N * 4294967296 + n0) / Y = N / Y * 4294967296 + (N % Y * 4294967296 + n0) / Y := by
  rw [shift_split N Y n0, Nat.add_mul_div_left _ _ hY, Nat.add_comm]
theorem shift_rem (N Y n0 : Nat) : (N * 4294967296 + n0) % Y = (N % Y * 4294967296 + n0) % Y := by
  rw [shift_split N Y n0, Nat.add_mul_mod_self_left]
theorem Dn.quo {hi lo y s Y y1 y0 u n1 n0 : Nat} (h : Dn hi lo y s Y y1 y0 u n1 n0) :
    (u * 4294967296 + n1) / Y * 4294967296 + ((u * 4294967296 + n1) % Y * 4294967296 + n0) / Y = (hi * 18446744073709551616 + lo) / y := by
  have hpos : 0 < 2 ^ s := Nat.pow_pos (by omega)
  have hYp : 0 < Y := by have := h.y1ge; have := h.Yd; omega
  refine (shift_quo _ Y n0 hYp).symm.trans ?_
  have e := congrArg (fun z => z / Y) h.num
  refine (e.symm.trans ?_)
  show (hi * 18446744073709551616 + lo) * 2 ^ s / Y = _
  rw [h.Ys, Nat.mul_div_mul_right _ _ hpos]

theorem Dn.rem {hi lo y s Y y1 y0 u n1 n0 : Nat} (h : Dn hi lo y s Y y1 y0 u n1 n0) :
    ((u * 4294967296 + n1) % Y * 4294967296 + n0) % Y / 2 ^ s = (hi * 18446744073709551616 + lo) % y := by
  have hpos : 0 < 2 ^ s := Nat.pow_pos (by omega)
  have e := congrArg (fun z => z % Y / 2 ^ s) h.num
  have e0 := congrArg (fun z => z / 2 ^ s) (shift_rem (u * 4294967296 + n1) Y n0)
  refine e0.symm.trans (e.symm.trans ?_)
  show (hi * 18446744073709551616 + lo) * 2 ^ s % Y / 2 ^ s = _
  rw [h.Ys, Nat.mul_mod_mul_right, Nat.mul_div_cancel _ hpos]

/-- the normalizing itself -/
theorem Dn.make {hi lo y s : Nat} (hs : s ≤ 63) (hy : hi < y) (hlo : lo < 18446744073709551616) (h1 : 9223372036854775808 ≤ y * 2 ^ s) (h2 : y * 2 ^ s < 18446744073709551616) :
    Dn hi lo y s (y * 2 ^ s) (y * 2 ^ s / 4294967296) (y * 2 ^ s % 4294967296) (hi * 2 ^ s + lo / 2 ^ (64 - s)) ((lo * 2 ^ s) % 18446744073709551616 / 4294967296) ((lo * 2 ^ s) % 18446744073709551616 % 4294967296) := by
  have hpos : 0 < 2 ^ s := Nat.pow_pos (by omega)
  have hpp : 2 ^ s * 2 ^ (64 - s) = 18446744073709551616 := by rw [← Nat.pow_add, show s + (64 - s) = 64 from by omega]
  have hq : lo / 2 ^ (64 - s) < 2 ^ s := by
    rw [Nat.div_lt_iff_lt_mul (Nat.pow_pos (by omega)), hpp]; exact hlo
  have hm : (hi + 1) * 2 ^ s ≤ y * 2 ^ s := Nat.mul_le_mul_right _ hy
  have hm1 : (lo * 2 ^ s) % 18446744073709551616 = lo * 2 ^ s - 18446744073709551616 * (lo / 2 ^ (64 - s)) := by
    have e : lo * 2 ^ s / 18446744073709551616 = lo / 2 ^ (64 - s) := by
      rw [← hpp, Nat.mul_comm (2 ^ s), Nat.mul_div_mul_right _ _ hpos]
    have := Nat.div_add_mod (lo * 2 ^ s) 18446744073709551616
    rw [e] at this
    omega
  have hle : 18446744073709551616 * (lo / 2 ^ (64 - s)) ≤ lo * 2 ^ s := by
    rw [← hpp, Nat.mul_assoc, Nat.mul_comm lo]
    exact Nat.mul_le_mul_left _ (Nat.mul_div_le _ _)
  refine ⟨rfl, by omega, by omega, by omega, by omega, ?_, by omega, by omega, ?_⟩
  · rw [Nat.add_mul] at hm; omega
  · rw [Nat.add_mul, Nat.mul_right_comm]
    generalize lo / 2 ^ (64 - s) = a at *
    generalize hi * 2 ^ s = b at *
    generalize lo * 2 ^ s = c at *
    omega

end Go.Proofs.Ytlchmaiflcnaoaa.Ar

namespace Go.Proofs.Ytlchmaiflcnaoaa
open Go.RowKit

theorem ret_int {k : IntKind} {a b : Int} (h : a = b) : Ending.returned (.int k a) = .returned (.int k b) := by rw [h]
theorem hide {p : Prop} (h : p) : Hid p := h

/-- the number of a list of words, the least first -/
def wv : List Nat → Nat
  | [] => 0
  | d :: r => d + 4294967296 * wv r

/-- more words than any number here takes -/
def limW : Nat := 1000
def lim : Nat := 4294967296 ^ limW

/-- no nought at the end -/
def Norm (l : List Nat) : Prop := ∀ d, l.getLast? = some d → d ≠ 0

/-- a slice of words in memory -/
structure Wds (w : World) (A : Option Addr) (n c : Nat) (l : List Nat) : Prop where
  len : l.length = n
  cap : n ≤ c
  small : ∀ j d : Nat, l[j]? = some d → d < 4294967296
  cell : ∀ j d : Nat, l[j]? = some d → ∃ ad cs fr, A = some ad ∧ w.heap[ad.block]? = some (.cells cs 108 fr) ∧ w.cell? (ad.add j) = some (.int .u32 d)
  nil : A = none → c = 0

/-- a slice value that is a whole number's words -/
def NatAt (w : World) (v : Value) (x : Nat) : Prop := ∃ A n c l, v = .slice A n c ∧ Wds w A n c l ∧ Norm l ∧ wv l = x

/-- block g is an Int's struct -/
def IntBlk (w : World) (g : Nat) : Prop := ∃ a b, w.heap[g]? = some (.cells #[a, b] 58 (0, 0))
/-- .. and holds X -/
def IntAt (w : World) (g : Nat) (X : Int) : Prop := ∃ neg v, w.heap[g]? = some (.cells #[.bool neg, v] 58 (0, 0)) ∧ NatAt w v X.natAbs ∧ (neg = true ↔ X < 0)

/-- a call's word on a function that hands back a whole number's words -/
def RetNat (w : World) (x : Nat) : Ending → World → Prop := fun e w' => ∃ v, e = .returned v ∧ NatAt w' v x ∧ Below w.heap.size w w'

section
variable {w w' : World}
theorem heap_lt {g : Nat} {o : Obj} (h : w.heap[g]? = some o) : g < w.heap.size := by
  rcases Nat.lt_or_ge g w.heap.size with hlt | hge
  · exact hlt
  · rw [Array.getElem?_eq_none hge] at h; cases h

/-- all blocks of words are as they were -/
def WordsKept (w w' : World) : Prop := ∀ (g : Nat) (cs : Array Value) (fr : Nat × Nat), w.heap[g]? = some (Obj.cells cs 108 fr) → w'.heap[g]? = w.heap[g]?

theorem Wds.kept {A : Option Addr} {n c : Nat} {l : List Nat} (h : Wds w A n c l) (k : WordsKept w w') : Wds w' A n c l :=
  ⟨h.len, h.cap, h.small, fun j d hd => by
    obtain ⟨ad, cs, fr, e, hb, hc⟩ := h.cell j d hd
    have hk := k _ _ _ hb
    exact ⟨ad, cs, fr, e, hk.trans hb, (World.cell?_of_block (w := w) (by
      have : (ad.add j).block = ad.block := by unfold Addr.add; split <;> rfl
      rw [this]; exact hk)).trans hc⟩, h.nil⟩
theorem NatAt.kept {v : Value} {x : Nat} (h : NatAt w v x) (k : WordsKept w w') : NatAt w' v x := by
  obtain ⟨A, n, c, l, e, hw, hn, hx⟩ := h
  exact ⟨A, n, c, l, e, hw.kept k, hn, hx⟩
theorem WordsKept.refl : WordsKept w w := fun _ _ _ _ => rfl
theorem WordsKept.of_below (h : Below w.heap.size w w') : WordsKept w w' := fun g _ _ hg => h.block g (heap_lt hg)
theorem WordsKept.of_grown {g : Nat} (h : w.grownBy w' (some g)) (hb : IntBlk w g) : WordsKept w w' := fun k cs fr hk => h.block k (heap_lt hk) (by
  intro e
  injection e with e
  subst e
  obtain ⟨a, b, hb⟩ := hb
  rw [hb] at hk
  injection hk with hk
  injection hk with _ ht
  cases ht)

theorem NatAt.below {v : Value} {x : Nat} (h : NatAt w v x) (k : Below w.heap.size w w') : NatAt w' v x := h.kept (.of_below k)
theorem IntAt.blk {g : Nat} {X : Int} (h : IntAt w g X) : IntBlk w g := by
  obtain ⟨n, v, hg, _⟩ := h
  exact ⟨_, _, hg⟩
theorem IntBlk.lt {g : Nat} (h : IntBlk w g) : g < w.heap.size := by
  obtain ⟨_, _, h⟩ := h
  exact heap_lt h
theorem IntAt.lt {g : Nat} {X : Int} (h : IntAt w g X) : g < w.heap.size := h.blk.lt
theorem IntBlk.below {g : Nat} (h : IntBlk w g) (k : Below w.heap.size w w') : IntBlk w' g := by
  have hl := h.lt
  obtain ⟨a, b, h⟩ := h
  exact ⟨a, b, (k.block g hl).trans h⟩
theorem IntAt.below {g : Nat} {X : Int} (h : IntAt w g X) (k : Below w.heap.size w w') : IntAt w' g X := by
  have hl := h.lt
  obtain ⟨n, v, hg, hn, hs⟩ := h
  exact ⟨n, v, (k.block g hl).trans hg, hn.below k, hs⟩
theorem IntBlk.grown {g f : Nat} (h : IntBlk w g) (k : w.grownBy w' (some f)) (hne : g ≠ f) : IntBlk w' g := by
  have hl := h.lt
  obtain ⟨a, b, h⟩ := h
  exact ⟨a, b, (k.block g hl (by intro e; injection e with e; exact hne e)).trans h⟩
theorem IntAt.grown {g f : Nat} {X : Int} (h : IntAt w g X) (k : w.grownBy w' (some f)) (hf : IntBlk w f) (hne : g ≠ f) : IntAt w' g X := by
  have hl := h.lt
  obtain ⟨n, v, hg, hn, hs⟩ := h
  exact ⟨n, v, (k.block g hl (by intro e; injection e with e; exact hne e)).trans hg, hn.kept (.of_grown k hf), hs⟩
theorem grown_of_below (g : Option Nat) (k : Below w.heap.size w w') : w.grownBy w' g := ⟨k.os, k.tape, k.output, k.size, fun i hi _ => k.block i hi⟩
theorem below_drewN {B : Nat} {a : World} (h : Below B a w) (n : Nat) : Below B a (w.drewN n) := ⟨h.os, h.tape, h.output, h.size, h.block⟩
theorem below_of_grown {B : Nat} {a : World} {g : Nat} (h : Below B a w) (k : w.grownBy w' (some g)) (hB : B ≤ w.heap.size) (hg : B ≤ g) : Below B a w' :=
  h.grown k hB fun k' e => by injection e with e; omega
theorem IntAt.drewN {g : Nat} {X : Int} (h : IntAt w g X) (n : Nat) : IntAt (w.drewN n) g X := h.below (below_drewN (Below.refl _ _) n)
theorem NatAt.drewN {v : Value} {x : Nat} (h : NatAt w v x) (n : Nat) : NatAt (w.drewN n) v x := h.below (below_drewN (Below.refl _ _) n)
end

/-- a slice of ints that lies below block B -/
structure Ints (w : World) (B : Nat) (A : Option Addr) (l : List Int) : Prop where
  cell : ∀ j v, l[j]? = some v → ∃ ad, A = some ad ∧ ad.block < B ∧ w.cell? (ad.add j) = some (.int .i64 v)
theorem Ints.at_ {w : World} {B : Nat} {A : Option Addr} {l : List Int} (h : Ints w B A l) {k : Nat} (hk : k < l.length) :
    ∃ ad v, A = some ad ∧ l[k]? = some v ∧ ad.block < B ∧ w.cell? (ad.add k) = some (.int .i64 v) := by
  obtain ⟨ad, e, hb, hc⟩ := h.cell k l[k] (List.getElem?_eq_getElem hk)
  exact ⟨ad, _, e, List.getElem?_eq_getElem hk, hb, hc⟩
theorem addr_zero (a : Addr) : a.add 0 = a := by unfold Addr.add; rw [if_pos rfl]
theorem addr_pos (a : Addr) (k : Nat) (h : 0 < k) : a.add k = ⟨a.block, a.off + k, none⟩ := by unfold Addr.add; rw [if_neg (by omega)]
theorem add_block (a : Addr) (n : Nat) : (a.add n).block = a.block := by unfold Addr.add; split <;> rfl
theorem Ints.below {w w' : World} {B B' : Nat} {A : Option Addr} {l : List Int} (h : Ints w B A l) (k : Below B' w w') (hB : B ≤ B') : Ints w' B A l :=
  ⟨fun j v hv => by
    obtain ⟨ad, e, hb, hc⟩ := h.cell j v hv
    exact ⟨ad, e, hb, (k.cell (by rw [add_block]; omega)).trans hc⟩⟩
theorem Ints.more {w : World} {B B' : Nat} {A : Option Addr} {l : List Int} (h : Ints w B A l) (hB : B ≤ B') : Ints w B' A l :=
  ⟨fun j v hv => by
    obtain ⟨ad, e, hb, hc⟩ := h.cell j v hv
    exact ⟨ad, e, by omega, hc⟩⟩
theorem Ints.of_block {w : World} {g : Nat} {cs : Array Value} {T : TypeId} {fr : Nat × Nat} {l : List Int} (h : w.heap[g]? = some (.cells cs T fr)) (hc : cs.toList = l.map (Value.int .i64)) : Ints w (g + 1) (some ⟨g, 0, none⟩) l :=
  ⟨fun j v hv => ⟨_, rfl, Nat.lt_succ_self _, by
    have e : (⟨g, 0, none⟩ : Addr).add j = ⟨g, j, none⟩ := by
      unfold Addr.add
      split
      · rename_i h0; subst h0; rfl
      · simp
    rw [e]
    have hj : cs[j]? = some (.int .i64 v) := by
      rw [← Array.getElem?_toList, hc, List.getElem?_map, hv]; rfl
    simp [World.cell?, h, hj]⟩⟩

theorem wrap_u64_nat (a : Nat) (ha : a < 18446744073709551616) : IntKind.u64.wrap (a : Int) = (a : Int) := by rw [IntKind.wrap_u64]; omega
theorem bits_mask32 (a : Nat) (ha : a < 18446744073709551616) : bits .and .u64 (a : Int) 4294967295 = ((a % 4294967296 : Nat) : Int) := by
  have h := bits_and_u64_nat a 4294967295 ha (by omega)
  have e : a &&& 4294967295 = a % 4294967296 := Nat.and_two_pow_sub_one_eq_mod a 32
  rw [e] at h
  exact h

theorem wrap_shl (y s : Nat) (h : y * 2 ^ s < 18446744073709551616) : IntKind.u64.wrap ((y : Int) * 2 ^ s) = ((y * 2 ^ s : Nat) : Int) := by
  have e : ((y : Int) * 2 ^ s) = ((y * 2 ^ s : Nat) : Int) := by rw [Int.natCast_mul, Int.natCast_pow]; rfl
  rw [e]; exact wrap_u64_nat _ h
theorem wrap_shl_any (y s : Nat) : IntKind.u64.wrap ((y : Int) * 2 ^ s) = ((y * 2 ^ s % 18446744073709551616 : Nat) : Int) := by
  have e : ((y : Int) * 2 ^ s) = ((y * 2 ^ s : Nat) : Int) := by rw [Int.natCast_mul, Int.natCast_pow]; rfl
  rw [e, IntKind.wrap_u64]; omega

theorem bcell {W w1 : World} (hb : Below W.heap.size W w1) : (∀ b o, b < W.heap.size → w1.cell? ⟨b, o, none⟩ = W.cell? ⟨b, o, none⟩) ∧ (∀ b o, b < W.heap.size → w1.frozen? ⟨b, o, none⟩ = W.frozen? ⟨b, o, none⟩) :=
  ⟨fun b o h => hb.cell (p := ⟨b, o, none⟩) h, fun b o h => hb.frozen (p := ⟨b, o, none⟩) h⟩

end Go.Proofs.Ytlchmaiflcnaoaa

namespace Go.Proofs.Ytlchmaiflcnaoaa
open Go.RowKit

theorem tmod_fix (a m : Int) (hm : 0 < m) : (if a.tmod m < 0 then a.tmod m + m else a.tmod m) = a % m := by
  have h1 := Int.tmod_eq_emod (a := a) (b := m)
  have h2 := Int.emod_nonneg a (b := m) (by omega)
  have h3 := Int.emod_lt_of_pos a hm
  rw [h1]
  split <;> split <;> omega
theorem tmod_neg_fix {a m : Int} (hm : 0 < m) (h : a.tmod m < 0) : a.tmod m + m = a % m := by
  rw [← tmod_fix a m hm, if_pos h]
theorem tmod_pos_fix {a m : Int} (hm : 0 < m) (h : 0 ≤ a.tmod m) : a.tmod m = a % m := by
  rw [← tmod_fix a m hm, if_neg (by omega)]

set_option maxRecDepth 100000 in
set_option maxHeartbeats 400000 in
theorem mod_any (a m : Int) (w : World) (hm : 0 < m) (hm2 : m ≤ 9223372036854775807) (_ha : -9223372036854775808 ≤ a) (_ha2 : a ≤ 9223372036854775807) :
    Calls Try.prog 79 #[.int .i64 a, .int .i64 m] w fun e w' => e = .returned (.int .i64 (a % m)) ∧ w = w' := by
  have h1 := Int.lt_tmod_of_pos a hm
  have h2 := Int.tmod_lt_of_pos a hm
  go_enter Try.func79, Try.ntmps79
  go_wp2
  · go_ret
    exact ⟨ret_int (tmod_neg_fix hm (by assumption)), rfl⟩
  · go_ret
    exact ⟨ret_int (tmod_pos_fix hm (by assumption)), rfl⟩

/-- what whole.Ok says -/
def okB (n : Int) : Bool := decide (-1000000000000000000 ≤ n ∧ n ≤ 1000000000000000000)

set_option maxRecDepth 100000 in
set_option maxHeartbeats 400000 in
theorem ok_yes (n : Int) (w : World) (h : okB n = true) :
    Calls Try.prog 84 #[.int .i64 n] w fun e w' => e = .returned (.bool true) ∧ w = w' := by
  have h1 : -1000000000000000000 ≤ n := by unfold okB at h; simp at h; omega
  have h2 : n ≤ 1000000000000000000 := by unfold okB at h; simp at h; omega
  clear h
  go_enter Try.func84, Try.ntmps84
  go_wp2
  go_ret
  exact ⟨rfl, rfl⟩

set_option maxRecDepth 100000 in
set_option maxHeartbeats 400000 in
theorem ok_no (n : Int) (w : World) (h : okB n = false) :
    Calls Try.prog 84 #[.int .i64 n] w fun e w' => e = .returned (.bool false) ∧ w = w' := by
  have h1 : n < -1000000000000000000 ∨ 1000000000000000000 < n := by unfold okB at h; simp at h; omega
  clear h
  rcases h1 with h1 | h1
  · have h2 : decide (-1000000000000000000 ≤ n) = false := by simp; omega
    go_enter Try.func84, Try.ntmps84
    go_wp2
    go_ret
    exact ⟨rfl, rfl⟩
  · have h2 : -1000000000000000000 ≤ n := by omega
    have h3 : decide (n ≤ 1000000000000000000) = false := by simp; omega
    go_enter Try.func84, Try.ntmps84
    go_wp2
    go_ret
    exact ⟨by simp, rfl⟩

theorem ok_any (n : Int) (w : World) :
    Calls Try.prog 84 #[.int .i64 n] w fun e w' => e = .returned (.bool (okB n)) ∧ w = w' := by
  cases h : okB n
  · exact ok_no n w h
  · exact ok_yes n w h

set_option maxRecDepth 100000 in
set_option maxHeartbeats 400000 in
theorem fault_any (c n : Int) (w : World) :
    Calls Try.prog 176 #[.int .i64 c, .int .i64 n] w fun e w' => e = .returned (.agg #[.int .i64 c, .int .i64 n]) ∧ Below w.heap.size w w' := by
  go_enter Try.func176, Try.ntmps176
  go_wp2
  exact bodyPost_ret (v := .agg #[.int .i64 c, .int .i64 n]) (by simp [results, Try.results176, go_sem]) rfl ⟨rfl, (Below.refl _ _).alloc (Nat.le_refl _) _⟩

set_option maxRecDepth 100000 in
set_option maxHeartbeats 400000 in
theorem divisor_any (a b : Int) (w : World) (ha : -9223372036854775807 ≤ a) (ha2 : a ≤ 9223372036854775807) (hb : -9223372036854775807 ≤ b) (hb2 : b ≤ 9223372036854775807) :
    Calls Try.prog 56 #[.int .i64 a, .int .i64 b] w fun e w' => e = .returned (.int .i64 (Int.gcd a b)) ∧ ∃ n, w' = w.drewN n := by
  go_enter Try.func56, Try.ntmps56
  go_wp2
  go_loopw [0, 1] (fun x y wr => ∃ (p q : Int) (n : Nat), -9223372036854775807 ≤ p ∧ p ≤ 9223372036854775807 ∧ -9223372036854775807 ≤ q ∧ q ≤ 9223372036854775807 ∧ Int.gcd p q = Int.gcd a b ∧ x = .int .i64 p ∧ y = .int .i64 q ∧ wr = w.drewN n) (fun _ y _ => (intOf y).natAbs)
  case atStart => exact ⟨a, b, 0, by omega, by omega, by omega, by omega, rfl, rfl, rfl, rfl⟩
  case round =>
    obtain ⟨p, q, n, hp1, hp2, hq1, hq2, hg, rfl, rfl, rfl⟩ := hrel
    have HG := Lib.hid hg
    clear hg
    by_cases hq : q = 0
    · subst hq
      have hg := HG.out
      rw [Int.gcd_zero_right] at hg
      have HH := Lib.hid hg
      clear hg
      go_wp2
      · go_ret
        exact ⟨ret_int (by have := HH.out; omega), n, rfl⟩
      · go_ret
        exact ⟨ret_int (by have := HH.out; omega), n, rfl⟩
    · have hq' : (q != 0) = true := by simpa using hq
      have hlt := Int.natAbs_tmod p q
      have hlt2 := Nat.mod_lt p.natAbs (y := q.natAbs) (by omega)
      have HL : Hid ((p.tmod q).natAbs < q.natAbs) := by unfold Hid; omega
      have hgt : Hid (Int.gcd q (p.tmod q) = Int.gcd a b) := by unfold Hid; rw [Ar.gcd_tmod]; exact HG.out
      clear hlt hlt2
      go_wp2
      go_quiet (fail)
      go_wp2
      go_roundw
      case rel => exact ⟨q, p.tmod q, n + nq, hq1, hq2, by have := HL.out; omega, by have := HL.out; omega, hgt.out, rfl, rfl, World.drewN_drewN _ _ _⟩
      case measure => simpa [intOf] using HL.out
end Go.Proofs.Ytlchmaiflcnaoaa

namespace Go.Proofs.Ytlchmaiflcnaoaa
open Go.RowKit

/-- a fault's value -/
def fv (f : Int × Int) : Value := .agg #[.int .i64 f.1, .int .i64 f.2]
/-- the fault of the first that is no number -/
def lookK : Nat → List Int → Int × Int
  | _, [] => (0, 0)
  | k, x :: r => if okB x = true then lookK (k + 1) r else (3, k)
def RetFault (w : World) (f : Int × Int) : Ending → World → Prop := fun e w' => e = .returned (fv f) ∧ Below w.heap.size w w'

/-- block g is a fault's cell -/
def FC (w : World) (g : Nat) (a b : Int) : Prop := w.heap[g]? = some (.cells #[.int .i64 a, .int .i64 b] 26 (0, 0))
theorem FC.fresh (w : World) : FC (w.alloc (.cells #[.int .i64 0, .int .i64 0] 26)) w.heap.size 0 0 := by
  show (w.heap.push _)[w.heap.size]? = _
  simp
theorem FC.made (w : World) (x y : Int) : FC (w.alloc (.cells #[.int .i64 x, .int .i64 y] 26)) w.heap.size x y := by
  show (w.heap.push _)[w.heap.size]? = _
  simp
theorem FC.lt {w : World} {g : Nat} {a b : Int} (h : FC w g a b) : g < w.heap.size := heap_lt h
theorem FC.below {w w' : World} {g : Nat} {a b : Int} (h : FC w g a b) (k : Below w.heap.size w w') : FC w' g a b := (k.block g h.lt).trans h
theorem FC.cells {w : World} {g : Nat} {a b : Int} (h : FC w g a b) : w.cell? ⟨g, 0, none⟩ = some (.int .i64 a) ∧ w.cell? ⟨g, 1, none⟩ = some (.int .i64 b) ∧ w.frozen? ⟨g, 0, none⟩ = false ∧ w.frozen? ⟨g, 1, none⟩ = false := by
  unfold FC at h
  exact ⟨by simp [World.cell?, h], by simp [World.cell?, h], by simp [World.frozen?, h], by simp [World.frozen?, h]⟩
theorem FC.set0 {w : World} {g : Nat} {a b : Int} (h : FC w g a b) (x : Int) : FC (w.setCell ⟨g, 0, none⟩ (.int .i64 x)) g x b := by
  unfold FC at h ⊢
  simp [World.setCell, Array.getElem?_modify, h]
theorem FC.set1 {w : World} {g : Nat} {a b : Int} (h : FC w g a b) (x : Int) : FC (w.setCell ⟨g, 1, none⟩ (.int .i64 x)) g a x := by
  unfold FC at h ⊢
  simp [World.setCell, Array.getElem?_modify, h]
theorem FC.put {w : World} {g : Nat} {a b : Int} (h : FC w g a b) (x y : Int) : (w.setCell ⟨g, 0, none⟩ (.int .i64 x)).cell? ⟨g, 0, none⟩ = some (.int .i64 x) ∧ ((w.setCell ⟨g, 0, none⟩ (.int .i64 x)).setCell ⟨g, 1, none⟩ (.int .i64 y)).cell? ⟨g, 1, none⟩ = some (.int .i64 y) :=
  ⟨(h.set0 x).cells.1, ((h.set0 x).set1 y).cells.2.1⟩
theorem below_fault {w w1 : World} {B g : Nat} {u v : Value} (h : Below B w w1) (hg : B ≤ g) : Below B w ((w1.setCell ⟨g, 0, none⟩ u).setCell ⟨g, 1, none⟩ v) := (h.setCell (p := ⟨g, 0, none⟩) hg u).setCell (p := ⟨g, 1, none⟩) hg v
/-- out of a world that began with a fault's cell -/
theorem below_new {w w1 : World} {o : Obj} (h : Below (w.alloc o).heap.size (w.alloc o) w1) : Below w.heap.size w w1 := ((Below.refl _ _).alloc (Nat.le_refl _) o).trans (h.mono (by simp))

theorem lookK_yes {l : List Int} {k : Nat} {x : Int} (hx : l[k]? = some x) (h : okB x = true) : lookK k (l.drop k) = lookK (k + 1) (l.drop (k + 1)) := by
  obtain ⟨hk, rfl⟩ := List.getElem?_eq_some_iff.1 hx
  rw [List.drop_eq_getElem_cons hk, lookK, if_pos h]
theorem lookK_no {l : List Int} {k : Nat} {x : Int} (hx : l[k]? = some x) (h : okB x = false) : lookK k (l.drop k) = (3, (k : Int)) := by
  obtain ⟨hk, rfl⟩ := List.getElem?_eq_some_iff.1 hx
  rw [List.drop_eq_getElem_cons hk, lookK, if_neg (by rw [h]; simp)]
theorem lookK_end {l : List Int} {k : Nat} (h : k = l.length) : lookK k (l.drop k) = (0, 0) := by
  rw [h, List.drop_length, lookK]

set_option maxRecDepth 100000 in
set_option maxHeartbeats 800000 in
theorem look_any (A : Option Addr) (n c : Nat) (l : List Int) (w : World) (hl : l.length = n) (hn : n ≤ 1000000) (h : Ints w w.heap.size A l) :
    Calls Try.prog 147 #[.slice A n c] w (RetFault w (lookK 0 l)) := by
  have HI := hide h
  have HL := hide hl
  clear h hl
  go_enter Try.func147, Try.ntmps147
  go_wp2
  go_loopw [7] (fun x wr => ∃ k : Nat, x = .int .i64 k ∧ k ≤ n ∧ Hid (lookK 0 l = lookK k (l.drop k)) ∧ wr = w.alloc (.cells #[.int .i64 0, .int .i64 0] 26)) (fun x _ => n - (intOf x).toNat)
  case atStart => exact ⟨0, rfl, by omega, rfl, rfl⟩
  case round =>
    obtain ⟨k, rfl, hk, HK, rfl⟩ := hrel
    by_cases hkn : k < n
    · obtain ⟨ad, x, rfl, hx, hab, hac⟩ := HI.out.at_ (k := k) (by rw [HL.out]; exact hkn)
      have c1 : (w.alloc (.cells #[.int .i64 0, .int .i64 0] 26)).cell? (ad.add k) = some (.int .i64 x) := by
        rw [World.cell?_alloc_lt _ _ _ (by rw [add_block]; exact hab)]; exact hac
      have C := fun W => hide (ok_any x W)
      have C2 := fun W => hide (fault_any 3 (k : Int) W)
      have HX := hide hx
      clear hx hac
      cases ho : okB x
      · rw [ho] at C
        have HR := hide (HK.out.trans (lookK_no HX.out ho))
        go_wp2_with fail
        refine (C _).out.mono ?_
        rintro e w1 ⟨rfl, rfl⟩
        go_wp2_with fail
        refine (C2 _).out.mono ?_
        rintro e w1 ⟨rfl, hb⟩
        obtain ⟨d0, d1, f0, f1⟩ := ((FC.fresh w).below hb).cells
        obtain ⟨p0, p1⟩ := ((FC.fresh w).below hb).put 3 (k : Int)
        have HB := hide (below_fault (u := .int .i64 3) (v := .int .i64 (k : Int)) (below_new hb) (Nat.le_refl _))
        clear hb
        go_wp2_with fail
        exact bodyPost_ret (v := fv (3, k)) (by simp [results, Try.results147, go_sem, fv, p0, p1]) rfl ⟨by rw [HR.out], HB.out⟩
      · rw [ho] at C
        have HR := hide (HK.out.trans (lookK_yes HX.out ho))
        go_wp2_with fail
        refine (C _).out.mono ?_
        rintro e w1 ⟨rfl, rfl⟩
        go_wp2_with fail
        exact ⟨⟨k + 1, by simp, by omega, HR, trivial⟩, by simp [intOf]; omega⟩
    · obtain rfl : k = n := by omega
      have HR := hide (HK.out.trans (lookK_end HL.out.symm))
      go_wp2_with fail
      exact bodyPost_ret (v := .agg #[.int .i64 0, .int .i64 0]) (by simp [results, Try.results147, go_sem]) rfl ⟨by rw [HR.out]; rfl, (Below.refl _ _).alloc (Nat.le_refl _) _⟩

theorem refF_any (c n : Int) (w : World) :
    Calls Try.prog 10 #[.int .i64 c, .int .i64 n] w fun e w' => e = .returned (.agg #[.int .i64 c, .int .i64 n]) ∧ Below w.heap.size w w' := by
  go_enter Try.func10, Try.ntmps10
  go_wp2
  exact bodyPost_ret (v := .agg #[.int .i64 c, .int .i64 n]) (by simp [results, Try.results10, go_sem]) rfl ⟨rfl, (Below.refl _ _).alloc (Nat.le_refl _) _⟩

end Go.Proofs.Ytlchmaiflcnaoaa

namespace Go.Proofs.Ytlchmaiflcnaoaa
open Go.RowKit

theorem lookK_cases (k : Nat) (l : List Int) : lookK k l = (0, 0) ∧ (∀ x ∈ l, okB x = true) ∨ ∃ i, lookK k l = (3, i) := by
  induction l generalizing k with
  | nil => exact Or.inl ⟨rfl, by simp⟩
  | cons x r ih =>
    rw [lookK]
    cases h : okB x
    · rw [if_neg (by simp)]; exact Or.inr ⟨k, rfl⟩
    · rw [if_pos rfl]
      rcases ih (k + 1) with ⟨e, hr⟩ | ⟨i, e⟩
      · exact Or.inl ⟨e, fun y hy => by
          rcases List.mem_cons.1 hy with rfl | hy
          · exact h
          · exact hr y hy⟩
      · exact Or.inr ⟨i, e⟩

/-- a fresh slice of ints -/
theorem ints_new (w : World) (l : List Int) (T : TypeId) : Ints (w.alloc (.cells (l.map (Value.int .i64)).toArray T)) (w.alloc (.cells (l.map (Value.int .i64)).toArray T)).heap.size (some ⟨w.heap.size, 0, none⟩) l := by
  have h : (w.alloc (.cells (l.map (Value.int .i64)).toArray T)).heap[w.heap.size]? = some (.cells (l.map (Value.int .i64)).toArray T (0, 0)) := by
    show (w.heap.push _)[w.heap.size]? = _
    simp
  exact (Ints.of_block h (by simp)).more (by simp)

theorem ok_bounds {x : Int} (h : okB x = true) : -1000000000000000000 ≤ x ∧ x ≤ 1000000000000000000 := by
  unfold okB at h; simpa using h

theorem below_new2 {w w1 : World} {o o2 : Obj} (h : Below ((w.alloc o).alloc o2).heap.size ((w.alloc o).alloc o2) w1) : Below (w.alloc o).heap.size (w.alloc o) w1 := below_new h

theorem divisor_below (a b : Int) (w : World) (ha : -9223372036854775807 ≤ a) (ha2 : a ≤ 9223372036854775807) (hb : -9223372036854775807 ≤ b) (hb2 : b ≤ 9223372036854775807) :
    Calls Try.prog 56 #[.int .i64 a, .int .i64 b] w fun e w' => e = .returned (.int .i64 (Int.gcd a b)) ∧ Below w.heap.size w w' := by
  refine (divisor_any a b w ha ha2 hb hb2).mono ?_
  rintro e w2 ⟨rfl, n, rfl⟩
  exact ⟨rfl, below_drewN (Below.refl _ _) n⟩

def RetGcd (w : World) (a b : Int) : Ending → World → Prop := fun e w' => ∃ d : Int, e = .returned (.tuple #[.int .i64 d, fv (lookK 0 [a, b])]) ∧ ((lookK 0 [a, b]).1 = 0 → d = Int.gcd a b) ∧ ((lookK 0 [a, b]).1 ≠ 0 → d = 0) ∧ Below w.heap.size w w'

end Go.Proofs.Ytlchmaiflcnaoaa

namespace Go.Proofs.Ytlchmaiflcnaoaa
open Go.RowKit

theorem gcd_step1 (p q : Nat) : Nat.gcd (p % q) q = Nat.gcd p q := by rw [← Nat.gcd_rec, Nat.gcd_comm]
theorem gcd_step2 (p q : Nat) : Nat.gcd p (q % p) = Nat.gcd p q := by rw [Nat.gcd_comm, ← Nat.gcd_rec]
theorem tmod_nat (p q : Nat) : ((p : Int)).tmod (q : Int) = ((p % q : Nat) : Int) := by
  rw [Int.tmod_eq_emod_of_nonneg (by omega)]; rfl

theorem ret_i64 {a b : Int} (h : a = b) : Value.int .i64 a = .int .i64 b := by rw [h]

set_option maxRecDepth 100000 in
set_option maxHeartbeats 800000 in
theorem refGcd_any (a b : Int) (w : World) (ha : -1000000000000000000 ≤ a) (ha2 : a ≤ 1000000000000000000) (hb : -1000000000000000000 ≤ b) (hb2 : b ≤ 1000000000000000000) :
    Calls Try.prog 29 #[.int .i64 a, .int .i64 b] w fun e w' => e = .returned (.int .i64 (Int.gcd a b)) ∧ w' = w := by
  have HG : Hid (Int.gcd a b = Nat.gcd a.natAbs b.natAbs) := rfl
  have e1 : IntKind.i64.wrap (-a) = -a := by rw [IntKind.wrap_i64]; omega
  have e2 : IntKind.i64.wrap (-b) = -b := by rw [IntKind.wrap_i64]; omega
  go_enter Try.func29, Try.ntmps29
  go_upto_if 6 with (fail)
  go_cut [0] (fun x wx => x = .int .i64 (a.natAbs : Int) ∧ wx = w)
  case first =>
    by_cases h : a < 0
    · go_wp2_with fail
      go_meet
      exact ⟨ret_i64 (by omega), rfl⟩
    · have h1 : decide (a < 0) = false := by simpa using h
      go_wp2_with fail
      go_meet
      exact ⟨ret_i64 (by omega), rfl⟩
  case rest =>
    obtain ⟨rfl, rfl⟩ := hcut
    obtain ⟨x, hx⟩ : ∃ x, a.natAbs = x := ⟨_, rfl⟩
    have hx2 : x ≤ 1000000000000000000 := by omega
    rw [hx] at HG ⊢
    clear ha ha2 e1 hx
    go_upto_if 10 with (fail)
    go_cut [1] (fun y wy => y = .int .i64 (b.natAbs : Int) ∧ wy = wc)
    case first =>
      by_cases h : b < 0
      · go_wp2_with fail
        go_meet
        exact ⟨ret_i64 (by omega), rfl⟩
      · have h1 : decide (b < 0) = false := by simpa using h
        go_wp2_with fail
        go_meet
        exact ⟨ret_i64 (by omega), rfl⟩
    case rest =>
      obtain ⟨rfl, rfl⟩ := hcut
      obtain ⟨y, hy⟩ : ∃ y, b.natAbs = y := ⟨_, rfl⟩
      have hy2 : y ≤ 1000000000000000000 := by omega
      rw [hy] at HG ⊢
      clear hb hb2 e2 hy
      go_wp2_with fail
      go_loop [0, 1] (fun s t => ∃ p q : Nat, s = .int .i64 p ∧ t = .int .i64 q ∧ p ≤ 1000000000000000000 ∧ q ≤ 1000000000000000000 ∧ Hid (Nat.gcd p q = Nat.gcd x y)) (fun s t => (intOf s).toNat + (intOf t).toNat)
      case atStart => exact ⟨x, y, rfl, rfl, hx2, hy2, rfl⟩
      case round =>
        obtain ⟨p, q, rfl, rfl, hp, hq, HE⟩ := hrel
        clear hx2 hy2
        by_cases hp0 : p = 0
        · subst hp0
          have HR : Hid (Int.gcd a b = q) := by unfold Hid; rw [HG.out, ← HE.out, Nat.gcd_zero_left]
          go_wp2_with fail
          go_ret
          exact ⟨by rw [HR.out]; rfl, rfl⟩
        · have d1 : decide (0 < p) = true := by simp; omega
          by_cases hq0 : q = 0
          · subst hq0
            have HR : Hid (Int.gcd a b = p) := by unfold Hid; rw [HG.out, ← HE.out, Nat.gcd_zero_right]
            clear hp0
            go_wp2_with fail
            go_ret
            exact ⟨by rw [HR.out]; rfl, rfl⟩
          · have d2 : decide (0 < q) = true := by simp; omega
            by_cases hqp : q < p
            · have d3 : decide (q < p) = true := by simpa using hqp
              have e3 := tmod_nat p q
              have HE2 : Hid (Nat.gcd (p % q) q = Nat.gcd x y) := by unfold Hid; rw [gcd_step1]; exact HE.out
              have hm := Nat.mod_lt p (y := q) (by omega)
              have HM := hide hm
              have hq1 : ((q : Int) == 0) = false := by simpa using hq0
              obtain ⟨z, hz⟩ : ∃ z, p % q = z := ⟨_, rfl⟩
              rw [hz] at HE2 HM e3
              clear hp0 hm hz HE
              go_wp2_with fail
              exact ⟨⟨z, q, rfl, rfl, by have := HM.out; omega, hq, HE2⟩, by have := HM.out; simp [intOf]; omega⟩
            · have d3 : decide (q < p) = false := by simpa using hqp
              have e3 := tmod_nat q p
              have HE2 : Hid (Nat.gcd p (q % p) = Nat.gcd x y) := by unfold Hid; rw [gcd_step2]; exact HE.out
              have hm := Nat.mod_lt q (y := p) (by omega)
              have HM := hide hm
              have hq1 : ((p : Int) == 0) = false := by simpa using hp0
              obtain ⟨z, hz⟩ : ∃ z, q % p = z := ⟨_, rfl⟩
              rw [hz] at HE2 HM e3
              clear hq0 hm hz HE
              go_wp2_with fail
              exact ⟨⟨p, z, rfl, rfl, hp, by have := HM.out; omega, HE2⟩, by have := HM.out; simp [intOf]; omega⟩

theorem size_any (a : Int) (w : World) (ha : -1000000000000000000 ≤ a) (ha2 : a ≤ 1000000000000000000) :
    Calls Try.prog 48 #[.int .i64 a] w fun e w' => e = .returned (.int .i64 (a.natAbs : Int)) ∧ w' = w := by
  have e1 : IntKind.i64.wrap (-a) = -a := by rw [IntKind.wrap_i64]; omega
  by_cases h : a < 0
  · have HE : Hid ((a.natAbs : Int) = -a) := by unfold Hid; omega
    go_enter Try.func48, Try.ntmps48
    go_wp2_with fail
    go_ret
    exact ⟨by rw [HE.out]; rfl, rfl⟩
  · have HE : Hid ((a.natAbs : Int) = a) := by unfold Hid; omega
    have h1 : decide (a < 0) = false := by simpa using h
    clear h
    go_enter Try.func48, Try.ntmps48
    go_wp2_with fail
    go_ret
    exact ⟨by rw [HE.out]; rfl, rfl⟩
end Go.Proofs.Ytlchmaiflcnaoaa

namespace Go.Proofs.Ytlchmaiflcnaoaa

/-- the form with a and b of discriminant d is one of the reduced ones (d below 0) -/
def okF (d a b : Int) : Bool := decide ((4 * a ∣ b * b - d) ∧ -a < b ∧ b ≤ a ∧ a ≤ (b * b - d) / (4 * a) ∧ ¬ ((b * b - d) / (4 * a) = a ∧ b < 0) ∧ Int.gcd a (Int.gcd b ((b * b - d) / (4 * a))) = 1)
def frm (d a b : Int) : Int × Int × Int := (a, b, (b * b - d) / (4 * a))
/-- of one a: b from -a on, j of them -/
def rowF (d a : Int) : Nat → List (Int × Int × Int)
  | 0 => []
  | j + 1 => rowF d a j ++ if okF d a (-a + j) = true then [frm d a (-a + j)] else []
/-- all of a from 1 on, n of them -/
def allF (d : Int) : Nat → List (Int × Int × Int)
  | 0 => []
  | n + 1 => allF d n ++ rowF d ((n : Int) + 1) (2 * (n + 1) + 1)

theorem okF_first (d a : Int) : okF d a (-a) = false := by
  unfold okF; rw [decide_eq_false_iff_not]; omega
theorem rowF_one (d a : Int) : rowF d a 1 = [] := by
  rw [rowF, rowF, show -a + ((0 : Nat) : Int) = -a from by omega, okF_first]; rfl
theorem rowF_len (d a : Int) (j : Nat) : (rowF d a j).length ≤ j := by
  induction j with
  | zero => simp [rowF]
  | succ j ih => rw [rowF, List.length_append]; split <;> simp <;> omega
theorem allF_len (d : Int) (n : Nat) : (allF d n).length ≤ n * (2 * n + 1) := by
  induction n with
  | zero => simp [allF]
  | succ n ih =>
    rw [allF, List.length_append]
    have := rowF_len d ((n : Int) + 1) (2 * (n + 1) + 1)
    have h2 : (n + 1) * (2 * (n + 1) + 1) = n * (2 * n + 1) + (4 * n + 3) := by grind
    omega
end Go.Proofs.Ytlchmaiflcnaoaa

namespace Go.Proofs.Ytlchmaiflcnaoaa
open Go.RowKit

/-- a form's value -/
def fmv (f : Int × Int × Int) : Value := .agg #[.int .i64 f.1, .int .i64 f.2.1, .int .i64 f.2.2]
/-- block g holds a form -/
def MC (w : World) (g : Nat) (a b c : Int) : Prop := w.heap[g]? = some (.cells #[.int .i64 a, .int .i64 b, .int .i64 c] 23 (0, 0))
theorem MC.made (w : World) (a b c : Int) : MC (w.alloc (.cells #[.int .i64 a, .int .i64 b, .int .i64 c] 23)) w.heap.size a b c := by
  show (w.heap.push _)[w.heap.size]? = _
  simp
theorem MC.lt {w : World} {g : Nat} {a b c : Int} (h : MC w g a b c) : g < w.heap.size := heap_lt h
theorem MC.below {w w' : World} {g : Nat} {a b c : Int} (h : MC w g a b c) (k : Below w.heap.size w w') : MC w' g a b c := (k.block g h.lt).trans h
theorem MC.cells {w : World} {g : Nat} {a b c : Int} (h : MC w g a b c) : w.cell? ⟨g, 0, none⟩ = some (.int .i64 a) ∧ w.cell? ⟨g, 1, none⟩ = some (.int .i64 b) ∧ w.cell? ⟨g, 2, none⟩ = some (.int .i64 c) := by
  unfold MC at h
  exact ⟨by simp [World.cell?, h], by simp [World.cell?, h], by simp [World.cell?, h]⟩

set_option maxRecDepth 100000 in
set_option maxHeartbeats 400000 in
theorem qfault_any (c n : Int) (w : World) :
    Calls Try.prog 37 #[.int .i64 c, .int .i64 n] w fun e w' => e = .returned (.agg #[.int .i64 c, .int .i64 n]) ∧ Below w.heap.size w w' := by
  go_enter Try.func37, Try.ntmps37
  go_wp2
  exact bodyPost_ret (v := .agg #[.int .i64 c, .int .i64 n]) (by simp [results, Try.results37, go_sem]) rfl ⟨rfl, (Below.refl _ _).alloc (Nat.le_refl _) _⟩

theorem abs_mul_le {x y : Int} {p q : Nat} (hx : x.natAbs ≤ p) (hy : y.natAbs ≤ q) : -((p * q : Nat) : Int) ≤ x * y ∧ x * y ≤ ((p * q : Nat) : Int) := by
  have : (x * y).natAbs ≤ p * q := by rw [Int.natAbs_mul]; exact Nat.mul_le_mul hx hy
  omega

theorem disc_bounds {A B C : Int} (hA : A.natAbs ≤ 1000000000) (hB : B.natAbs ≤ 1000000000) (hC : C.natAbs ≤ 1000000000) :
    IntKind.i64.wrap (B * B) = B * B ∧ IntKind.i64.wrap (4 * A) = 4 * A ∧ IntKind.i64.wrap (4 * A * C) = 4 * A * C ∧ IntKind.i64.wrap (B * B - 4 * A * C) = B * B - 4 * A * C ∧ wrap64 (B * B) = B * B ∧ wrap64 (4 * A * C) = 4 * A * C ∧ wrap64 (B * B - 4 * A * C) = B * B - 4 * A * C := by
  have h1 := abs_mul_le hB hB
  have h2 := abs_mul_le (x := 4 * A) (p := 4000000000) (by omega) hC
  simp only [IntKind.wrap_i64]
  unfold wrap64
  omega

set_option maxRecDepth 100000 in
set_option maxHeartbeats 400000 in
theorem disc_any (A B C : Int) (w : World) (hA : A.natAbs ≤ 1000000000) (hB : B.natAbs ≤ 1000000000) (hC : C.natAbs ≤ 1000000000) :
    Calls Try.prog 39 #[.agg #[.int .i64 A, .int .i64 B, .int .i64 C]] w fun e w' => e = .returned (.int .i64 (B * B - 4 * A * C)) ∧ Below w.heap.size w w' := by
  obtain ⟨e1, e2, e3, e4, e5, e6, e7⟩ := disc_bounds hA hB hC
  clear hA hB hC
  go_enter Try.func39, Try.ntmps39
  go_wp2_with fail
  go_ret
  exact ⟨rfl, (Below.refl _ _).alloc (Nat.le_refl _) _⟩

set_option maxRecDepth 100000 in
set_option maxHeartbeats 400000 in
theorem rdisc_any (A B C : Int) (w : World) (hA : A.natAbs ≤ 1000000000) (hB : B.natAbs ≤ 1000000000) (hC : C.natAbs ≤ 1000000000) :
    Calls Try.prog 18 #[.agg #[.int .i64 A, .int .i64 B, .int .i64 C]] w fun e w' => e = .returned (.int .i64 (B * B - 4 * A * C)) ∧ Below w.heap.size w w' := by
  obtain ⟨e1, e2, e3, e4, e5, e6, e7⟩ := disc_bounds hA hB hC
  clear hA hB hC
  go_enter Try.func18, Try.ntmps18
  go_wp2_with fail
  go_ret
  exact ⟨rfl, (Below.refl _ _).alloc (Nat.le_refl _) _⟩

/-- the fault of a number that is not small -/
def smallB (n : Int) : Bool := decide (-1000000 ≤ n ∧ n ≤ 1000000)
/-- the fault of the first that is not small -/
def lookS : Nat → List Int → Int × Int
  | _, [] => (0, 0)
  | k, x :: r => if smallB x = true then lookS (k + 1) r else (3, k)
def smallF (A B C : Int) : Int × Int := lookS 0 [A, B, C]
theorem lookS_yes {l : List Int} {k : Nat} {x : Int} (hx : l[k]? = some x) (h : smallB x = true) : lookS k (l.drop k) = lookS (k + 1) (l.drop (k + 1)) := by
  obtain ⟨hk, rfl⟩ := List.getElem?_eq_some_iff.1 hx
  rw [List.drop_eq_getElem_cons hk, lookS, if_pos h]
theorem lookS_no {l : List Int} {k : Nat} {x : Int} (hx : l[k]? = some x) (h : smallB x = false) : lookS k (l.drop k) = (3, (k : Int)) := by
  obtain ⟨hk, rfl⟩ := List.getElem?_eq_some_iff.1 hx
  rw [List.drop_eq_getElem_cons hk, lookS, if_neg (by rw [h]; simp)]
theorem lookS_zero {A B C : Int} (h : lookS 0 [A, B, C] = (0, 0)) : smallB A = true ∧ smallB B = true ∧ smallB C = true := by
  rw [lookS] at h
  split at h
  · rw [lookS] at h
    split at h
    · rw [lookS] at h
      split at h
      · exact ⟨‹_›, ‹_›, ‹_›⟩
      · simp at h
    · simp at h
  · simp at h
/-- a form's fault -/
def formF (A B C : Int) : Int × Int :=
  if (smallF A B C).1 ≠ 0 then smallF A B C else if A < 1 ∨ 0 ≤ B * B - 4 * A * C then (7, 0) else if Int.gcd A (Int.gcd B C) ≠ 1 then (6, 0) else (0, 0)

theorem small_bounds {n : Int} (h : smallB n = true) : -1000000 ≤ n ∧ n ≤ 1000000 := by unfold smallB at h; simpa using h
theorem small_out {n : Int} (h : smallB n = false) : n < -1000000 ∨ 1000000 < n := by unfold smallB at h; simp at h; omega

/-- what Reduced says -/
def redB (A B C : Int) : Bool := decide ((B.natAbs : Int) ≤ A) && decide (A ≤ C) && (decide (0 ≤ B) || (decide (-B ≠ A) && decide (A ≠ C)))

set_option maxRecDepth 100000 in
set_option maxHeartbeats 1600000 in
theorem reduced_any (A B C : Int) (w : World) (hB : -1000000000000 ≤ B) (hB2 : B ≤ 1000000000000) :
    Calls Try.prog 19 #[.agg #[.int .i64 A, .int .i64 B, .int .i64 C]] w fun e w' => e = .returned (.bool (redB A B C)) ∧ Below w.heap.size w w' := by
  have CS := fun W => hide (size_any B W (by omega) (by omega))
  have e1 : IntKind.i64.wrap (-B) = -B := by rw [IntKind.wrap_i64]; omega
  obtain ⟨S, hS⟩ : ∃ S, (B.natAbs : Int) = S := ⟨_, rfl⟩
  have HR : Hid (redB A B C = (decide (S ≤ A) && decide (A ≤ C) && (decide (0 ≤ B) || (decide (-B ≠ A) && decide (A ≠ C))))) := by unfold Hid redB; rw [hS]
  rw [hS] at CS
  clear hS
  by_cases h1 : S ≤ A
  · by_cases h2 : A ≤ C
    · by_cases h3 : 0 ≤ B
      · have HE : Hid (redB A B C = true) := by unfold Hid; rw [HR.out]; simp [h1, h2, h3]
        have q1 : decide (S ≤ A) = true := by simpa using h1
        have q2 : decide (A ≤ C) = true := by simpa using h2
        have q3 : decide (0 ≤ B) = true := by simpa using h3
        clear HR h1 h2 h3 hB hB2
        go_enter Try.func19, Try.ntmps19
        go_wp2_with fail
        go_quiet ((go_at_call 48; exact Calls.quiet_of_same (CS _).out))
        go_wp2_with fail
        go_ret
        exact ⟨by rw [HE.out]; rfl, below_drewN ((Below.refl _ _).alloc (Nat.le_refl _) _) _⟩
      · by_cases h4 : -B = A
        · have HE : Hid (redB A B C = false) := by unfold Hid; rw [HR.out]; simp [h3, h4]
          have q1 : decide (S ≤ A) = true := by simpa using h1
          have q2 : decide (A ≤ C) = true := by simpa using h2
          have q3 : decide (0 ≤ B) = false := by simpa using h3
          have q4 : (-B != A) = false := by simpa using h4
          clear HR h1 h2 h3 h4 hB hB2
          go_enter Try.func19, Try.ntmps19
          go_wp2_with fail
          go_quiet ((go_at_call 48; exact Calls.quiet_of_same (CS _).out))
          go_wp2_with fail
          go_ret
          exact ⟨by rw [HE.out]; rfl, below_drewN ((Below.refl _ _).alloc (Nat.le_refl _) _) _⟩
        · by_cases h5 : A = C
          · have HE : Hid (redB A B C = false) := by unfold Hid; rw [HR.out]; simp [h3, h5]
            have q1 : decide (S ≤ A) = true := by simpa using h1
            have q2 : decide (A ≤ C) = true := by simpa using h2
            have q3 : decide (0 ≤ B) = false := by simpa using h3
            have q4 : (-B != A) = true := by simpa using h4
            have q5 : (A != C) = false := by simpa using h5
            clear HR h1 h2 h3 h4 h5 hB hB2
            go_enter Try.func19, Try.ntmps19
            go_wp2_with fail
            go_quiet ((go_at_call 48; exact Calls.quiet_of_same (CS _).out))
            go_wp2_with fail
            go_ret
            exact ⟨by rw [HE.out]; rfl, below_drewN ((Below.refl _ _).alloc (Nat.le_refl _) _) _⟩
          · have HE : Hid (redB A B C = true) := by unfold Hid; rw [HR.out]; simp [h1, h2, h4, h5]
            have q1 : decide (S ≤ A) = true := by simpa using h1
            have q2 : decide (A ≤ C) = true := by simpa using h2
            have q3 : decide (0 ≤ B) = false := by simpa using h3
            have q4 : (-B != A) = true := by simpa using h4
            have q5 : (A != C) = true := by simpa using h5
            clear HR h1 h2 h3 h4 h5 hB hB2
            go_enter Try.func19, Try.ntmps19
            go_wp2_with fail
            go_quiet ((go_at_call 48; exact Calls.quiet_of_same (CS _).out))
            go_wp2_with fail
            go_ret
            exact ⟨by rw [HE.out]; rfl, below_drewN ((Below.refl _ _).alloc (Nat.le_refl _) _) _⟩
    · have HE : Hid (redB A B C = false) := by unfold Hid; rw [HR.out]; simp [h2]
      have q1 : decide (S ≤ A) = true := by simpa using h1
      have q2 : decide (A ≤ C) = false := by simpa using h2
      clear HR h1 h2 hB hB2
      go_enter Try.func19, Try.ntmps19
      go_wp2_with fail
      go_quiet ((go_at_call 48; exact Calls.quiet_of_same (CS _).out))
      go_wp2_with fail
      go_ret
      exact ⟨by rw [HE.out]; rfl, below_drewN ((Below.refl _ _).alloc (Nat.le_refl _) _) _⟩
  · have HE : Hid (redB A B C = false) := by unfold Hid; rw [HR.out]; simp [h1]
    have q1 : decide (S ≤ A) = false := by simpa using h1
    clear HR h1 hB hB2
    go_enter Try.func19, Try.ntmps19
    go_wp2_with fail
    go_quiet ((go_at_call 48; exact Calls.quiet_of_same (CS _).out))
    go_wp2_with fail
    go_ret
    exact ⟨by rw [HE.out]; rfl, below_drewN ((Below.refl _ _).alloc (Nat.le_refl _) _) _⟩
end Go.Proofs.Ytlchmaiflcnaoaa

namespace Go.Proofs.Ytlchmaiflcnaoaa
open Go.RowKit

theorem formF_small {A B C : Int} {k : Nat} (h : smallF A B C = (3, (k : Int))) : formF A B C = (3, (k : Int)) := by unfold formF; rw [h, if_pos (by simp)]
theorem formF_kind {A B C : Int} (h : smallF A B C = (0, 0)) (h2 : A < 1 ∨ 0 ≤ B * B - 4 * A * C) : formF A B C = (7, 0) := by unfold formF; rw [h, if_neg (by simp), if_pos h2]
theorem formF_form {A B C : Int} (h : smallF A B C = (0, 0)) (h2 : ¬ (A < 1 ∨ 0 ≤ B * B - 4 * A * C)) (h3 : Int.gcd A (Int.gcd B C) ≠ 1) : formF A B C = (6, 0) := by unfold formF; rw [h, if_neg (by simp), if_neg h2, if_pos h3]
theorem formF_none {A B C : Int} (h : smallF A B C = (0, 0)) (h2 : ¬ (A < 1 ∨ 0 ≤ B * B - 4 * A * C)) (h3 : ¬ Int.gcd A (Int.gcd B C) ≠ 1) : formF A B C = (0, 0) := by unfold formF; rw [h, if_neg (by simp), if_neg h2, if_neg h3]

theorem bel3 (w : World) (o1 o2 o3 : Obj) : Below w.heap.size w (((w.alloc o1).alloc o2).alloc o3) :=
  (((Below.refl _ _).alloc (Nat.le_refl _) _).alloc (by simp) _).alloc (by simp; omega) _

/-- the first k are small -/
def SmP (A B C k : Int) : Prop := (0 < k → smallB A = true) ∧ (1 < k → smallB B = true) ∧ (2 < k → smallB C = true)
theorem gcd_le {a b : Int} {N : Nat} (ha : a.natAbs ≤ N) (hb : b.natAbs ≤ N) : Int.gcd a b ≤ N := by
  by_cases h0 : a = 0
  · subst h0
    rw [Int.gcd_zero_left]; exact hb
  · have h1 := Nat.gcd_le_left b.natAbs (m := a.natAbs) (by omega)
    have h2 : Int.gcd a b = Nat.gcd a.natAbs b.natAbs := rfl
    omega
theorem gcd_three (A B C : Int) : Int.gcd (Int.gcd A B) C = Int.gcd A (Int.gcd B C) := by
  show Nat.gcd (Nat.gcd A.natAbs B.natAbs) C.natAbs = Nat.gcd A.natAbs (Nat.gcd B.natAbs C.natAbs)
  exact Nat.gcd_assoc _ _ _
theorem bel_obj (w : World) (o : Obj) : Below w.heap.size w (w.alloc o) := (Below.refl _ _).alloc (Nat.le_refl _) _

set_option maxRecDepth 100000 in
set_option maxHeartbeats 6400000 in
theorem check_any (A B C : Int) (w : World) :
    Calls Try.prog 36 #[.agg #[.int .i64 A, .int .i64 B, .int .i64 C]] w (RetFault w (formF A B C)) := by
  have F0 : Hid (FC (((w.alloc (.cells #[.int .i64 A, .int .i64 B, .int .i64 C] 23)).alloc (.cells #[.int .i64 0, .int .i64 0] 26)).alloc (.cells #[.int .i64 A, .int .i64 B, .int .i64 C] 3)) (w.heap.size + 1) 0 0) := by
    have := ((FC.fresh (w.alloc (.cells #[.int .i64 A, .int .i64 B, .int .i64 C] 23)))).below (bel_obj _ (.cells #[.int .i64 A, .int .i64 B, .int .i64 C] 3))
    unfold Hid
    simpa using this
  have BW := hide (bel3 w (.cells #[.int .i64 A, .int .i64 B, .int .i64 C] 23) (.cells #[.int .i64 0, .int .i64 0] 26) (.cells #[.int .i64 A, .int .i64 B, .int .i64 C] 3))
  go_enter Try.func36, Try.ntmps36
  go_wp2_with fail
  go_loopw [3, 4, 13] (fun _ _ x wr => ∃ k : Int, x = .int .i64 k ∧ (k = 0 ∨ k = 1 ∨ k = 2 ∨ k = 3) ∧ Hid (SmP A B C k) ∧ wr = (((w.alloc (.cells #[.int .i64 A, .int .i64 B, .int .i64 C] 23)).alloc (.cells #[.int .i64 0, .int .i64 0] 26)).alloc (.cells #[.int .i64 A, .int .i64 B, .int .i64 C] 3))) (fun _ _ x _ => 3 - (intOf x).toNat)
  case atStart => exact ⟨0, rfl, by omega, ⟨fun h => by omega, fun h => by omega, fun h => by omega⟩, rfl⟩
  case round =>
    obtain ⟨k, rfl, hk, HP, rfl⟩ := hrel
    rcases hk with rfl | rfl | rfl | rfl
    · -- number 0
      cases hs : smallB A
      · have HR : Hid (formF A B C = (3, 0)) := formF_small (k := 0) (by unfold smallF; have hp := HP.out; rw [lookS, if_neg (by rw [hs]; simp)])
        have hd := small_out hs
        have hd2 : decide (A < -1000000) = true ∨ (decide (A < -1000000) = false ∧ decide (1000000 < A) = true) := by
          simp only [decide_eq_true_eq, decide_eq_false_iff_not]; omega
        have C3 := fun W => hide (qfault_any 3 0 W)
        clear hd hs
        rcases hd2 with hd | ⟨hd, hd2⟩
        all_goals
          go_wp2_with fail
          refine (C3 _).out.mono ?_
          rintro e w1 ⟨rfl, hb⟩
          obtain ⟨d0, d1, f0, f1⟩ := (F0.out.below hb).cells
          obtain ⟨p0, p1⟩ := (F0.out.below hb).put 3 0
          have HB := hide (below_fault (u := .int .i64 3) (v := .int .i64 0) (BW.out.trans (hb.mono BW.out.size)) (Nat.le_succ w.heap.size))
          clear hb
          go_wp2_with fail
          exact bodyPost_ret (v := fv (3, 0)) (by simp [results, Try.results36, go_sem, fv, p0, p1]) rfl ⟨by rw [HR.out], HB.out⟩
      · have hd := small_bounds hs
        have HP2 : Hid (SmP A B C 1) := by
          have hp := HP.out
          refine ⟨fun _ => hs, fun h => (by omega), fun h => (by omega)⟩
        have q1 : decide (A < -1000000) = false := by simp; omega
        have q2 : decide (1000000 < A) = false := by simp; omega
        clear hd hs
        go_wp2_with fail
        exact ⟨⟨1, rfl, by omega, HP2, trivial⟩, by simp [intOf]⟩
    · -- number 1
      cases hs : smallB B
      · have HR : Hid (formF A B C = (3, 1)) := formF_small (k := 1) (by unfold smallF; have hp := HP.out; rw [lookS, if_pos (hp.1 (by decide))]; rw [lookS, if_neg (by rw [hs]; simp)])
        have hd := small_out hs
        have hd2 : decide (B < -1000000) = true ∨ (decide (B < -1000000) = false ∧ decide (1000000 < B) = true) := by
          simp only [decide_eq_true_eq, decide_eq_false_iff_not]; omega
        have C3 := fun W => hide (qfault_any 3 1 W)
        clear hd hs
        rcases hd2 with hd | ⟨hd, hd2⟩
        all_goals
          go_wp2_with fail
          refine (C3 _).out.mono ?_
          rintro e w1 ⟨rfl, hb⟩
          obtain ⟨d0, d1, f0, f1⟩ := (F0.out.below hb).cells
          obtain ⟨p0, p1⟩ := (F0.out.below hb).put 3 1
          have HB := hide (below_fault (u := .int .i64 3) (v := .int .i64 1) (BW.out.trans (hb.mono BW.out.size)) (Nat.le_succ w.heap.size))
          clear hb
          go_wp2_with fail
          exact bodyPost_ret (v := fv (3, 1)) (by simp [results, Try.results36, go_sem, fv, p0, p1]) rfl ⟨by rw [HR.out], HB.out⟩
      · have hd := small_bounds hs
        have HP2 : Hid (SmP A B C 2) := by
          have hp := HP.out
          refine ⟨fun _ => hp.1 (by decide), fun h => hs, fun h => (by omega)⟩
        have q1 : decide (B < -1000000) = false := by simp; omega
        have q2 : decide (1000000 < B) = false := by simp; omega
        clear hd hs
        go_wp2_with fail
        exact ⟨⟨2, rfl, by omega, HP2, trivial⟩, by simp [intOf]⟩
    · -- number 2
      cases hs : smallB C
      · have HR : Hid (formF A B C = (3, 2)) := formF_small (k := 2) (by unfold smallF; have hp := HP.out; rw [lookS, if_pos (hp.1 (by decide))]; rw [lookS, if_pos (hp.2.1 (by decide))]; rw [lookS, if_neg (by rw [hs]; simp)])
        have hd := small_out hs
        have hd2 : decide (C < -1000000) = true ∨ (decide (C < -1000000) = false ∧ decide (1000000 < C) = true) := by
          simp only [decide_eq_true_eq, decide_eq_false_iff_not]; omega
        have C3 := fun W => hide (qfault_any 3 2 W)
        clear hd hs
        rcases hd2 with hd | ⟨hd, hd2⟩
        all_goals
          go_wp2_with fail
          refine (C3 _).out.mono ?_
          rintro e w1 ⟨rfl, hb⟩
          obtain ⟨d0, d1, f0, f1⟩ := (F0.out.below hb).cells
          obtain ⟨p0, p1⟩ := (F0.out.below hb).put 3 2
          have HB := hide (below_fault (u := .int .i64 3) (v := .int .i64 2) (BW.out.trans (hb.mono BW.out.size)) (Nat.le_succ w.heap.size))
          clear hb
          go_wp2_with fail
          exact bodyPost_ret (v := fv (3, 2)) (by simp [results, Try.results36, go_sem, fv, p0, p1]) rfl ⟨by rw [HR.out], HB.out⟩
      · have hd := small_bounds hs
        have HP2 : Hid (SmP A B C 3) := by
          have hp := HP.out
          refine ⟨fun _ => hp.1 (by decide), fun h => hp.2.1 (by decide), fun h => hs⟩
        have q1 : decide (C < -1000000) = false := by simp; omega
        have q2 : decide (1000000 < C) = false := by simp; omega
        clear hd hs
        go_wp2_with fail
        exact ⟨⟨3, rfl, by omega, HP2, trivial⟩, by simp [intOf]⟩
    · -- all small
      have hp := HP.out
      have hA := hp.1 (by decide)
      have hB := hp.2.1 (by decide)
      have hC := hp.2.2 (by decide)
      have hsm : smallF A B C = (0, 0) := by unfold smallF; rw [lookS, if_pos hA, lookS, if_pos hB, lookS, if_pos hC, lookS]
      have bA := small_bounds hA
      have bB := small_bounds hB
      have bC := small_bounds hC
      have CD := fun W => hide (disc_any A B C W (by omega) (by omega) (by omega))
      obtain ⟨D, hD⟩ : ∃ D, B * B - 4 * A * C = D := ⟨_, rfl⟩
      rw [hD] at CD
      by_cases h1 : A < 1
      · have HR : Hid (formF A B C = (7, 0)) := formF_kind hsm (.inl h1)
        have C7 := fun W => hide (qfault_any 7 0 W)
        have q1 : decide (A < 1) = true := by simpa using h1
        clear hp hA hB hC hsm bA bB bC hD h1
        go_wp2_with fail
        refine (C7 _).out.mono ?_
        rintro e w1 ⟨rfl, hb⟩
        obtain ⟨d0, d1, f0, f1⟩ := (F0.out.below hb).cells
        obtain ⟨p0, p1⟩ := (F0.out.below hb).put 7 0
        have HB := hide (below_fault (u := .int .i64 7) (v := .int .i64 0) (BW.out.trans (hb.mono BW.out.size)) (Nat.le_succ w.heap.size))
        clear hb
        go_wp2_with fail
        exact bodyPost_ret (v := fv (7, 0)) (by simp [results, Try.results36, go_sem, fv, p0, p1]) rfl ⟨by rw [HR.out], HB.out⟩
      · by_cases h2 : 0 ≤ D
        · have HR : Hid (formF A B C = (7, 0)) := formF_kind hsm (.inr (by rw [hD]; exact h2))
          have C7 := fun W => hide (qfault_any 7 0 W)
          have q1 : decide (A < 1) = false := by simpa using h1
          have q2 : decide (0 ≤ D) = true := by simpa using h2
          clear hp hA hB hC hsm bA bB bC hD h1 h2
          go_wp2_with fail
          refine (CD _).out.mono ?_
          rintro e w0 ⟨rfl, hb0⟩
          have F1 := hide (F0.out.below hb0)
          have BW1 := hide (BW.out.trans (hb0.mono BW.out.size))
          clear hb0 F0 BW
          have F0 := F1
          have BW := BW1
          clear F1 BW1
          go_wp2_with fail
          refine (C7 _).out.mono ?_
          rintro e w1 ⟨rfl, hb⟩
          obtain ⟨d0, d1, f0, f1⟩ := (F0.out.below hb).cells
          obtain ⟨p0, p1⟩ := (F0.out.below hb).put 7 0
          have HB := hide (below_fault (u := .int .i64 7) (v := .int .i64 0) (BW.out.trans (hb.mono BW.out.size)) (Nat.le_succ w.heap.size))
          clear hb
          go_wp2_with fail
          exact bodyPost_ret (v := fv (7, 0)) (by simp [results, Try.results36, go_sem, fv, p0, p1]) rfl ⟨by rw [HR.out], HB.out⟩
        · have q1 : decide (A < 1) = false := by simpa using h1
          have q2 : decide (0 ≤ D) = false := by simpa using h2
          have M0 := hide ((MC.made w A B C).below ((bel_obj _ (.cells #[.int .i64 0, .int .i64 0] 26)).trans ((bel_obj _ (.cells #[.int .i64 A, .int .i64 B, .int .i64 C] 3)).mono (by simp))))
          have BF := hide (And.intro bA (And.intro bB bC))
          have D1 := fun W => hide (divisor_any B C W (by omega) (by omega) (by omega) (by omega))
          have g1b : (Int.gcd B C : Int) ≤ 1000000 := by
            have := gcd_le (a := B) (b := C) (N := 1000000) (by omega) (by omega)
            omega
          have D2 := fun W => hide (divisor_any A (Int.gcd B C) W (by omega) (by omega) (by omega) (by omega))
          have HSM := hide hsm
          have HD := hide hD
          have h12 := hide (And.intro h1 h2)
          obtain ⟨G1, hG1⟩ : ∃ G1 : Nat, Int.gcd B C = G1 := ⟨_, rfl⟩
          have HG1 := hide hG1
          rw [hG1] at D1 D2
          obtain ⟨G2, hG2⟩ : ∃ G2 : Nat, Int.gcd A (G1 : Int) = G2 := ⟨_, rfl⟩
          have HG2 := hide hG2
          rw [hG2] at D2
          clear hp hA hB hC hsm bA bB bC hD h1 h2 g1b hG1 hG2
          go_wp2_with fail
          refine (CD _).out.mono ?_
          rintro e w0 ⟨rfl, hb0⟩
          have F1 := hide (F0.out.below hb0)
          have M1 := hide (M0.out.below (by simpa using hb0))
          have BW1 := hide (BW.out.trans (hb0.mono BW.out.size))
          obtain ⟨m0, m1, m2⟩ := M1.out.cells
          obtain ⟨d0, d1, f0, f1⟩ := F1.out.cells
          clear hb0 F0 BW M0
          by_cases hg : G2 = 1
          · have HR : Hid (formF A B C = (0, 0)) := formF_none HSM.out (by rw [HD.out]; have := h12.out; omega) (by rw [HG1.out, HG2.out, hg]; simp)
            have q3 : ((G2 : Int) != 1) = false := by rw [hg]; rfl
            clear hg
            go_wp2_with fail
            go_quiet ((go_at_call 56; first | (with_reducible refine Calls.quiet_of (D1 _).out) | (with_reducible refine Calls.quiet_of (D2 _).out)))
            go_wp2_with fail
            obtain ⟨p0, p1⟩ := (F1.out.below (below_drewN (Below.refl _ _) nq)).put 0 0
            exact bodyPost_ret (v := fv (0, 0)) (by simp [results, Try.results36, go_sem, fv, p0, p1]) rfl ⟨by rw [HR.out], below_fault (below_drewN BW1.out nq) (Nat.le_succ w.heap.size)⟩
          · have HR : Hid (formF A B C = (6, 0)) := formF_form HSM.out (by rw [HD.out]; have := h12.out; omega) (by rw [HG1.out, HG2.out]; exact hg)
            have q3 : ((G2 : Int) != 1) = true := by rw [bne_iff_ne]; omega
            have C6 := fun W => hide (qfault_any 6 0 W)
            clear hg
            go_wp2_with fail
            go_quiet ((go_at_call 56; first | (with_reducible refine Calls.quiet_of (D1 _).out) | (with_reducible refine Calls.quiet_of (D2 _).out)))
            go_wp2_with fail
            refine (C6 _).out.mono ?_
            rintro e w1 ⟨rfl, hb⟩
            have F2 := (F1.out.below (below_drewN (Below.refl _ _) nq)).below hb
            obtain ⟨d0, d1, f0, f1⟩ := F2.cells
            obtain ⟨p0, p1⟩ := F2.put 6 0
            have HB := hide (below_fault (u := .int .i64 6) (v := .int .i64 0) ((below_drewN BW1.out nq).trans (hb.mono BW1.out.size)) (Nat.le_succ w.heap.size))
            clear hb F2
            go_wp2_with fail
            exact bodyPost_ret (v := fv (6, 0)) (by simp [results, Try.results36, go_sem, fv, p0, p1]) rfl ⟨by rw [HR.out], HB.out⟩

set_option maxRecDepth 100000 in
set_option maxHeartbeats 6400000 in
theorem formFault_any (A B C : Int) (w : World) :
    Calls Try.prog 9 #[.agg #[.int .i64 A, .int .i64 B, .int .i64 C]] w (RetFault w (formF A B C)) := by
  have F0 : Hid (FC (((w.alloc (.cells #[.int .i64 A, .int .i64 B, .int .i64 C] 23)).alloc (.cells #[.int .i64 0, .int .i64 0] 26)).alloc (.cells #[.int .i64 A, .int .i64 B, .int .i64 C] 3)) (w.heap.size + 1) 0 0) := by
    have := ((FC.fresh (w.alloc (.cells #[.int .i64 A, .int .i64 B, .int .i64 C] 23)))).below (bel_obj _ (.cells #[.int .i64 A, .int .i64 B, .int .i64 C] 3))
    unfold Hid
    simpa using this
  have BW := hide (bel3 w (.cells #[.int .i64 A, .int .i64 B, .int .i64 C] 23) (.cells #[.int .i64 0, .int .i64 0] 26) (.cells #[.int .i64 A, .int .i64 B, .int .i64 C] 3))
  go_enter Try.func9, Try.ntmps9
  go_wp2_with fail
  go_loopw [4] (fun x wr => ∃ k : Int, x = .int .i64 k ∧ (k = 0 ∨ k = 1 ∨ k = 2 ∨ k = 3) ∧ Hid (SmP A B C k) ∧ wr = (((w.alloc (.cells #[.int .i64 A, .int .i64 B, .int .i64 C] 23)).alloc (.cells #[.int .i64 0, .int .i64 0] 26)).alloc (.cells #[.int .i64 A, .int .i64 B, .int .i64 C] 3))) (fun x _ => 3 - (intOf x).toNat)
  case atStart => exact ⟨0, rfl, by omega, ⟨fun h => by omega, fun h => by omega, fun h => by omega⟩, rfl⟩
  case round =>
    obtain ⟨k, rfl, hk, HP, rfl⟩ := hrel
    rcases hk with rfl | rfl | rfl | rfl
    · -- number 0
      cases hs : smallB A
      · have HR : Hid (formF A B C = (3, 0)) := formF_small (k := 0) (by unfold smallF; have hp := HP.out; rw [lookS, if_neg (by rw [hs]; simp)])
        have hd := small_out hs
        have hd2 : decide (1000000 < A) = true ∨ (decide (1000000 < A) = false ∧ decide (A < -1000000) = true) := by
          simp only [decide_eq_true_eq, decide_eq_false_iff_not]; omega
        have C3 := fun W => hide (refF_any 3 0 W)
        clear hd hs
        rcases hd2 with hd | ⟨hd, hd2⟩
        all_goals
          go_wp2_with fail
          refine (C3 _).out.mono ?_
          rintro e w1 ⟨rfl, hb⟩
          obtain ⟨d0, d1, f0, f1⟩ := (F0.out.below hb).cells
          obtain ⟨p0, p1⟩ := (F0.out.below hb).put 3 0
          have HB := hide (below_fault (u := .int .i64 3) (v := .int .i64 0) (BW.out.trans (hb.mono BW.out.size)) (Nat.le_succ w.heap.size))
          clear hb
          go_wp2_with fail
          exact bodyPost_ret (v := fv (3, 0)) (by simp [results, Try.results9, go_sem, fv, p0, p1]) rfl ⟨by rw [HR.out], HB.out⟩
      · have hd := small_bounds hs
        have HP2 : Hid (SmP A B C 1) := by
          have hp := HP.out
          refine ⟨fun _ => hs, fun h => (by omega), fun h => (by omega)⟩
        have q1 : decide (A < -1000000) = false := by simp; omega
        have q2 : decide (1000000 < A) = false := by simp; omega
        clear hd hs
        go_wp2_with fail
        exact ⟨⟨1, rfl, by omega, HP2, trivial⟩, by simp [intOf]⟩
    · -- number 1
      cases hs : smallB B
      · have HR : Hid (formF A B C = (3, 1)) := formF_small (k := 1) (by unfold smallF; have hp := HP.out; rw [lookS, if_pos (hp.1 (by decide))]; rw [lookS, if_neg (by rw [hs]; simp)])
        have hd := small_out hs
        have hd2 : decide (1000000 < B) = true ∨ (decide (1000000 < B) = false ∧ decide (B < -1000000) = true) := by
          simp only [decide_eq_true_eq, decide_eq_false_iff_not]; omega
        have C3 := fun W => hide (refF_any 3 1 W)
        clear hd hs
        rcases hd2 with hd | ⟨hd, hd2⟩
        all_goals
          go_wp2_with fail
          refine (C3 _).out.mono ?_
          rintro e w1 ⟨rfl, hb⟩
          obtain ⟨d0, d1, f0, f1⟩ := (F0.out.below hb).cells
          obtain ⟨p0, p1⟩ := (F0.out.below hb).put 3 1
          have HB := hide (below_fault (u := .int .i64 3) (v := .int .i64 1) (BW.out.trans (hb.mono BW.out.size)) (Nat.le_succ w.heap.size))
          clear hb
          go_wp2_with fail
          exact bodyPost_ret (v := fv (3, 1)) (by simp [results, Try.results9, go_sem, fv, p0, p1]) rfl ⟨by rw [HR.out], HB.out⟩
      · have hd := small_bounds hs
        have HP2 : Hid (SmP A B C 2) := by
          have hp := HP.out
          refine ⟨fun _ => hp.1 (by decide), fun h => hs, fun h => (by omega)⟩
        have q1 : decide (B < -1000000) = false := by simp; omega
        have q2 : decide (1000000 < B) = false := by simp; omega
        clear hd hs
        go_wp2_with fail
        exact ⟨⟨2, rfl, by omega, HP2, trivial⟩, by simp [intOf]⟩
    · -- number 2
      cases hs : smallB C
      · have HR : Hid (formF A B C = (3, 2)) := formF_small (k := 2) (by unfold smallF; have hp := HP.out; rw [lookS, if_pos (hp.1 (by decide))]; rw [lookS, if_pos (hp.2.1 (by decide))]; rw [lookS, if_neg (by rw [hs]; simp)])
        have hd := small_out hs
        have hd2 : decide (1000000 < C) = true ∨ (decide (1000000 < C) = false ∧ decide (C < -1000000) = true) := by
          simp only [decide_eq_true_eq, decide_eq_false_iff_not]; omega
        have C3 := fun W => hide (refF_any 3 2 W)
        clear hd hs
        rcases hd2 with hd | ⟨hd, hd2⟩
        all_goals
          go_wp2_with fail
          refine (C3 _).out.mono ?_
          rintro e w1 ⟨rfl, hb⟩
          obtain ⟨d0, d1, f0, f1⟩ := (F0.out.below hb).cells
          obtain ⟨p0, p1⟩ := (F0.out.below hb).put 3 2
          have HB := hide (below_fault (u := .int .i64 3) (v := .int .i64 2) (BW.out.trans (hb.mono BW.out.size)) (Nat.le_succ w.heap.size))
          clear hb
          go_wp2_with fail
          exact bodyPost_ret (v := fv (3, 2)) (by simp [results, Try.results9, go_sem, fv, p0, p1]) rfl ⟨by rw [HR.out], HB.out⟩
      · have hd := small_bounds hs
        have HP2 : Hid (SmP A B C 3) := by
          have hp := HP.out
          refine ⟨fun _ => hp.1 (by decide), fun h => hp.2.1 (by decide), fun h => hs⟩
        have q1 : decide (C < -1000000) = false := by simp; omega
        have q2 : decide (1000000 < C) = false := by simp; omega
        clear hd hs
        go_wp2_with fail
        exact ⟨⟨3, rfl, by omega, HP2, trivial⟩, by simp [intOf]⟩
    · -- all small
      have hp := HP.out
      have hA := hp.1 (by decide)
      have hB := hp.2.1 (by decide)
      have hC := hp.2.2 (by decide)
      have hsm : smallF A B C = (0, 0) := by unfold smallF; rw [lookS, if_pos hA, lookS, if_pos hB, lookS, if_pos hC, lookS]
      have bA := small_bounds hA
      have bB := small_bounds hB
      have bC := small_bounds hC
      have CD := fun W => hide (rdisc_any A B C W (by omega) (by omega) (by omega))
      obtain ⟨D, hD⟩ : ∃ D, B * B - 4 * A * C = D := ⟨_, rfl⟩
      rw [hD] at CD
      by_cases h1 : A < 1
      · have HR : Hid (formF A B C = (7, 0)) := formF_kind hsm (.inl h1)
        have C7 := fun W => hide (refF_any 7 0 W)
        have q1 : decide (A < 1) = true := by simpa using h1
        clear hp hA hB hC hsm bA bB bC hD h1
        go_wp2_with fail
        refine (C7 _).out.mono ?_
        rintro e w1 ⟨rfl, hb⟩
        obtain ⟨d0, d1, f0, f1⟩ := (F0.out.below hb).cells
        obtain ⟨p0, p1⟩ := (F0.out.below hb).put 7 0
        have HB := hide (below_fault (u := .int .i64 7) (v := .int .i64 0) (BW.out.trans (hb.mono BW.out.size)) (Nat.le_succ w.heap.size))
        clear hb
        go_wp2_with fail
        exact bodyPost_ret (v := fv (7, 0)) (by simp [results, Try.results9, go_sem, fv, p0, p1]) rfl ⟨by rw [HR.out], HB.out⟩
      · by_cases h2 : 0 ≤ D
        · have HR : Hid (formF A B C = (7, 0)) := formF_kind hsm (.inr (by rw [hD]; exact h2))
          have C7 := fun W => hide (refF_any 7 0 W)
          have q1 : decide (A < 1) = false := by simpa using h1
          have q2 : decide (0 ≤ D) = true := by simpa using h2
          clear hp hA hB hC hsm bA bB bC hD h1 h2
          go_wp2_with fail
          refine (CD _).out.mono ?_
          rintro e w0 ⟨rfl, hb0⟩
          have F1 := hide (F0.out.below hb0)
          have BW1 := hide (BW.out.trans (hb0.mono BW.out.size))
          clear hb0 F0 BW
          have F0 := F1
          have BW := BW1
          clear F1 BW1
          go_wp2_with fail
          refine (C7 _).out.mono ?_
          rintro e w1 ⟨rfl, hb⟩
          obtain ⟨d0, d1, f0, f1⟩ := (F0.out.below hb).cells
          obtain ⟨p0, p1⟩ := (F0.out.below hb).put 7 0
          have HB := hide (below_fault (u := .int .i64 7) (v := .int .i64 0) (BW.out.trans (hb.mono BW.out.size)) (Nat.le_succ w.heap.size))
          clear hb
          go_wp2_with fail
          exact bodyPost_ret (v := fv (7, 0)) (by simp [results, Try.results9, go_sem, fv, p0, p1]) rfl ⟨by rw [HR.out], HB.out⟩
        · have q1 : decide (A < 1) = false := by simpa using h1
          have q2 : decide (0 ≤ D) = false := by simpa using h2
          have M0 := hide ((MC.made w A B C).below ((bel_obj _ (.cells #[.int .i64 0, .int .i64 0] 26)).trans ((bel_obj _ (.cells #[.int .i64 A, .int .i64 B, .int .i64 C] 3)).mono (by simp))))
          have BF := hide (And.intro bA (And.intro bB bC))
          have D1 := fun W => hide (refGcd_any A B W (by omega) (by omega) (by omega) (by omega))
          have g1b : (Int.gcd A B : Int) ≤ 1000000 := by
            have := gcd_le (a := A) (b := B) (N := 1000000) (by omega) (by omega)
            omega
          have D2 := fun W => hide (refGcd_any (Int.gcd A B) C W (by omega) (by omega) (by omega) (by omega))
          have HSM := hide hsm
          have HD := hide hD
          have h12 := hide (And.intro h1 h2)
          have H3 := hide (gcd_three A B C)
          obtain ⟨G1, hG1⟩ : ∃ G1 : Nat, Int.gcd A B = G1 := ⟨_, rfl⟩
          have HG1 := hide hG1
          rw [hG1] at D1 D2
          obtain ⟨G2, hG2⟩ : ∃ G2 : Nat, Int.gcd (G1 : Int) C = G2 := ⟨_, rfl⟩
          have HG2 := hide hG2
          rw [hG2] at D2
          clear hp hA hB hC hsm bA bB bC hD h1 h2 g1b hG1 hG2
          go_wp2_with fail
          refine (CD _).out.mono ?_
          rintro e w0 ⟨rfl, hb0⟩
          have F1 := hide (F0.out.below hb0)
          have M1 := hide (M0.out.below (by simpa using hb0))
          have BW1 := hide (BW.out.trans (hb0.mono BW.out.size))
          obtain ⟨m0, m1, m2⟩ := M1.out.cells
          obtain ⟨d0, d1, f0, f1⟩ := F1.out.cells
          clear hb0 F0 BW M0
          by_cases hg : G2 = 1
          · have HR : Hid (formF A B C = (0, 0)) := formF_none HSM.out (by rw [HD.out]; have := h12.out; omega) (by rw [← H3.out, HG1.out, HG2.out, hg]; simp)
            have q3 : ((G2 : Int) != 1) = false := by rw [hg]; rfl
            clear hg
            go_wp2_with fail
            go_quiet ((go_at_call 29; first | (with_reducible refine Calls.quiet_of_same (D1 _).out) | (with_reducible refine Calls.quiet_of_same (D2 _).out)))
            go_wp2_with fail
            obtain ⟨p0, p1⟩ := (F1.out.below (below_drewN (Below.refl _ _) nq)).put 0 0
            exact bodyPost_ret (v := fv (0, 0)) (by simp [results, Try.results9, go_sem, fv, p0, p1]) rfl ⟨by rw [HR.out], below_fault (below_drewN BW1.out nq) (Nat.le_succ w.heap.size)⟩
          · have HR : Hid (formF A B C = (6, 0)) := formF_form HSM.out (by rw [HD.out]; have := h12.out; omega) (by rw [← H3.out, HG1.out, HG2.out]; exact hg)
            have q3 : ((G2 : Int) != 1) = true := by rw [bne_iff_ne]; omega
            have C6 := fun W => hide (refF_any 6 0 W)
            clear hg
            go_wp2_with fail
            go_quiet ((go_at_call 29; first | (with_reducible refine Calls.quiet_of_same (D1 _).out) | (with_reducible refine Calls.quiet_of_same (D2 _).out)))
            go_wp2_with fail
            refine (C6 _).out.mono ?_
            rintro e w1 ⟨rfl, hb⟩
            have F2 := (F1.out.below (below_drewN (Below.refl _ _) nq)).below hb
            obtain ⟨d0, d1, f0, f1⟩ := F2.cells
            obtain ⟨p0, p1⟩ := F2.put 6 0
            have HB := hide (below_fault (u := .int .i64 6) (v := .int .i64 0) ((below_drewN BW1.out nq).trans (hb.mono BW1.out.size)) (Nat.le_succ w.heap.size))
            clear hb F2
            go_wp2_with fail
            exact bodyPost_ret (v := fv (6, 0)) (by simp [results, Try.results9, go_sem, fv, p0, p1]) rfl ⟨by rw [HR.out], HB.out⟩
end Go.Proofs.Ytlchmaiflcnaoaa

namespace Go.Proofs.Ytlchmaiflcnaoaa
open Go.RowKit

theorem small_of {n : Int} (h : -1000000 ≤ n ∧ n ≤ 1000000) : smallB n = true := by unfold smallB; simpa using h

/-- the cells of a list of forms -/
def fcs (l : List (Int × Int × Int)) : List Value := l.flatMap fun f => [.int .i64 f.1, .int .i64 f.2.1, .int .i64 f.2.2]
theorem fcs_append (l r : List (Int × Int × Int)) : fcs (l ++ r) = fcs l ++ fcs r := by unfold fcs; rw [List.flatMap_append]
theorem fcs_one (f : Int × Int × Int) : fcs [f] = [.int .i64 f.1, .int .i64 f.2.1, .int .i64 f.2.2] := by simp [fcs]
theorem fcs_len (l : List (Int × Int × Int)) : (fcs l).length = l.length * 3 := by
  induction l with
  | nil => rfl
  | cons f l ih =>
    have : fcs (f :: l) = fcs [f] ++ fcs l := fcs_append [f] l
    rw [this, List.length_append, ih, fcs_one]; simp; omega
theorem fcs_get (l : List (Int × Int × Int)) (i : Nat) (f : Int × Int × Int) (h : l[i]? = some f) : (fcs l)[i * 3]? = some (.int .i64 f.1) ∧ (fcs l)[i * 3 + 1]? = some (.int .i64 f.2.1) ∧ (fcs l)[i * 3 + 2]? = some (.int .i64 f.2.2) := by
  induction l generalizing i with
  | nil => simp at h
  | cons g l ih =>
    have e : fcs (g :: l) = fcs [g] ++ fcs l := fcs_append [g] l
    rw [e, fcs_one]
    cases i with
    | zero => simp at h; subst h; simp
    | succ i =>
      simp at h
      obtain ⟨h1, h2, h3⟩ := ih i h
      refine ⟨?_, ?_, ?_⟩
      · rw [List.getElem?_append_right (by simp; omega)]; simpa [show (i + 1) * 3 - 3 = i * 3 from by omega] using h1
      · rw [List.getElem?_append_right (by simp; omega)]; simpa [show (i + 1) * 3 + 1 - 3 = i * 3 + 1 from by omega] using h2
      · rw [List.getElem?_append_right (by simp; omega)]; simpa [show (i + 1) * 3 + 2 - 3 = i * 3 + 2 from by omega] using h3

theorem finfo : (Try.prog.info? 23).map (fun i => (i.zero, i.size, i.bytes)) = some (some (.agg #[.int .i64 0, .int .i64 0, .int .i64 0]), 3, 24) := by kernel_rfl

/-- a slice of forms that a call has made -/
def Forms (w : World) (base : Nat) (v : Value) (l : List (Int × Int × Int)) : Prop := w.ownsRow base 23 3 v l.length (fcs l)
theorem Forms.nil0 (w : World) (base : Nat) : Forms w base (.slice none 0 0) [] := ⟨rfl, .inl ⟨rfl, rfl⟩⟩

theorem okF_rest {d a b r : Int} (hr : (b * b - d) % (4 * a) = r) (h : r ≠ 0) : okF d a b = false := by
  unfold okF
  rw [decide_eq_false_iff_not]
  rintro ⟨h1, _⟩
  exact h (by rw [← hr]; exact Int.emod_eq_zero_of_dvd h1)
theorem okF_less {d a b c : Int} (hc : (b * b - d) / (4 * a) = c) (h : c < a ∨ (c = a ∧ b < 0)) : okF d a b = false := by
  unfold okF
  rw [hc, decide_eq_false_iff_not]
  rintro ⟨_, _, _, h3, h4, _⟩
  omega
theorem formF_at {d a b c : Int} (ha : 1 ≤ a) (ha2 : a ≤ 1000) (hb : -a ≤ b) (hb2 : b ≤ a) (hd : d < 0) (hd2 : -200000 ≤ d) (hc : (b * b - d) / (4 * a) = c) (hr : (b * b - d) % (4 * a) = 0) (hca : a ≤ c) :
    formF a b c = if Int.gcd a (Int.gcd b c) ≠ 1 then (6, 0) else (0, 0) := by
  have h1 := abs_mul_le (x := b) (y := b) (p := 1000) (q := 1000) (by omega) (by omega)
  have h2 := Int.mul_ediv_add_emod (b * b - d) (4 * a)
  rw [hc, hr] at h2
  have hcb : c ≤ 1000000 := by
    have h3 : 4 * a * c ≥ 4 * c := by
      have := Int.mul_le_mul_of_nonneg_right (show 4 ≤ 4 * a by omega) (show 0 ≤ c by omega)
      omega
    omega
  unfold formF
  have hs : smallF a b c = (0, 0) := by
    unfold smallF
    rw [lookS, if_pos (small_of (by omega)), lookS, if_pos (small_of (by omega)), lookS, if_pos (small_of (by omega)), lookS]
  rw [hs, if_neg (by simp), if_neg (by omega)]
theorem okF_form {d a b c : Int} (ha : 1 ≤ a) (ha2 : a ≤ 1000) (hb : -a < b) (hb2 : b ≤ a) (hd : d < 0) (hd2 : -200000 ≤ d) (hc : (b * b - d) / (4 * a) = c) (hr : (b * b - d) % (4 * a) = 0) (hca : a ≤ c) (hcb : ¬ (c = a ∧ b < 0)) :
    (formF a b c).1 = (if okF d a b = true then 0 else 6) := by
  rw [formF_at ha ha2 (by omega) hb2 hd hd2 hc hr hca]
  unfold okF
  rw [hc]
  by_cases hg : Int.gcd a (Int.gcd b c) = 1
  · rw [if_neg (by omega), if_pos]
    rw [decide_eq_true_eq]
    exact ⟨Int.dvd_of_emod_eq_zero hr, hb, hb2, hca, hcb, hg⟩
  · rw [if_pos hg, if_neg]
    rw [decide_eq_true_eq]
    rintro ⟨_, _, _, _, _, h⟩
    exact hg h
/-- what Reduced says of such a form -/
theorem redB_at {a b c : Int} (ha : 1 ≤ a) (hb : -a ≤ b) (hb2 : b ≤ a) : redB a b c = decide (-a < b ∧ a ≤ c ∧ ¬ (c = a ∧ b < 0)) := by
  unfold redB
  rw [Bool.eq_iff_iff]
  simp only [Bool.and_eq_true, Bool.or_eq_true, decide_eq_true_eq]
  omega
theorem rowF_yes {d a b : Int} {j : Nat} (hb : b = -a + j) (h : okF d a b = true) : rowF d a (j + 1) = rowF d a j ++ [frm d a b] := by
  rw [rowF, ← hb, if_pos h]
theorem rowF_no {d a b : Int} {j : Nat} (hb : b = -a + j) (h : okF d a b = false) : rowF d a (j + 1) = rowF d a j := by
  rw [rowF, ← hb, if_neg (by rw [h]; simp), List.append_nil]
theorem allF_next {d a : Int} {n : Nat} (ha : a = (n : Int) + 1) : allF d (n + 1) = allF d n ++ rowF d a (2 * (n + 1) + 1) := by rw [allF, ha]
end Go.Proofs.Ytlchmaiflcnaoaa

namespace Go.Proofs.Ytlchmaiflcnaoaa
open Go.RowKit

theorem Forms.below {w w' : World} {base : Nat} {v : Value} {l : List (Int × Int × Int)} (h : Forms w base v l) (k : Below w.heap.size w w') : Forms w' base v l := by
  obtain ⟨h1, h2⟩ := h
  refine ⟨h1, ?_⟩
  rcases h2 with h2 | ⟨g, cap, cur, hv, hg, hh, r⟩
  · exact .inl h2
  · exact .inr ⟨g, cap, cur, hv, hg, (k.block g (heap_lt hh)).trans hh, r⟩

theorem Forms.set {w : World} {g : Nat} {v : Value} {l : List (Int × Int × Int)} (h : Forms w (g + 1) v l) (k : Nat) (u : Value) : Forms (w.setCell ⟨g, k, none⟩ u) (g + 1) v l := by
  obtain ⟨h1, h2⟩ := h
  refine ⟨h1, ?_⟩
  rcases h2 with h2 | ⟨b, cap, cur, hv, hg, hh, r⟩
  · exact .inl h2
  · exact .inr ⟨b, cap, cur, hv, hg, by rw [Below.heap_setCell _ _ _ _ (by show b ≠ g; omega)]; exact hh, r⟩
theorem Forms.own {w : World} {base : Nat} {v : Value} {l : List (Int × Int × Int)} (h : Forms w base v l) : ∀ k, v.ownBlock = some k → base ≤ k := by
  intro k hk
  obtain ⟨_, h2⟩ := h
  rcases h2 with ⟨rfl, _⟩ | ⟨g, cap, cur, rfl, hg, _⟩
  · cases hk
  · simp [Value.ownBlock] at hk; omega
theorem field_code (x y : Int) (w : World) : (Instr.field 26 (.agg #[.int .i64 x, .int .i64 y]) 0).run Try.prog w = .ok (.int .i64 x) w := by kernel_rfl
theorem three_new (W : World) (a b c : Value) (T : TypeId) : ∀ (j : Nat) (u : Value), [a, b, c][j]? = some u → (W.alloc (.cells #[a, b, c] T)).cell? ((⟨W.heap.size, 0, none⟩ : Addr).add j) = some u := by
  intro j u hu
  have hb : (W.alloc (.cells #[a, b, c] T)).heap[W.heap.size]? = some (.cells #[a, b, c] T (0, 0)) := by
    show (W.heap.push _)[W.heap.size]? = _
    simp
  generalize W.alloc (.cells #[a, b, c] T) = W2 at hb
  generalize W.heap.size = g at hb
  match j, hu with
  | 0, hu => simp at hu; subst hu; simp [World.cell?, Addr.add, hb]
  | 1, hu => simp at hu; subst hu; simp [World.cell?, Addr.add, hb]
  | 2, hu => simp at hu; subst hu; simp [World.cell?, Addr.add, hb]
theorem sq_nonneg (b : Int) : 0 ≤ b * b := by
  rcases Int.le_total 0 b with h | h
  · exact Int.mul_nonneg h h
  · exact Int.mul_nonneg_of_nonpos_of_nonpos h h

/-- Classes' word -/
def ClsF (d : Int) : Int × Int := if 0 ≤ d ∨ d < -200000 then (3, 0) else if 1 < d % 4 then (7, 0) else (0, 0)
def RetClasses (w : World) (d : Int) : Ending → World → Prop := fun e w' => ∃ v, e = .returned (.tuple #[v, fv (ClsF d)]) ∧ ((ClsF d).1 ≠ 0 → v = .slice none 0 0) ∧ ((ClsF d).1 = 0 → ∃ n : Nat, 3 * (n : Int) * n ≤ -d ∧ -d < 3 * ((n : Int) + 1) * ((n : Int) + 1) ∧ n ≤ 258 ∧ Forms w' (w.heap.size + 1) v (allF d n)) ∧ Below w.heap.size w w'

set_option maxRecDepth 100000 in
set_option maxHeartbeats 1600000 in
theorem classes_range (d : Int) (w : World) (h : 0 ≤ d ∨ d < -200000) : Calls Try.prog 45 #[.int .i64 d] w (RetClasses w d) := by
  have HE : Hid (ClsF d = (3, 0)) := by unfold Hid ClsF; rw [if_pos h]
  have C := fun W => hide (qfault_any 3 0 W)
  have hh : decide (0 ≤ d) = true ∨ (decide (0 ≤ d) = false ∧ decide (d < -200000) = true) := by
    simp only [decide_eq_true_eq, decide_eq_false_iff_not]; omega
  clear h
  rcases hh with h | ⟨h, h2⟩
  all_goals
    go_enter Try.func45, Try.ntmps45
    go_wp2_with fail
    refine (C _).out.mono ?_
    rintro e w1 ⟨rfl, hb⟩
    have F1 := (FC.fresh w).below hb
    obtain ⟨d0, d1, f0, f1⟩ := F1.cells
    obtain ⟨p0, p1⟩ := F1.put 3 0
    have HB2 := hide (below_fault (u := .int .i64 3) (v := .int .i64 0) (below_new hb) (Nat.le_refl w.heap.size))
    clear hb F1
    go_wp2_with fail
    exact bodyPost_ret (v := .tuple #[.slice none 0 0, fv (3, 0)]) (by simp [results, Try.results45, go_sem, fv, p0, p1]) rfl ⟨_, by rw [HE.out], fun _ => rfl, fun h => by rw [HE.out] at h; simp at h, HB2.out⟩

set_option maxRecDepth 100000 in
set_option maxHeartbeats 1600000 in
theorem classes_kind (d : Int) (w : World) (h : ¬ (0 ≤ d ∨ d < -200000)) (h2 : 1 < d % 4) : Calls Try.prog 45 #[.int .i64 d] w (RetClasses w d) := by
  have HE : Hid (ClsF d = (7, 0)) := by unfold Hid ClsF; rw [if_neg h, if_pos h2]
  have C := fun W => hide (qfault_any 7 0 W)
  have CM := fun W => hide (mod_any d 4 W (by omega) (by omega) (by omega) (by omega))
  have q1 : decide (0 ≤ d) = false := by simp; omega
  have q2 : decide (d < -200000) = false := by simp; omega
  obtain ⟨r, hr⟩ : ∃ r, d % 4 = r := ⟨_, rfl⟩
  rw [hr] at CM h2
  have q3 : decide (1 < r) = true := by simpa using h2
  clear h h2 hr
  go_enter Try.func45, Try.ntmps45
  go_wp2_with fail
  refine (CM _).out.mono ?_
  rintro e w1 ⟨rfl, rfl⟩
  go_wp2_with fail
  refine (C _).out.mono ?_
  rintro e w1 ⟨rfl, hb⟩
  have F1 := (FC.fresh w).below hb
  obtain ⟨d0, d1, f0, f1⟩ := F1.cells
  obtain ⟨p0, p1⟩ := F1.put 7 0
  have HB2 := hide (below_fault (u := .int .i64 7) (v := .int .i64 0) (below_new hb) (Nat.le_refl w.heap.size))
  clear hb F1
  go_wp2_with fail
  exact bodyPost_ret (v := .tuple #[.slice none 0 0, fv (7, 0)]) (by simp [results, Try.results45, go_sem, fv, p0, p1]) rfl ⟨_, by rw [HE.out], fun _ => rfl, fun h => by rw [HE.out] at h; simp at h, HB2.out⟩

theorem sq_mono {a b : Int} (h0 : 0 ≤ a) (h : a ≤ b) : a * a ≤ b * b := Int.mul_le_mul h h h0 (by omega)
theorem a_bound {a d : Int} (_ha : 0 ≤ a) (h : 3 * a * a ≤ -d) (hd : -200000 ≤ d) : a ≤ 258 := by
  rcases Int.lt_or_le 258 a with h1 | h1
  · have := sq_mono (a := 259) (b := a) (by omega) (by omega)
    rw [Int.mul_assoc] at h
    omega
  · omega

set_option maxRecDepth 100000 in
set_option maxHeartbeats 6400000 in
theorem classes_main (d : Int) (w : World) (h : ¬ (0 ≤ d ∨ d < -200000)) (h2 : ¬ 1 < d % 4) : Calls Try.prog 45 #[.int .i64 d] w (RetClasses w d) := by
  have HE : Hid (ClsF d = (0, 0)) := by unfold Hid ClsF; rw [if_neg h, if_neg h2]
  have CM := fun W => hide (mod_any d 4 W (by omega) (by omega) (by omega) (by omega))
  have hd1 : d < 0 := by omega
  have hd2 : -200000 ≤ d := by omega
  have q1 : decide (0 ≤ d) = false := by simp; omega
  have q2 : decide (d < -200000) = false := by simp; omega
  obtain ⟨r, hr⟩ : ∃ r, d % 4 = r := ⟨_, rfl⟩
  rw [hr] at CM h2
  have q3 : decide (1 < r) = false := by simpa using h2
  have B0 := hide (bel_obj w (.cells #[.int .i64 0, .int .i64 0] 26))
  have KF := field_code
  obtain ⟨i0, hi, hz0, hz1, hz2⟩ := info_parts finfo
  have HI := hide (And.intro hi (And.intro hz0 (And.intro hz1 hz2)))
  clear h h2 hr hi hz0 hz1 hz2
  go_enter Try.func45, Try.ntmps45
  go_wp2_with fail
  refine (CM _).out.mono ?_
  rintro e w1 ⟨rfl, rfl⟩
  go_wp2_with fail
  go_loopw [5, 6, 7, 8] (fun v x _ _ wr => ∃ (a : Int) (n : Nat), x = .int .i64 a ∧ 1 ≤ a ∧ a ≤ 259 ∧ Hid (a = n + 1) ∧ Hid (3 * (n : Int) * n ≤ -d) ∧ Hid (Forms wr (w.heap.size + 1) v (allF d n)) ∧ Hid (Below (w.heap.size + 1) (w.alloc (.cells #[.int .i64 0, .int .i64 0] 26)) wr)) (fun _ x _ _ _ => 300 - (intOf x).toNat)
  case atStart => exact ⟨1, 0, rfl, by omega, by omega, rfl, by unfold Hid; omega, Forms.nil0 _ _, Below.refl _ _⟩
  case round =>
    obtain ⟨a, n, rfl, ha1, ha2, HA, HN, HF, HB⟩ := hrel
    obtain ⟨wo, rfl⟩ : ∃ wo : World, wo = wr := ⟨_, rfl⟩
    have ha3 := abs_mul_le (x := 3 * a) (y := a) (p := 777) (q := 259) (by omega) (by omega)
    by_cases hle : 3 * a * a ≤ -d
    · have hle2 : decide (3 * a * a ≤ -d) = true := by simpa using hle
      have HLE := hide hle
      have R0 : Hid (Forms wo (w.heap.size + 1) u5 (allF d n ++ rowF d a 1)) := by unfold Hid; rw [rowF_one, List.append_nil]; exact HF.out
      clear hle
      go_wp2_with fail
      go_loopw [5, 7, 8] (fun v x _ wr => ∃ (b : Int) (j : Nat), x = .int .i64 b ∧ -a < b ∧ b ≤ a + 1 ∧ Hid (b = -a + (j + 1)) ∧ Hid (Forms wr (w.heap.size + 1) v (allF d n ++ rowF d a (j + 1))) ∧ Hid (Below (w.heap.size + 1) (w.alloc (.cells #[.int .i64 0, .int .i64 0] 26)) wr)) (fun _ x _ _ => (a + 1 - intOf x).toNat)
      case atStart => exact ⟨-a + 1, 0, rfl, by omega, by omega, by unfold Hid; omega, R0, HB⟩
      case round =>
        clear R0 HF HB
        obtain ⟨b, j, rfl, hb1, hb2, HJ, HF, HB⟩ := hrel
        by_cases hba : b ≤ a
        · have hb3 := abs_mul_le (x := b) (y := b) (p := 260) (q := 260) (by omega) (by omega)
          have hb4 := sq_nonneg b
          have hc0 : 0 ≤ (b * b - d) / (4 * a) := Int.ediv_nonneg (by omega) (by omega)
          have hc1 : (b * b - d) / (4 * a) ≤ b * b - d := Int.ediv_le_self _ (by omega)
          have hr0 := Int.emod_nonneg (b * b - d) (b := 4 * a) (by omega)
          have e1 : (b * b - d).tmod (4 * a) = (b * b - d) % (4 * a) := Int.tmod_eq_emod_of_nonneg (by omega)
          have e2 : (b * b - d).tdiv (4 * a) = (b * b - d) / (4 * a) := Int.tdiv_eq_ediv_of_nonneg (by omega)
          have hr1 := Int.emod_lt_of_pos (b * b - d) (b := 4 * a) (by omega)
          obtain ⟨c, hc⟩ : ∃ c, (b * b - d) / (4 * a) = c := ⟨_, rfl⟩
          obtain ⟨r, hr⟩ : ∃ r, (b * b - d) % (4 * a) = r := ⟨_, rfl⟩
          rw [hc] at hc0 hc1 e2
          rw [hr] at e1 hr0 hr1
          have HC := hide hc
          have HR := hide hr
          have HJ2 := HJ.out
          by_cases h0 : r = 0
          · subst h0
            have HX : Hid (Below (w.heap.size + 1) (w.alloc (.cells #[.int .i64 0, .int .i64 0] 26)) (wr.alloc (.cells #[.int .i64 a, .int .i64 b, .int .i64 c] 23))) := HB.out.alloc (by have := HB.out.size; simpa using this) _
            have HFX : Hid (Forms (wr.alloc (.cells #[.int .i64 a, .int .i64 b, .int .i64 c] 23)) (w.heap.size + 1) u5 (allF d n ++ rowF d a (j + 1))) := HF.out.below (bel_obj _ _)
            by_cases h1 : c < a
            · have HN2 : Hid (Forms (wr.alloc (.cells #[.int .i64 a, .int .i64 b, .int .i64 c] 23)) (w.heap.size + 1) u5 (allF d n ++ rowF d a (j + 1 + 1))) := by unfold Hid; rw [rowF_no (by omega) (okF_less hc (.inl h1))]; exact HFX.out
              have q5 : decide (c < a) = true := by simpa using h1
              clear HJ2 h1
              go_wp2_with fail
              exact ⟨⟨b + 1, j + 1, rfl, by omega, by omega, by have := HJ.out; unfold Hid; omega, HN2, HX⟩, by simp [intOf]; omega⟩
            · have q5 : decide (c < a) = false := by simpa using h1
              by_cases h2 : c = a ∧ b < 0
              · obtain ⟨h3a, h3⟩ := h2
                have HN2 : Hid (Forms (wr.alloc (.cells #[.int .i64 a, .int .i64 b, .int .i64 c] 23)) (w.heap.size + 1) u5 (allF d n ++ rowF d a (j + 1 + 1))) := by unfold Hid; rw [rowF_no (by omega) (okF_less hc (.inr ⟨h3a, h3⟩))]; exact HFX.out
                have q6 : decide (b < 0) = true := by simpa using h3
                have q7 : (c == a) = true := by simpa using h3a
                clear HJ2 h1 h3 h3a
                go_wp2_with fail
                exact ⟨⟨b + 1, j + 1, rfl, by omega, by omega, by have := HJ.out; unfold Hid; omega, HN2, HX⟩, by simp [intOf]; omega⟩
              · have hform := okF_form (d := d) (a := a) (b := b) (c := c) ha1 (by omega) hb1 hba hd1 hd2 hc hr (by omega) h2
                have CK := fun W => hide (check_any a b c W)
                unfold RetFault at CK
                obtain ⟨⟨x, y⟩, hxy⟩ : ∃ F, formF a b c = F := ⟨_, rfl⟩
                rw [hxy] at CK hform
                simp only [fv] at CK
                have q6 : (c == a) = false ∨ ((c == a) = true ∧ decide (b < 0) = false) := by
                  by_cases h3 : c = a
                  · exact .inr ⟨by simpa using h3, by simp; omega⟩
                  · exact .inl (by simpa using h3)
                have MC0 := hide (MC.made wr a b c)
                cases hok : okF d a b
                · rw [hok, if_neg (by simp)] at hform
                  simp only at hform
                  subst hform
                  have HRW : Hid (∀ W, Forms W (w.heap.size + 1) u5 (allF d n ++ rowF d a (j + 1)) → Forms W (w.heap.size + 1) u5 (allF d n ++ rowF d a (j + 1 + 1))) := by intro W hW; rw [rowF_no (by omega) hok]; exact hW
                  clear HJ2 h1 h2 hxy hok
                  rcases q6 with q6 | ⟨q6, q7⟩
                  all_goals
                    go_wp2_with fail
                    refine (CK _).out.mono ?_
                    rintro e w2 ⟨rfl, hb⟩
                    have HN2 := hide (HRW.out _ (HFX.out.below hb))
                    have HX2 := hide (HX.out.trans (hb.mono (by have := HX.out.size; simp at this ⊢; omega)))
                    clear hb
                    go_wp2_with fail
                    exact ⟨⟨b + 1, j + 1, rfl, by omega, by omega, by have := HJ.out; unfold Hid; omega, HN2, HX2⟩, by simp [intOf]; omega⟩
                · rw [hok, if_pos rfl] at hform
                  simp only at hform
                  subst hform
                  have HRW : Hid (allF d n ++ rowF d a (j + 1 + 1) = (allF d n ++ rowF d a (j + 1)) ++ [(a, b, c)]) := by unfold Hid; rw [rowF_yes (by omega) hok, List.append_assoc]; unfold frm; rw [hc]
                  have HLN : Hid ((allF d n ++ rowF d a (j + 1)).length ≤ 1000000) := by
                    unfold Hid
                    rw [List.length_append]
                    have h7 := allF_len d n
                    have h8 := rowF_len d a (j + 1)
                    have h9 : n ≤ 260 := by have := HA.out; omega
                    have h10 : n * (2 * n + 1) ≤ 260 * 521 := Nat.mul_le_mul h9 (by omega)
                    omega
                  clear HJ2 h1 h2 hxy hok
                  rcases q6 with q6 | ⟨q6, q7⟩
                  all_goals
                    go_wp2_with fail
                    refine (CK _).out.mono ?_
                    rintro e w2 ⟨rfl, hb⟩
                    have HF2 := hide (HFX.out.below hb)
                    have HX2 := hide (HX.out.trans (hb.mono (by have := HX.out.size; simp at this ⊢; omega)))
                    obtain ⟨m0, m1, m2⟩ := (MC0.out.below hb).cells
                    have hlt2 : wr.heap.size < w2.heap.size := (MC0.out.below hb).lt
                    clear hb
                    go_wp2_with (at_builtin; refine wpList_append_own _ rfl _ _ 75 rfl (w.heap.size + 1) 23 i0 (.agg #[.int .i64 0, .int .i64 0, .int .i64 0]) 3 24 Try.underlying75 HI.out.1 HI.out.2.1 HI.out.2.2.1 HI.out.2.2.2 rfl (by decide) u5 _ _ rfl (HF2.out.below (bel_obj w2 (.cells #[.int .i64 a, .int .i64 b, .int .i64 c] 23))) ⟨w2.heap.size, 0, none⟩ 1 1 [.int .i64 a, .int .i64 b, .int .i64 c] rfl rfl (three_new _ _ _ _ _) ?c2 ?c3 ?c4 ?c5 ?_)
                    case c2 => intro u hu; simp at hu; rcases hu with rfl | rfl | rfl <;> rfl
                    case c3 => have := HLN.out; simp only [maxLen]; omega
                    case c4 => have := HLN.out; omega
                    case c5 => have := HX2.out.size; simp at this ⊢; omega
                    intro v' w3 hown hg _
                    clear e1 e2 hc hr KF
                    have HF3 : Hid (Forms w3 (w.heap.size + 1) v' (allF d n ++ rowF d a (j + 1 + 1))) := by
                      unfold Hid Forms
                      rw [HRW.out, List.length_append, List.length_append, fcs_append, fcs_one]
                      exact hown
                    have HX3 : Hid (Below (w.heap.size + 1) (w.alloc (.cells #[.int .i64 0, .int .i64 0] 26)) w3) := (HX2.out.alloc (by have := HX2.out.size; simpa using this) _).grown hg (by have := HX2.out.size; simp at this ⊢; omega) (Forms.own HF2.out)
                    clear hown hg
                    go_wp2_with fail
                    exact ⟨⟨b + 1, j + 1, rfl, by omega, by omega, by have := HJ.out; unfold Hid; omega, HF3, HX3⟩, by simp [intOf]; omega⟩
          · have HN2 : Hid (Forms wr (w.heap.size + 1) u5 (allF d n ++ rowF d a (j + 1 + 1))) := by unfold Hid; rw [rowF_no (by omega) (okF_rest hr h0)]; exact HF.out
            have q5 : (r != 0) = true := by simpa using h0
            clear HJ2 h0
            go_wp2_with fail
            exact ⟨⟨b + 1, j + 1, rfl, by omega, by omega, by have := HJ.out; unfold Hid; omega, HN2, HB⟩, by simp [intOf]; omega⟩
        · obtain rfl : b = a + 1 := by omega
          have hae := a_bound (a := a) (d := d) (by omega) HLE.out hd2
          have HA2 : Hid (a + 1 = ((n + 1 : Nat) : Int) + 1) := by have := HA.out; unfold Hid; omega
          have HN2 : Hid (3 * ((n + 1 : Nat) : Int) * ((n + 1 : Nat) : Int) ≤ -d) := by
            have := HA.out
            have h1 := HLE.out
            unfold Hid
            rw [show ((n + 1 : Nat) : Int) = a from by omega]
            exact h1
          have HF2 : Hid (Forms wr (w.heap.size + 1) u5 (allF d (n + 1))) := by
            have h1 := HF.out
            have h2 := HJ.out
            have h3 := HA.out
            unfold Hid
            rw [allF_next h3, show 2 * (n + 1) + 1 = j + 1 from by omega]
            exact h1
          clear HF hba hb1 hb2 ha3
          go_wp2_with fail
          exact ⟨⟨a + 1, n + 1, rfl, by omega, by omega, HA2, HN2, HF2, HB⟩, by simp [intOf]; omega⟩
    · have q5 : decide (3 * a * a ≤ -d) = false := by simpa using hle
      have HL : Hid (-d < 3 * ((n : Int) + 1) * ((n : Int) + 1) ∧ n ≤ 258) := by
        have := HA.out
        unfold Hid
        rw [show (n : Int) + 1 = a from by omega]
        omega
      obtain ⟨d0, d1, f0, f1⟩ := ((FC.fresh w).below (by simpa using HB.out)).cells
      obtain ⟨p0, p1⟩ := ((FC.fresh w).below (w' := wo) (by simpa using HB.out)).put 0 0
      have HB2 := hide (below_fault (u := .int .i64 0) (v := .int .i64 0) (below_new (by simpa using HB.out)) (Nat.le_refl w.heap.size))
      have HF2 : Hid (Forms ((wo.setCell ⟨w.heap.size, 0, none⟩ (.int .i64 0)).setCell ⟨w.heap.size, 1, none⟩ (.int .i64 0)) (w.heap.size + 1) u5 (allF d n)) := (HF.out.set _ _).set _ _
      clear hle
      go_wp2_with fail
      exact bodyPost_ret (v := .tuple #[u5, fv (0, 0)]) (by simp [results, Try.results45, go_sem, fv, p0, p1]) rfl ⟨u5, by rw [HE.out], fun h => by rw [HE.out] at h; simp at h, fun _ => ⟨n, HN.out, HL.out.1, HL.out.2, HF2.out⟩, HB2.out⟩
theorem classes_any (d : Int) (w : World) : Calls Try.prog 45 #[.int .i64 d] w (RetClasses w d) := by
  by_cases h : 0 ≤ d ∨ d < -200000
  · exact classes_range d w h
  · by_cases h2 : 1 < d % 4
    · exact classes_kind d w h h2
    · exact classes_main d w h h2
end Go.Proofs.Ytlchmaiflcnaoaa

namespace Go.Proofs.Ytlchmaiflcnaoaa
open Go.RowKit

theorem floor_law (a b : Int) (hb : 0 < b) : (a - a % b).tdiv b = a / b := by
  rw [Int.emod_def, show a - (a - b * (a / b)) = b * (a / b) from by omega]
  exact Int.mul_tdiv_cancel_left _ (by omega)

set_option maxRecDepth 100000 in
set_option maxHeartbeats 400000 in
theorem qfloor_any (a b : Int) (w : World) (hb : 0 < b) (hb2 : b ≤ 1000000000000000000) (ha : -1000000000000000000 ≤ a) (ha2 : a ≤ 1000000000000000000) :
    Calls Try.prog 74 #[.int .i64 a, .int .i64 b] w fun e w' => e = .returned (.int .i64 (a / b)) ∧ w = w' := by
  have C := fun W => hide (mod_any a b W hb (by omega) (by omega) (by omega))
  have r0 := Int.emod_nonneg a (b := b) (by omega)
  have r1 := Int.emod_lt_of_pos a hb
  have hf := floor_law a b hb
  have e3 := Int.mul_ediv_add_emod a b
  have e1 : IntKind.i64.wrap (a - a % b) = a - a % b := by rw [IntKind.wrap_i64]; omega
  have q0 : (a / b).natAbs ≤ a.natAbs := Int.natAbs_ediv_le_natAbs a b
  have e2 : IntKind.i64.wrap (a / b) = a / b := by rw [IntKind.wrap_i64]; omega
  have hb0 : ¬ b = 0 := by omega
  obtain ⟨q, hq⟩ : ∃ q, a / b = q := ⟨_, rfl⟩
  obtain ⟨r, hr⟩ : ∃ r, a % b = r := ⟨_, rfl⟩
  rw [hq] at hf e2 q0 ⊢
  rw [hr] at C hf e1 r0 r1
  clear e3 hq hr
  go_enter Try.func74, Try.ntmps74
  go_wp2_with fail
  refine (C _).out.mono ?_
  rintro e w1 ⟨rfl, rfl⟩
  go_wp2_with fail
  go_ret
  exact ⟨rfl, rfl⟩

set_option maxRecDepth 100000 in
set_option maxHeartbeats 3200000 in
theorem reduce_213 (w : World) : Calls Try.prog 38 #[.agg #[.int .i64 2, .int .i64 1, .int .i64 3]] w fun e w' => e = .returned (.tuple #[.agg #[.int .i64 2, .int .i64 1, .int .i64 3], .agg #[.int .i64 1, .int .i64 0, .int .i64 0, .int .i64 1]]) ∧ Below w.heap.size w w' := by
  have C := fun W => hide (qfloor_any 1 4 W (by omega) (by omega) (by omega) (by omega))
  rw [show (1 : Int) / 4 = 0 from by decide] at C
  go_enter Try.func38, Try.ntmps38
  go_wp2_with fail
  refine wp_loop_rounds 1 ?_
  rw [rounds_succ]
  go_wp2_with fail
  refine (C _).out.mono ?_
  rintro e w1 ⟨rfl, rfl⟩
  go_wp2_with fail
  go_region
  all_goals
    go_wp2_with fail
    refine bodyPost_ret (v := .tuple #[.agg #[.int .i64 2, .int .i64 1, .int .i64 3], .agg #[.int .i64 1, .int .i64 0, .int .i64 0, .int .i64 1]]) (by simp [results, Try.results38, go_sem]) rfl ⟨rfl, ?_⟩
    go_grown
end Go.Proofs.Ytlchmaiflcnaoaa

namespace Go.Proofs.Ytlchmaiflcnaoaa
open Go.RowKit

/-- extended's word -/
def RetExt (w : World) (A B : Int) : Ending → World → Prop := fun e w' => ∃ u : Int, e = .returned (.tuple #[.int .i64 (Int.gcd A B), .int .i64 u]) ∧ B ∣ (Int.gcd A B : Int) - u * A ∧ u.natAbs ≤ max 1 B.natAbs ∧ (B = 0 → u = if A < 0 then -1 else 1) ∧ w' = w

set_option maxRecDepth 100000 in
set_option maxHeartbeats 800000 in
theorem extended_any (A B : Int) (w : World) (hA : A.natAbs ≤ 1000000000000000000) (hB : B.natAbs ≤ 1000000000000000000) :
    Calls Try.prog 148 #[.int .i64 A, .int .i64 B] w (RetExt w A B) := by
  have E0 := hide (Ar.Ext.start A B)
  have HA := hide hA
  have HB := hide hB
  clear hA hB
  go_enter Try.func148, Try.ntmps148
  go_wp2
  go_loopw [0, 1, 6, 7] (fun x y s t wr => ∃ p q u v : Int, x = .int .i64 p ∧ y = .int .i64 q ∧ s = .int .i64 u ∧ t = .int .i64 v ∧ Hid (Ar.Ext A B p q u v ∧ (B = 0 → p = A ∧ q = 0 ∧ u = 1)) ∧ wr = w) (fun _ y _ _ _ => (intOf y).natAbs)
  case atStart => exact ⟨A, B, 1, 0, rfl, rfl, rfl, rfl, ⟨E0.out, fun h => ⟨rfl, h, rfl⟩⟩, rfl⟩
  case round =>
    obtain ⟨p, q, u, v, rfl, rfl, rfl, rfl, HE, rfl⟩ := hrel
    have h1 := HA.out
    have h2 := HB.out
    by_cases hq : q = 0
    · subst hq
      obtain ⟨hE, h0⟩ := HE.out
      have hf := hE.fin
      have hu := hE.ule
      by_cases hp : p < 0
      · have e1 : IntKind.i64.wrap (-p) = -p := by have := hE.ale; rw [IntKind.wrap_i64]; omega
        have e2 : IntKind.i64.wrap (-u) = -u := by rw [IntKind.wrap_i64]; omega
        have HR : Hid (RetExt wr A B (.returned (.tuple #[.int .i64 (-p), .int .i64 (-u)])) wr) := by
          refine ⟨-u, by rw [show -p = (Int.gcd A B : Int) from by omega], ?_, by omega, fun h => ?_, rfl⟩
          · have e : (Int.gcd A B : Int) - -u * A = -(p - u * A) := by rw [← hf.1]; rw [show (p.natAbs : Int) = -p from by omega]; grind
            rw [e]; exact Int.dvd_neg.2 hf.2
          · obtain ⟨a1, _, a3⟩ := h0 h
            rw [if_pos (by omega), a3]
        clear h1 h2 hE h0 hf hu HA HB HE
        go_wp2
        go_ret2
        exact HR.out
      · have HR : Hid (RetExt wr A B (.returned (.tuple #[.int .i64 p, .int .i64 u])) wr) := by
          refine ⟨u, by rw [show p = (Int.gcd A B : Int) from by omega], ?_, by omega, fun h => ?_, rfl⟩
          · have e : (Int.gcd A B : Int) - u * A = p - u * A := by rw [← hf.1]; omega
            rw [e]; exact hf.2
          · obtain ⟨a1, _, a3⟩ := h0 h
            rw [if_neg (by omega), a3]
        clear h1 h2 hE h0 hf hu HA HB HE
        go_wp2
        go_ret2
        exact HR.out
    · have hq' : (q != 0) = true := by simpa using hq
      obtain ⟨hE, h0⟩ := HE.out
      obtain ⟨hS, hlt, hb1, hb2⟩ := hE.step hq
      have h0' : B = 0 → False := fun h => hq (h0 h).2.1
      have HS := hide hS
      have HL := hide hlt
      have HB0 := hide h0'
      have e1 : IntKind.i64.wrap (p.tdiv q) = p.tdiv q := by
        have : (p.tdiv q).natAbs = p.natAbs / q.natAbs := Int.natAbs_tdiv p q
        have h3 := Nat.div_le_self p.natAbs q.natAbs
        generalize p.natAbs / q.natAbs = z at this h3
        have := hE.ale
        rw [IntKind.wrap_i64]; omega
      have e2 : IntKind.i64.wrap (p.tdiv q * q) = p.tdiv q * q := by have := hE.ale; rw [IntKind.wrap_i64]; omega
      have e3 : IntKind.i64.wrap (p - p.tdiv q * q) = p - p.tdiv q * q := by have := hE.ble; rw [IntKind.wrap_i64]; omega
      have e4 : IntKind.i64.wrap (p.tdiv q * v) = p.tdiv q * v := by rw [IntKind.wrap_i64]; omega
      have e5 : IntKind.i64.wrap (u - p.tdiv q * v) = u - p.tdiv q * v := by have := hS.vle; rw [IntKind.wrap_i64]; omega
      clear h1 h2 hE h0 hS hlt hb1 hb2 h0' HE
      go_wp2
      go_roundw
      case rel => exact ⟨q, p - p.tdiv q * q, v, u - p.tdiv q * v, rfl, rfl, rfl, rfl, ⟨HS.out, fun h => (HB0.out h).elim⟩, trivial⟩
      case measure => simpa [intOf] using HL.out
end Go.Proofs.Ytlchmaiflcnaoaa

namespace Go.Proofs.Ytlchmaiflcnaoaa
open Go.RowKit

theorem sub64_run (x y : Nat) (w : World) :
    (callFunc 149 #[.int .u64 x, .int .u64 y, .int .u64 0]).run Try.prog w =
      .ok (.value (.tuple #[.int .u64 (((x + 18446744073709551616 - y) % 18446744073709551616 : Nat) : Int), .int .u64 ((if x < y then 1 else 0 : Nat) : Int)])) w := by
  rw [run_callFunc_extern Try.func149 (by kernel_rfl) (by kernel_rfl) (by kernel_rfl) (e := sub64Entry) (by kernel_rfl), show (0 : Int) = ((0 : Nat) : Int) from rfl, run_sub64 x y 0 (by omega)]
  rfl
theorem add64_run (x y : Nat) (w : World) :
    (callFunc 150 #[.int .u64 x, .int .u64 y, .int .u64 0]).run Try.prog w =
      .ok (.value (.tuple #[.int .u64 (((x + y) % 18446744073709551616 : Nat) : Int), .int .u64 (((x + y) / 18446744073709551616 : Nat) : Int)])) w := by
  rw [run_callFunc_extern Try.func150 (by kernel_rfl) (by kernel_rfl) (by kernel_rfl) (e := add64Entry) (by kernel_rfl), run_add64 x y 0 (by omega) (by omega) (by omega) (by omega)]
  simp only [Result.andThen]
  congr 5 <;> omega
end Go.Proofs.Ytlchmaiflcnaoaa

namespace Go.Proofs.Ytlchmaiflcnaoaa
/-! numbers u + v sqrt D, as pairs -/
abbrev Z2 := Int × Int
def mulZ (D : Int) (x y : Z2) : Z2 := (x.1 * y.1 + D * x.2 * y.2, x.1 * y.2 + x.2 * y.1)
def addZ (x y : Z2) : Z2 := (x.1 + y.1, x.2 + y.2)
theorem mulZ_comm (D : Int) (x y : Z2) : mulZ D x y = mulZ D y x := by unfold mulZ; ext <;> grind
theorem mulZ_assoc (D : Int) (x y z : Z2) : mulZ D (mulZ D x y) z = mulZ D x (mulZ D y z) := by unfold mulZ; ext <;> grind
theorem mulZ_add (D : Int) (x y z : Z2) : mulZ D x (addZ y z) = addZ (mulZ D x y) (mulZ D x z) := by unfold mulZ addZ; ext <;> grind
theorem add_mulZ (D : Int) (x y z : Z2) : mulZ D (addZ x y) z = addZ (mulZ D x z) (mulZ D y z) := by unfold mulZ addZ; ext <;> grind
def nrm (D : Int) (x : Z2) : Int := x.1 * x.1 - D * x.2 * x.2
theorem nrm_mul (D : Int) (x y : Z2) : nrm D (mulZ D x y) = nrm D x * nrm D y := by unfold nrm mulZ; grind
theorem sq_nn (x : Int) : 0 ≤ x * x := by
  rcases Int.lt_or_le x 0 with h | h
  · have := Int.mul_nonneg_of_nonpos_of_nonpos (Int.le_of_lt h) (Int.le_of_lt h); exact this
  · exact Int.mul_nonneg h h
theorem sq_pos0 {x : Int} (h : x ≠ 0) : 0 < x * x := by
  have h1 := sq_nn x
  have h2 : x * x ≠ 0 := Int.mul_ne_zero h h
  omega
theorem nrm_nn {D : Int} (hD : D < 0) (x : Z2) : 0 ≤ nrm D x := by
  unfold nrm
  have h1 := sq_nn x.1
  have h2 := Int.mul_nonneg (show 0 ≤ -D by omega) (sq_nn x.2)
  have h3 : -D * (x.2 * x.2) = -(D * x.2 * x.2) := by grind
  omega
theorem nrm_zero {D : Int} (hD : D < 0) {x : Z2} (h : nrm D x = 0) : x = (0, 0) := by
  unfold nrm at h
  have h1 := sq_nn x.1
  have h2 := Int.mul_nonneg (show 0 ≤ -D by omega) (sq_nn x.2)
  have h3 : -D * (x.2 * x.2) = -(D * x.2 * x.2) := by grind
  have h4 : x.1 = 0 := by
    apply Classical.byContradiction
    intro hx
    have := sq_pos0 hx
    omega
  have h5 : x.2 = 0 := by
    apply Classical.byContradiction
    intro hx
    have := Int.mul_pos (show 0 < -D by omega) (sq_pos0 hx)
    omega
  exact Prod.ext h4 h5
theorem nrm_pos {D : Int} (hD : D < 0) {x : Z2} (h : x ≠ (0, 0)) : 0 < nrm D x := by
  have h1 := nrm_nn hD x
  have h2 : nrm D x ≠ 0 := fun e => h (nrm_zero hD e)
  omega
theorem mulZ_ne {D : Int} (hD : D < 0) {x y : Z2} (hx : x ≠ (0, 0)) (hy : y ≠ (0, 0)) : mulZ D x y ≠ (0, 0) := by
  intro h
  have h1 := nrm_mul D x y
  rw [h] at h1
  have h2 := Int.mul_pos (nrm_pos hD hx) (nrm_pos hD hy)
  unfold nrm at h1 h2
  simp at h1
  omega

/-- the products of two lattices and their sums -/
inductive Pr (D : Int) (A B : Z2 → Prop) : Z2 → Prop
  | mul {x y : Z2} : A x → B y → Pr D A B (mulZ D x y)
  | add {x y : Z2} : Pr D A B x → Pr D A B y → Pr D A B (addZ x y)
theorem Pr.comm {D : Int} {A B : Z2 → Prop} {z : Z2} (h : Pr D A B z) : Pr D B A z := by
  induction h with
  | mul ha hb => rw [mulZ_comm]; exact .mul hb ha
  | add _ _ h1 h2 => exact .add h1 h2
theorem Pr.push {D : Int} {A B C : Z2 → Prop} {z y : Z2} (h : Pr D A B z) (hc : C y) : Pr D A (Pr D B C) (mulZ D z y) := by
  induction h with
  | mul ha hb => rw [mulZ_assoc]; exact .mul ha (.mul hb hc)
  | add _ _ h1 h2 => rw [add_mulZ]; exact .add h1 h2
theorem Pr.assoc {D : Int} {A B C : Z2 → Prop} {z : Z2} (h : Pr D (Pr D A B) C z) : Pr D A (Pr D B C) z := by
  induction h with
  | mul ha hb => exact ha.push hb
  | add _ _ h1 h2 => exact .add h1 h2
theorem Pr.mono {D : Int} {A A' B B' : Z2 → Prop} (ha : ∀ z, A z → A' z) (hb : ∀ z, B z → B' z) {z : Z2} (h : Pr D A B z) : Pr D A' B' z := by
  induction h with
  | mul h1 h2 => exact .mul (ha _ h1) (hb _ h2)
  | add _ _ h1 h2 => exact .add h1 h2

/-- two lattices that are multiples of one another -/
def Sim (D : Int) (A B : Z2 → Prop) : Prop := ∃ α β : Z2, α ≠ (0, 0) ∧ β ≠ (0, 0) ∧ (∀ z, A z → ∃ w, B w ∧ mulZ D α z = mulZ D β w) ∧ (∀ w, B w → ∃ z, A z ∧ mulZ D α z = mulZ D β w)
theorem Sim.of_eq {D : Int} {A B : Z2 → Prop} (h1 : ∀ z, A z → B z) (h2 : ∀ z, B z → A z) : Sim D A B :=
  ⟨(1, 0), (1, 0), by decide, by decide, fun z hz => ⟨z, h1 z hz, rfl⟩, fun z hz => ⟨z, h2 z hz, rfl⟩⟩
theorem Sim.refl (D : Int) (A : Z2 → Prop) : Sim D A A := Sim.of_eq (fun _ h => h) (fun _ h => h)
theorem Sim.symm {D : Int} {A B : Z2 → Prop} (h : Sim D A B) : Sim D B A := by
  obtain ⟨α, β, h1, h2, h3, h4⟩ := h
  refine ⟨β, α, h2, h1, fun z hz => ?_, fun z hz => ?_⟩
  · obtain ⟨w, hw, e⟩ := h4 z hz; exact ⟨w, hw, e.symm⟩
  · obtain ⟨w, hw, e⟩ := h3 z hz; exact ⟨w, hw, e.symm⟩
theorem Sim.trans {D : Int} (hD : D < 0) {A B C : Z2 → Prop} (h : Sim D A B) (k : Sim D B C) : Sim D A C := by
  obtain ⟨α, β, h1, h2, h3, h4⟩ := h
  obtain ⟨γ, δ, k1, k2, k3, k4⟩ := k
  refine ⟨mulZ D γ α, mulZ D β δ, mulZ_ne hD k1 h1, mulZ_ne hD h2 k2, fun z hz => ?_, fun z hz => ?_⟩
  · obtain ⟨w, hw, e⟩ := h3 z hz
    obtain ⟨v, hv, f⟩ := k3 w hw
    refine ⟨v, hv, ?_⟩
    rw [mulZ_assoc, e, mulZ_assoc, ← f, ← mulZ_assoc, ← mulZ_assoc, mulZ_comm D γ β]
  · obtain ⟨w, hw, f⟩ := k4 z hz
    obtain ⟨v, hv, e⟩ := h4 w hw
    refine ⟨v, hv, ?_⟩
    rw [mulZ_assoc, e, mulZ_assoc, ← f, ← mulZ_assoc, ← mulZ_assoc, mulZ_comm D γ β]
theorem Sim.prod {D : Int} {A A' : Z2 → Prop} (B : Z2 → Prop) (h : Sim D A A') : Sim D (Pr D A B) (Pr D A' B) := by
  obtain ⟨α, β, h1, h2, h3, h4⟩ := h
  refine ⟨α, β, h1, h2, fun z hz => ?_, fun z hz => ?_⟩
  · induction hz with
    | @mul x y ha hb =>
      obtain ⟨w, hw, e⟩ := h3 x ha
      exact ⟨mulZ D w y, .mul hw hb, by rw [← mulZ_assoc, e, mulZ_assoc]⟩
    | add _ _ i1 i2 =>
      obtain ⟨w1, hw1, e1⟩ := i1
      obtain ⟨w2, hw2, e2⟩ := i2
      exact ⟨addZ w1 w2, .add hw1 hw2, by rw [mulZ_add, mulZ_add, e1, e2]⟩
  · induction hz with
    | @mul x y ha hb =>
      obtain ⟨w, hw, e⟩ := h4 x ha
      exact ⟨mulZ D w y, .mul hw hb, by rw [← mulZ_assoc, e, mulZ_assoc]⟩
    | add _ _ i1 i2 =>
      obtain ⟨w1, hw1, e1⟩ := i1
      obtain ⟨w2, hw2, e2⟩ := i2
      exact ⟨addZ w1 w2, .add hw1 hw2, by rw [mulZ_add, mulZ_add, e1, e2]⟩
theorem Sim.comm (D : Int) (A B : Z2 → Prop) : Sim D (Pr D A B) (Pr D B A) := Sim.of_eq (fun _ h => h.comm) (fun _ h => h.comm)
theorem Sim.assoc (D : Int) (A B C : Z2 → Prop) : Sim D (Pr D (Pr D A B) C) (Pr D A (Pr D B C)) :=
  Sim.of_eq (fun _ h => h.assoc) (fun z h => by
    have h1 : Pr D (Pr D C B) A z := (h.comm.mono (fun _ k => k.comm) (fun _ k => k))
    exact (h1.assoc.comm).mono (fun _ k => k.comm) (fun _ k => k))
theorem Sim.prod2 {D : Int} (hD : D < 0) {A A' B B' : Z2 → Prop} (h : Sim D A A') (k : Sim D B B') : Sim D (Pr D A B) (Pr D A' B') :=
  (h.prod B).trans hD (((Sim.comm D A' B).trans hD (k.prod A')).trans hD (Sim.comm D B' A'))

/-- the lattice of a form: 2 a x + (b + sqrt D) y -/
def Lf (a b : Int) : Z2 → Prop := fun z => ∃ x y : Int, z = (2 * a * x + b * y, y)

/-- forms that a turn carries into one another have lattices that are multiples of one another -/
theorem sim_turn {a b c A B p q r s : Int} (hdet : p * s - q * r = 1) (hA : A = a * p * p + b * p * r + c * r * r) (hB : B = 2 * a * p * q + b * (p * s + q * r) + 2 * c * r * s) (ha : a ≠ 0) (hA0 : A ≠ 0) : Sim (b * b - 4 * a * c) (Lf a b) (Lf A B) := by
  have hth : (2 * a * p + b * r, -r) ≠ ((0, 0) : Z2) := by
    intro h
    injection h with h1 h2
    have : r = 0 := by omega
    subst this
    apply hA0
    have h3 : 2 * a * p = 0 := by simpa using h1
    have h4 : p = 0 := by
      rcases Int.mul_eq_zero.1 h3 with h5 | h5
      · omega
      · exact h5
    rw [hA, h4]; simp
  have hb0 : (2 * a, 0) ≠ ((0, 0) : Z2) := by
    intro h
    injection h with h1 _
    omega
  refine ⟨(2 * a * p + b * r, -r), (2 * a, 0), hth, hb0, ?_, ?_⟩
  · rintro z ⟨x, y, rfl⟩
    refine ⟨(2 * A * (s * x - q * y) + B * (p * y - r * x), p * y - r * x), ⟨_, _, rfl⟩, ?_⟩
    unfold mulZ
    ext <;> simp only [] <;> subst hA hB <;> grind
  · rintro z ⟨x, y, rfl⟩
    refine ⟨(2 * a * (p * x + q * y) + b * (r * x + s * y), r * x + s * y), ⟨_, _, rfl⟩, ?_⟩
    unfold mulZ
    ext <;> simp only [] <;> subst hA hB <;> grind

theorem Lf.smul {a b : Int} {z : Z2} (h : Lf a b z) (k : Int) : Lf a b (k * z.1, k * z.2) := by
  obtain ⟨x, y, rfl⟩ := h
  exact ⟨k * x, k * y, by ext <;> simp only [] <;> grind⟩
/-- what the composition's numbers satisfy -/
structure Comp (a1 b1 c1 a2 b2 c2 D d1 v1 v2 r s n t u z1 x2 y1 y2 dd : Int) : Prop where
  e1 : a1 = d1 * v1
  e2 : a2 = d1 * v2
  e3 : b1 = d1 * s - n
  e4 : b2 = d1 * s + n
  e5 : D = b2 * b2 - 4 * a2 * c2
  e6 : D = b1 * b1 - 4 * a1 * c1
  e7 : v1 * t = n + v2 * r
  e8 : v1 * u = c2 + r * s
  e9 : x2 * s + y2 * dd = 1
  e10 : y1 * v2 + z1 * v1 = dd
theorem Comp.nsp {a1 b1 c1 a2 b2 c2 D d1 v1 v2 r s n t u z1 x2 y1 y2 dd : Int} (h : Comp a1 b1 c1 a2 b2 c2 D d1 v1 v2 r s n t u z1 x2 y1 y2 dd) (hd : d1 ≠ 0) : n * s = v2 * c2 - v1 * c1 := by
  obtain ⟨e1, e2, e3, e4, e5, e6, e7, e8, e9, e10⟩ := h
  have h1 : d1 * (n * s) = d1 * (v2 * c2 - v1 * c1) := by
    have : b2 * b2 - 4 * a2 * c2 = b1 * b1 - 4 * a1 * c1 := by rw [← e5, e6]
    subst e1 e2 e3 e4
    have h2 : 4 * (d1 * (n * s)) = 4 * (d1 * (v2 * c2 - v1 * c1)) := by grind
    omega
  exact Int.eq_of_mul_eq_mul_left hd h1
theorem e11_aux {n s v1 v2 c1 c2 t u r : Int} (h0 : n * s = v2 * c2 - v1 * c1) (e7 : v1 * t = n + v2 * r) (e8 : v1 * u = c2 + r * s) : v1 * (s * t) = v1 * (v2 * u - c1) := by
  have h1 : v1 * (s * t) = s * (v1 * t) := by grind
  have h2 : v1 * (v2 * u - c1) = v2 * (v1 * u) - v1 * c1 := by grind
  rw [h1, h2, e7, e8]
  grind
theorem Comp.e11 {a1 b1 c1 a2 b2 c2 D d1 v1 v2 r s n t u z1 x2 y1 y2 dd : Int} (h : Comp a1 b1 c1 a2 b2 c2 D d1 v1 v2 r s n t u z1 x2 y1 y2 dd) (hd : d1 ≠ 0) (hv : v1 ≠ 0) : s * t = v2 * u - c1 := by
  exact Int.eq_of_mul_eq_mul_left hv (e11_aux (h.nsp hd) h.e7 h.e8)
theorem comp_sim {a1 b1 c1 a2 b2 c2 D d1 v1 v2 r s n t u z1 x2 y1 y2 dd k1 k2 k3 k4 : Int} (h : Comp a1 b1 c1 a2 b2 c2 D d1 v1 v2 r s n t u z1 x2 y1 y2 dd) (hd : d1 ≠ 0) (hv : v1 ≠ 0) (hk : k1 * d1 + k2 * n + k3 * c1 + k4 * c2 = 1) :
    Sim D (Pr D (Lf a1 b1) (Lf a2 b2)) (Lf (v1 * v2) (b2 + 2 * v2 * r)) := by
  have e11 := h.e11 hd hv
  obtain ⟨e1, e2, e3, e4, e5, _, e7, e8, e9, e10⟩ := h
  have hb0 : (2 * d1, 0) ≠ ((0, 0) : Z2) := by
    intro h
    injection h with h1 _
    omega
  refine ⟨(1, 0), (2 * d1, 0), by decide, hb0, ?_, ?_⟩
  · intro z hz
    induction hz with
    | @mul x y hx hy =>
      obtain ⟨x, x', rfl⟩ := hx
      obtain ⟨y, y', rfl⟩ := hy
      refine ⟨_, ⟨d1 * x * y - r * (x * y') - t * (x' * y) - u * (x' * y'), v1 * (x * y') + v2 * (x' * y) + s * (x' * y'), rfl⟩, ?_⟩
      unfold mulZ
      ext
      · simp only []
        subst e5 e1 e2 e3 e4
        grind
      · simp only []
        subst e5 e1 e2 e3 e4
        grind
    | add _ _ i1 i2 =>
      obtain ⟨w1, ⟨p1, p2, rfl⟩, f1⟩ := i1
      obtain ⟨w2, ⟨q1, q2, rfl⟩, f2⟩ := i2
      refine ⟨_, ⟨p1 + q1, p2 + q2, rfl⟩, ?_⟩
      rw [mulZ_add, f1, f2]
      unfold mulZ addZ
      ext <;> simp only [] <;> grind
  · rintro w ⟨X, Y, rfl⟩
    have g1 : ∀ m : Int, Pr D (Lf a1 b1) (Lf a2 b2) (mulZ D (2 * a1 * m, 0) (2 * a2, 0)) := fun m => .mul ⟨m, 0, by simp⟩ ⟨1, 0, by simp⟩
    have g2 : ∀ m : Int, Pr D (Lf a1 b1) (Lf a2 b2) (mulZ D (2 * a1 * m, 0) (b2, 1)) := fun m => .mul ⟨m, 0, by simp⟩ ⟨0, 1, by simp⟩
    have g3 : ∀ m : Int, Pr D (Lf a1 b1) (Lf a2 b2) (mulZ D (b1, 1) (2 * a2 * m, 0)) := fun m => .mul ⟨0, 1, by simp⟩ ⟨m, 0, by simp⟩
    have g4 : ∀ m : Int, Pr D (Lf a1 b1) (Lf a2 b2) (mulZ D (m * b1, m) (b2, 1)) := fun m => .mul ⟨0, m, by ext <;> simp only [] <;> grind⟩ ⟨0, 1, by simp⟩
    obtain ⟨Z, hZ⟩ : ∃ Z, X + Y * y2 * y1 * t + Y * y2 * z1 * r + Y * x2 * u = Z := ⟨_, rfl⟩
    obtain ⟨m2, h2⟩ : ∃ m, (k2 * v2 + k4 * s) * Z + Y * y2 * z1 = m := ⟨_, rfl⟩
    obtain ⟨m3, h3⟩ : ∃ m, (k3 * s - k2 * v1) * Z + Y * y2 * y1 = m := ⟨_, rfl⟩
    obtain ⟨m4, h4⟩ : ∃ m, -(k3 * v2 + k4 * v1) * Z + Y * x2 = m := ⟨_, rfl⟩
    have hB1 : v1 * m2 + v2 * m3 + s * m4 = Y := by
      have e : v1 * m2 + v2 * m3 + s * m4 = Y * (x2 * s + y2 * (y1 * v2 + z1 * v1)) := by rw [← h2, ← h3, ← h4]; grind
      rw [e, e10, e9]; omega
    have hB2 : d1 * (k1 * Z) - r * m2 - t * m3 - u * m4 = X := by
      have e : d1 * (k1 * Z) - r * m2 - t * m3 - u * m4 = Z * (k1 * d1 + k2 * (v1 * t - v2 * r) + k3 * (v2 * u - s * t) + k4 * (v1 * u - r * s)) - (Y * y2 * y1 * t + Y * y2 * z1 * r + Y * x2 * u) := by rw [← h2, ← h3, ← h4]; grind
      have e' : k1 * d1 + k2 * (v1 * t - v2 * r) + k3 * (v2 * u - s * t) + k4 * (v1 * u - r * s) = 1 := by
        rw [e7, e8, e11, ← hk]; grind
      rw [e, e']; omega
    refine ⟨_, .add (.add (g1 (k1 * Z)) (g2 m2)) (.add (g3 m3) (g4 m4)), ?_⟩
    have q2 : 2 * a1 * b2 = v1 * (2 * d1 * (b2 + 2 * v2 * r)) - r * (4 * d1 * v1 * v2) := by rw [e1]; grind
    have q3 : 2 * a2 * b1 = v2 * (2 * d1 * (b2 + 2 * v2 * r)) - t * (4 * d1 * v1 * v2) := by
      have e : t * (4 * d1 * v1 * v2) = 4 * d1 * v2 * (v1 * t) := by grind
      rw [e, e7, e2, e3, e4]; grind
    have q4 : b1 * b2 + D = s * (2 * d1 * (b2 + 2 * v2 * r)) - u * (4 * d1 * v1 * v2) := by
      have e : u * (4 * d1 * v1 * v2) = 4 * d1 * v2 * (v1 * u) := by grind
      rw [e, e8, e5, e2, e3, e4]; grind
    have q5 : 2 * a1 = 2 * d1 * v1 := by rw [e1]; grind
    have q6 : 2 * a2 = 2 * d1 * v2 := by rw [e2]; grind
    have q7 : b1 + b2 = 2 * d1 * s := by rw [e3, e4]; grind
    have q8 : (2 * a1) * (2 * a2) = d1 * (4 * d1 * v1 * v2) := by rw [e1, e2]; grind
    clear g1 g2 g3 g4 h2 h3 h4 hZ e1 e2 e3 e4 e5 e7 e8 e9 e10 e11 hk hb0 hd hv
    unfold mulZ addZ
    ext
    · simp only []
      have f1 : 2 * a1 * (k1 * Z) * (2 * a2) = (2 * a1) * (2 * a2) * (k1 * Z) := by grind
      have f2 : 2 * a1 * m2 * b2 = (2 * a1 * b2) * m2 := by grind
      have f3 : b1 * (2 * a2 * m3) = (2 * a2 * b1) * m3 := by grind
      have f4 : m4 * b1 * b2 + D * m4 * 1 = (b1 * b2 + D) * m4 := by grind
      rw [f1, f2, f3, f4, q8, q2, q3, q4, ← hB1, ← hB2]
      grind
    · simp only []
      have f : 1 * (2 * a1 * (k1 * Z) * 0 + 0 * (2 * a2) + (2 * a1 * m2 * 1 + 0 * b2) + (b1 * 0 + 1 * (2 * a2 * m3) + (m4 * b1 * 1 + m4 * b2))) = (2 * a1) * m2 + (2 * a2) * m3 + (b1 + b2) * m4 := by grind
      rw [f, q5, q6, q7, ← hB1]
      grind

/-! reduced forms: of each class one -/
structure RedF (a b c : Int) : Prop where
  pos : 0 < a
  lo : -a < b
  hi : b ≤ a
  ac : a ≤ c
  eq : a = c → 0 ≤ b
theorem min_aux {a b c x y : Int} (h0 : 0 < a) (h1 : -a ≤ b) (h2 : b ≤ a) (h3 : a ≤ c) (hx : 0 ≤ x) (hy : 1 ≤ y) : c ≤ a * x * x + b * x * y + c * y * y := by
  have hxy : 0 ≤ x * y := Int.mul_nonneg hx (by omega)
  have e1 : -(a * (x * y)) ≤ b * (x * y) := by
    have := Int.mul_le_mul_of_nonneg_right h1 hxy
    rw [Int.neg_mul] at this; exact this
  have q1 : b * x * y = b * (x * y) := by grind
  rcases Int.lt_or_le x y with h | h
  · have e2 : a * (x * y) ≤ c * (x * y) := Int.mul_le_mul_of_nonneg_right h3 hxy
    have e3 : 0 ≤ a * (x * x) := Int.mul_nonneg (by omega) (Int.mul_nonneg hx hx)
    have e4 : c * 1 ≤ c * (y * (y - x)) := Int.mul_le_mul_of_nonneg_left (by
      have := Int.mul_le_mul (a := 1) (b := 1) hy (show 1 ≤ y - x by omega) (by omega) (by omega)
      omega) (by omega)
    have q2 : c * (y * (y - x)) = c * y * y - c * (x * y) := by grind
    have q3 : a * x * x = a * (x * x) := by grind
    omega
  · have e2 : 0 ≤ a * (x * (x - y)) := Int.mul_nonneg (by omega) (Int.mul_nonneg hx (by omega))
    have q2 : a * (x * (x - y)) = a * x * x - a * (x * y) := by grind
    have e4 : c * 1 ≤ c * (y * y) := Int.mul_le_mul_of_nonneg_left (by
      have := Int.mul_le_mul (a := 1) (b := 1) hy hy (by omega) (by omega)
      omega) (by omega)
    have q3 : c * y * y = c * (y * y) := by grind
    omega
theorem RedF.min {a b c : Int} (h : RedF a b c) (x y : Int) (hy : y ≠ 0) : c ≤ a * x * x + b * x * y + c * y * y := by
  obtain ⟨h0, h1, h2, h3, _⟩ := h
  rcases Int.lt_or_le y 0 with hy1 | hy1
  · rcases Int.lt_or_le x 0 with hx | hx
    · have := min_aux (x := -x) (y := -y) h0 (by omega) h2 h3 (by omega) (by omega)
      grind
    · have := min_aux (b := -b) (x := x) (y := -y) h0 (by omega) (by omega) h3 hx (by omega)
      grind
  · rcases Int.lt_or_le x 0 with hx | hx
    · have := min_aux (b := -b) (x := -x) (y := y) h0 (by omega) (by omega) h3 (by omega) (by omega)
      grind
    · exact min_aux h0 (by omega) h2 h3 hx (by omega)
theorem RedF.min1 {a b c : Int} (h : RedF a b c) {x y : Int} (hxy : x ≠ 0 ∨ y ≠ 0) : a ≤ a * x * x + b * x * y + c * y * y := by
  by_cases hy : y = 0
  · subst hy
    have hx : x ≠ 0 := hxy.resolve_right (by simp)
    have h1 := sq_pos0 hx
    have h2 : a * 1 ≤ a * (x * x) := Int.mul_le_mul_of_nonneg_left (by omega) (by have := h.pos; omega)
    have h3 : a * x * x + b * x * 0 + c * 0 * 0 = a * (x * x) := by grind
    omega
  · have := h.min x y hy
    have := h.ac
    omega
/-- f is g behind a turn -/
structure Turn (a b c a' b' c' p q r s : Int) : Prop where
  det : p * s - q * r = 1
  ea : a = a' * p * p + b' * p * r + c' * r * r
  eb : b = 2 * a' * p * q + b' * (p * s + q * r) + 2 * c' * r * s
  ec : c = a' * q * q + b' * q * s + c' * s * s
theorem Turn.back {a b c a' b' c' p q r s : Int} (h : Turn a b c a' b' c' p q r s) : Turn a' b' c' a b c s (-q) (-r) p := by
  obtain ⟨h1, rfl, rfl, rfl⟩ := h
  have h2 : p * s = 1 + q * r := by omega
  refine ⟨by grind, ?_, ?_, ?_⟩
  · have e : a' = a' * ((p * s - q * r) * (p * s - q * r)) := by rw [h1]; omega
    rw [e]; grind
  · have e : b' = b' * ((p * s - q * r) * (p * s - q * r)) := by rw [h1]; omega
    rw [e]; grind
  · have e : c' = c' * ((p * s - q * r) * (p * s - q * r)) := by rw [h1]; omega
    rw [e]; grind
theorem red_unique {a b c a' b' c' p q r s : Int} (h : RedF a b c) (h' : RedF a' b' c') (t : Turn a b c a' b' c' p q r s) : a = a' ∧ b = b' ∧ c = c' := by
  have t' := t.back
  have n1 : p ≠ 0 ∨ r ≠ 0 := by
    by_cases hp : p = 0
    · right; intro hr; have := t.det; rw [hp, hr] at this; simp at this
    · exact .inl hp
  have n2 : s ≠ 0 ∨ -r ≠ 0 := by
    by_cases hs : s = 0
    · right; intro hr; have := t.det; rw [hs, show r = 0 by omega] at this; simp at this
    · exact .inl hs
  have m1 : a' ≤ a := by rw [t.ea]; exact h'.min1 n1
  have m2 : a ≤ a' := by
    have := h.min1 n2
    rw [← t'.ea] at this; exact this
  have haa : a = a' := by omega
  by_cases hr : r = 0
  · have hd := t.det
    subst hr
    have e1 : p * s = 1 := by have := t.det; grind
    have e2 : b = 2 * a' * (p * q) + b' := by
      have := t.eb
      have e3 : b' * (p * s + q * 0) = b' := by rw [e1]; grind
      rw [e3] at this
      rw [this]; grind
    have e4 : p * q = 0 := by
      apply Classical.byContradiction
      intro hn
      have h1 := h.lo; have h2 := h.hi; have h3 := h'.lo; have h4 := h'.hi; have h5 := h'.pos
      rcases Int.lt_or_le (p * q) 0 with hk | hk
      · have := Int.mul_le_mul_of_nonneg_left (show p * q ≤ -1 by omega) (show 0 ≤ 2 * a' by omega)
        omega
      · have := Int.mul_le_mul_of_nonneg_left (show 1 ≤ p * q by omega) (show 0 ≤ 2 * a' by omega)
        omega
    have hp : p ≠ 0 := by intro hp; rw [hp] at e1; simp at e1
    have hq : q = 0 := (Int.mul_eq_zero.1 e4).resolve_left hp
    have e5 : c = c' := by
      have := t.ec
      have hs2 : s * s = 1 := by
        have h1 : (p * s) * (p * s) = 1 := by rw [e1]; rfl
        have h2 := sq_nn s
        have h3 := sq_nn p
        have h4 : (p * p) * (s * s) = 1 := by rw [← h1]; grind
        have h5 : s * s ≠ 0 := by intro h; rw [h] at h4; simp at h4
        have h6 : p * p ≠ 0 := by intro h; rw [h] at h4; simp at h4
        have h7 := Int.mul_le_mul_of_nonneg_right (show 1 ≤ p * p by omega) h2
        omega
      rw [hq] at this
      have e6 : a' * 0 * 0 + b' * 0 * s + c' * s * s = c' * (s * s) := by grind
      rw [e6, hs2] at this; omega
    rw [e4] at e2
    exact ⟨haa, by omega, e5⟩
  · have k1 := h'.min p r hr
    rw [← t.ea] at k1
    have k2 := h.min s (-r) (by omega)
    rw [← t'.ea] at k2
    have e1 := h'.ac
    have e2 := h.ac
    have hc' : c' = a' := by omega
    have hc : c = a := by omega
    have b1 := h'.eq hc'.symm
    have b2 := h.eq hc.symm
    have hdisc : b * b - 4 * a * c = b' * b' - 4 * a' * c' := by
      have e : b * b - 4 * a * c = (b' * b' - 4 * a' * c') * ((p * s - q * r) * (p * s - q * r)) := by
        rw [t.ea, t.eb, t.ec]; grind
      rw [e, t.det]; omega
    rw [hc, hc', haa] at hdisc
    have e3 : (b - b') * (b + b') = 0 := by grind
    rcases Int.mul_eq_zero.1 e3 with e | e
    · exact ⟨haa, by omega, by omega⟩
    · exact ⟨haa, by omega, by omega⟩

theorem nrm_form {D a b c : Int} (h : D = b * b - 4 * a * c) (x y : Int) : nrm D (2 * a * x + b * y, y) = 4 * a * (a * x * x + b * x * y + c * y * y) := by
  unfold nrm
  subst h
  grind
def crs (x y : Z2) : Int := x.1 * y.2 - x.2 * y.1
theorem crs_mul (D : Int) (α x y : Z2) : crs (mulZ D α x) (mulZ D α y) = nrm D α * crs x y := by unfold crs mulZ nrm; grind
theorem sim_turn_back {D a b c a' b' c' : Int} (hD : D < 0) (h : D = b * b - 4 * a * c) (h' : D = b' * b' - 4 * a' * c') (ha : 0 < a) (ha' : 0 < a') (S : Sim D (Lf a b) (Lf a' b')) : ∃ p q r s, Turn a b c a' b' c' p q r s := by
  obtain ⟨α, β, hα, hβ, k1, k2⟩ := S
  obtain ⟨_, ⟨p, r, rfl⟩, f1⟩ := k1 (2 * a, 0) ⟨1, 0, by simp⟩
  obtain ⟨_, ⟨q, s, rfl⟩, f2⟩ := k1 (b, 1) ⟨0, 1, by simp⟩
  obtain ⟨_, ⟨p', r', rfl⟩, g1⟩ := k2 (2 * a', 0) ⟨1, 0, by simp⟩
  obtain ⟨_, ⟨q', s', rfl⟩, g2⟩ := k2 (b', 1) ⟨0, 1, by simp⟩
  have nα := nrm_pos hD hα
  have nβ := nrm_pos hD hβ
  have c1 := crs_mul D α (2 * a, 0) (b, 1)
  rw [f1, f2, crs_mul] at c1
  have c2 := crs_mul D β (2 * a', 0) (b', 1)
  rw [← g1, ← g2, crs_mul] at c2
  have d1 : crs (2 * a' * p + b' * r, r) (2 * a' * q + b' * s, s) = 2 * a' * (p * s - q * r) := by unfold crs; grind
  have d2 : crs (2 * a * p' + b * r', r') (2 * a * q' + b * s', s') = 2 * a * (p' * s' - q' * r') := by unfold crs; grind
  have d3 : crs (2 * a, 0) (b, 1) = 2 * a := by unfold crs; simp
  have d4 : crs (2 * a', 0) (b', 1) = 2 * a' := by unfold crs; simp
  rw [d1, d3] at c1
  rw [d2, d4] at c2
  obtain ⟨M, hM⟩ : ∃ M, p * s - q * r = M := ⟨_, rfl⟩
  obtain ⟨M', hM'⟩ : ∃ M, p' * s' - q' * r' = M := ⟨_, rfl⟩
  rw [hM] at c1
  rw [hM'] at c2
  obtain ⟨K, hK⟩ : ∃ K, nrm D α * a = K := ⟨_, rfl⟩
  obtain ⟨K', hK'⟩ : ∃ K, nrm D β * a' = K := ⟨_, rfl⟩
  have pK : 0 < K := by rw [← hK]; exact Int.mul_pos nα ha
  have pK' : 0 < K' := by rw [← hK']; exact Int.mul_pos nβ ha'
  have c3 : K' * M = K := by
    have e1 : nrm D β * (2 * a' * M) = 2 * (nrm D β * a' * M) := by grind
    have e2 : nrm D α * (2 * a) = 2 * (nrm D α * a) := by grind
    rw [e1, e2, hK, hK'] at c1; omega
  have c4 : K * M' = K' := by
    have e1 : nrm D α * (2 * a * M') = 2 * (nrm D α * a * M') := by grind
    have e2 : nrm D β * (2 * a') = 2 * (nrm D β * a') := by grind
    rw [e1, e2, hK, hK'] at c2; omega
  have pM : 0 < M := by
    apply Classical.byContradiction
    intro hn
    have := Int.mul_le_mul_of_nonneg_left (show M ≤ 0 by omega) (show 0 ≤ K' by omega)
    omega
  have pM' : 0 < M' := by
    apply Classical.byContradiction
    intro hn
    have := Int.mul_le_mul_of_nonneg_left (show M' ≤ 0 by omega) (show 0 ≤ K by omega)
    omega
  have hM1 : M = 1 := by
    apply Classical.byContradiction
    intro hn
    have e1 := Int.mul_le_mul_of_nonneg_left (show 2 ≤ M by omega) (show 0 ≤ K' by omega)
    have e2 := Int.mul_le_mul_of_nonneg_left (show 1 ≤ M' by omega) (show 0 ≤ K by omega)
    omega
  have hKK : K = K' := by rw [hM1] at c3; omega
  have key : ∀ x y : Int, a * x * x + b * x * y + c * y * y = a' * (p * x + q * y) * (p * x + q * y) + b' * (p * x + q * y) * (r * x + s * y) + c' * (r * x + s * y) * (r * x + s * y) := by
    intro x y
    have e : mulZ D α (2 * a * x + b * y, y) = mulZ D β (2 * a' * (p * x + q * y) + b' * (r * x + s * y), r * x + s * y) := by
      have h1 : (2 * a * x + b * y, y) = addZ (mulZ D (2 * a, 0) (x, 0)) (mulZ D (b, 1) (y, 0)) := by unfold addZ mulZ; ext <;> simp only [] <;> grind
      have h2 : (2 * a' * (p * x + q * y) + b' * (r * x + s * y), r * x + s * y) = addZ (mulZ D (2 * a' * p + b' * r, r) (x, 0)) (mulZ D (2 * a' * q + b' * s, s) (y, 0)) := by unfold addZ mulZ; ext <;> simp only [] <;> grind
      rw [h1, h2, mulZ_add, mulZ_add, ← mulZ_assoc, ← mulZ_assoc, ← mulZ_assoc, ← mulZ_assoc, f1, f2]
    have e2 := congrArg (nrm D) e
    rw [nrm_mul, nrm_mul, nrm_form h, nrm_form h'] at e2
    have e3 : nrm D α * (4 * a * (a * x * x + b * x * y + c * y * y)) = 4 * (K * (a * x * x + b * x * y + c * y * y)) := by rw [← hK]; grind
    have e4 : ∀ V : Int, nrm D β * (4 * a' * V) = 4 * (K * V) := fun V => by rw [hKK, ← hK']; grind
    rw [e3, e4] at e2
    exact Int.eq_of_mul_eq_mul_left (show K ≠ 0 by omega) (by omega)
  have key1 := key 1 0
  have key2 := key 0 1
  have key3 := key 1 1
  refine ⟨p, q, r, s, by rw [hM, hM1], ?_, ?_, ?_⟩
  · grind
  · grind
  · grind
/-- lattices that are multiples of one another: one reduced form -/
theorem sim_unique {D a b c a' b' c' : Int} (hD : D < 0) (h : D = b * b - 4 * a * c) (h' : D = b' * b' - 4 * a' * c') (r : RedF a b c) (r' : RedF a' b' c') (S : Sim D (Lf a b) (Lf a' b')) : a = a' ∧ b = b' ∧ c = c' := by
  obtain ⟨p, q, u, s, t⟩ := sim_turn_back hD h h' r.pos r'.pos S
  exact red_unique r r' t
end Go.Proofs.Ytlchmaiflcnaoaa

namespace Go.Proofs.Ytlchmaiflcnaoaa

theorem ibez (a b : Int) : ∃ x y : Int, x * a + y * b = (Int.gcd a b : Int) := by
  have nb : ∀ m n : Nat, ∃ x y : Int, x * m + y * n = Nat.gcd m n := by
    intro m n
    induction m, n using Nat.gcd.induction with
    | H0 n => exact ⟨0, 1, by simp⟩
    | H1 m n hm ih =>
      obtain ⟨x, y, h⟩ := ih
      refine ⟨y - x * ((n / m : Nat) : Int), x, ?_⟩
      rw [Nat.gcd_rec, ← h]
      have e : ((n % m : Nat) : Int) = (n : Int) - (m : Int) * ((n / m : Nat) : Int) := by
        rw [Int.natCast_emod, Int.natCast_ediv]; exact Int.emod_def ..
      rw [e]; grind
  obtain ⟨x, y, h⟩ := nb a.natAbs b.natAbs
  refine ⟨x * a.sign, y * b.sign, ?_⟩
  rw [Int.mul_assoc, Int.mul_assoc, Int.sign_mul_self, Int.sign_mul_self, h]
  rfl
theorem ibez3 {a b c : Int} (h : Int.gcd a (Int.gcd b c) = 1) : ∃ x y z : Int, x * a + y * b + z * c = 1 := by
  obtain ⟨x, y, e1⟩ := ibez b c
  obtain ⟨p, q, e2⟩ := ibez a (Int.gcd b c)
  rw [h, ← e1] at e2
  exact ⟨p, q * x, q * y, by grind⟩
theorem fac (d a b x y : Int) : x * (d * a) + y * (d * b) = d * (x * a + y * b) := by grind
theorem fac4 {d n s v1 v2 c1 c2 : Int} (h : (d * s + n) * (d * s + n) - 4 * (d * v2) * c2 = (d * s - n) * (d * s - n) - 4 * (d * v1) * c1) : 4 * (d * (n * s)) = 4 * (d * (v2 * c2 - v1 * c1)) := by grind
theorem cm1 {n x2 s y2 y1 v2 w1 v1 c2 c1 t0 : Int} (f1 : n * (x2 * s + y2 * (y1 * v2 + w1 * v1)) = n) (f2 : x2 * (n * s) = x2 * (v2 * c2 - v1 * c1)) : v1 * (-(x2 * c1) + n * y2 * w1 + v2 * t0) = n + v2 * (-(y1 * y2 * n) - x2 * c2 + v1 * t0) := by grind
theorem cm2 {n x2 s y2 y1 v2 w1 v1 c2 c1 t0 : Int} (f1 : c2 * (x2 * s + y2 * (y1 * v2 + w1 * v1)) = c2) (f2 : y1 * y2 * (n * s) = y1 * y2 * (v2 * c2 - v1 * c1)) : v1 * (y2 * c2 * w1 + y1 * y2 * c1 + t0 * s) = c2 + (-(y1 * y2 * n) - x2 * c2 + v1 * t0) * s := by grind
theorem comp_make {a1 b1 c1 a2 b2 c2 D s0 n d y1 w1 d1 x2 y2 v1 v2 r s dd t0 : Int} (hD1 : D = b1 * b1 - 4 * a1 * c1) (hD2 : D = b2 * b2 - 4 * a2 * c2) (hs : b1 + b2 = 2 * s0) (hn : n = b2 - s0) (e1 : a1 = d1 * v1) (e2 : a2 = d1 * v2) (hs' : s0 = d1 * s) (hd : d = d1 * dd) (bz1 : y1 * a2 + w1 * a1 = d) (bz2 : x2 * s0 + y2 * d = d1) (hd1 : d1 ≠ 0)
    (hr : r = -(y1 * y2 * n) - x2 * c2 + v1 * t0) : ∃ t u, Comp a1 b1 c1 a2 b2 c2 D d1 v1 v2 r s n t u w1 x2 y1 y2 dd := by
  have e9 : x2 * s + y2 * dd = 1 := by
    have : d1 * (x2 * s + y2 * dd) = d1 * 1 := by rw [hs', hd, fac] at bz2; rw [bz2]; omega
    exact Int.eq_of_mul_eq_mul_left hd1 this
  have e10 : y1 * v2 + w1 * v1 = dd := by
    have : d1 * (y1 * v2 + w1 * v1) = d1 * dd := by rw [e1, e2, hd, fac] at bz1; exact bz1
    exact Int.eq_of_mul_eq_mul_left hd1 this
  have e3 : b1 = d1 * s - n := by rw [← hs', hn]; omega
  have e4 : b2 = d1 * s + n := by rw [← hs', hn]; omega
  have hns : n * s = v2 * c2 - v1 * c1 := by
    have h1 : 4 * (d1 * (n * s)) = 4 * (d1 * (v2 * c2 - v1 * c1)) := by
      have h0 : b2 * b2 - 4 * a2 * c2 = b1 * b1 - 4 * a1 * c1 := by rw [← hD1, hD2]
      rw [e1, e2, e3, e4] at h0
      exact fac4 h0
    exact Int.eq_of_mul_eq_mul_left hd1 (by omega)
  refine ⟨-(x2 * c1) + n * y2 * w1 + v2 * t0, y2 * c2 * w1 + y1 * y2 * c1 + t0 * s, e1, e2, e3, e4, hD2, hD1, ?_, ?_, e9, e10⟩
  · have f1 : n * (x2 * s + y2 * (y1 * v2 + w1 * v1)) = n := by rw [e10, e9]; omega
    rw [hr]
    exact cm1 f1 (by rw [hns])
  · have f1 : c2 * (x2 * s + y2 * (y1 * v2 + w1 * v1)) = c2 := by rw [e10, e9]; omega
    rw [hr]
    exact cm2 f1 (by rw [hns])
/-- the third number of the composed form, and its discriminant -/
theorem comp_third {a1 b1 c1 a2 b2 c2 D d1 v1 v2 r s n t u z1 x2 y1 y2 dd : Int} (h : Comp a1 b1 c1 a2 b2 c2 D d1 v1 v2 r s n t u z1 x2 y1 y2 dd) :
    c2 * d1 + r * (b2 + v2 * r) = v1 * (d1 * u + r * t) ∧ (b2 + 2 * v2 * r) * (b2 + 2 * v2 * r) - 4 * (v1 * v2) * (d1 * u + r * t) = D := by
  obtain ⟨e1, e2, e3, e4, e5, _, e7, e8, _, _⟩ := h
  have f : c2 * d1 + r * (b2 + v2 * r) = v1 * (d1 * u + r * t) := by
    have f1 : v1 * (d1 * u + r * t) = d1 * (v1 * u) + r * (v1 * t) := by grind
    rw [f1, e7, e8, e4]; grind
  refine ⟨f, ?_⟩
  have f2 : 4 * (v1 * v2) * (d1 * u + r * t) = 4 * v2 * (v1 * (d1 * u + r * t)) := by grind
  rw [f2, ← f, e5, e2]; grind

theorem red_bounds {a b c D : Int} (h : RedF a b c) (hD : D = b * b - 4 * a * c) (hlow : -4000000000000 ≤ D) : a ≤ 1154701 ∧ a * c ≤ 1340000000000 ∧ -1154701 ≤ b ∧ b ≤ 1154701 ∧ c ≤ 1340000000000 ∧ 1 ≤ c ∧ D < 0 := by
  obtain ⟨h0, h1, h2, h3, _⟩ := h
  have e1 : b * b ≤ a * a := by
    rcases Int.lt_or_le b 0 with hb | hb
    · have := Int.mul_le_mul (show -b ≤ a by omega) (show -b ≤ a by omega) (by omega) (by omega)
      grind
    · exact Int.mul_le_mul h2 h2 hb (by omega)
  have e2 : a * a ≤ a * c := Int.mul_le_mul_of_nonneg_left h3 (by omega)
  have e3 : 4 * a * c = 4 * (a * c) := by grind
  rw [e3] at hD
  have e4 : a * a ≤ 1333333333334 := by omega
  have ha : a ≤ 1154701 := by
    rcases Int.lt_or_le 1154701 a with h | h
    · have := Int.mul_le_mul (show 1154701 ≤ a by omega) (show 1154701 ≤ a by omega) (by omega) (by omega)
      omega
    · exact h
  have e5 : a * c ≤ 1340000000000 := by
    have := sq_nn b
    omega
  have e6 : 1 * c ≤ a * c := Int.mul_le_mul_of_nonneg_right (by omega) (by omega)
  have e7 : 1 * 1 ≤ a * a := Int.mul_le_mul (by omega) (by omega) (by omega) (by omega)
  exact ⟨ha, e5, by omega, by omega, by omega, by omega, by omega⟩

/-- none is too long -/
theorem comp_bounds {b2 c2 D d1 v1 v2 r C a1 a2 : Int} (ha1 : a1 = d1 * v1) (ha2 : a2 = d1 * v2) (hd : 0 < d1) (hv1 : 0 < v1) (hv2 : 0 < v2) (k1 : a1 ≤ 1154701) (k2 : a2 ≤ 1154701) (k3 : a2 * c2 ≤ 1340000000000) (k4 : -1154701 ≤ b2 ∧ b2 ≤ 1154701) (k5 : 1 ≤ c2) (hr : 0 ≤ r ∧ r < v1) (hC : c2 * d1 + r * (b2 + v2 * r) = v1 * C) (hdisc : (b2 + 2 * v2 * r) * (b2 + 2 * v2 * r) - 4 * (v1 * v2) * C = D) (hD : D < 0) :
    (1 ≤ v1 ∧ v1 ≤ 1154701) ∧ (1 ≤ v2 ∧ v2 ≤ 1154701) ∧ (1 ≤ d1 ∧ d1 ≤ 1154701) ∧ (1 ≤ v1 * v2 ∧ v1 * v2 ≤ 1400000000000) ∧ (0 ≤ v2 * r ∧ v2 * r ≤ 1400000000000) ∧ (0 ≤ c2 * d1 ∧ c2 * d1 ≤ 1340000000000) ∧ (-1700000000000000000 ≤ r * (b2 + v2 * r) ∧ r * (b2 + v2 * r) ≤ 1700000000000000000) ∧ 1 ≤ C ∧ C ≤ 3000000000000 := by
  have q1 : 1 * v1 ≤ d1 * v1 := Int.mul_le_mul_of_nonneg_right (by omega) (by omega)
  have q2 : 1 * v2 ≤ d1 * v2 := Int.mul_le_mul_of_nonneg_right (by omega) (by omega)
  have q3 : d1 * 1 ≤ d1 * v1 := Int.mul_le_mul_of_nonneg_left (by omega) (by omega)
  have q4 : d1 * 1 ≤ d1 * v2 := Int.mul_le_mul_of_nonneg_left (by omega) (by omega)
  have q5 : v1 * v2 ≤ 1154701 * 1154701 := Int.mul_le_mul (by omega) (by omega) (by omega) (by omega)
  have q6 : 1 * 1 ≤ v1 * v2 := Int.mul_le_mul (by omega) (by omega) (by omega) (by omega)
  have q7 : v2 * r ≤ 1154701 * 1154701 := Int.mul_le_mul (by omega) (by omega) (by omega) (by omega)
  have q8 : 0 ≤ v2 * r := Int.mul_nonneg (by omega) (by omega)
  have q9 : c2 * d1 ≤ c2 * a2 := Int.mul_le_mul_of_nonneg_left (by omega) (by omega)
  have q10 : c2 * a2 = a2 * c2 := Int.mul_comm ..
  have q11 : 0 ≤ c2 * d1 := Int.mul_nonneg (by omega) (by omega)
  obtain ⟨X, hX⟩ : ∃ X, b2 + v2 * r = X := ⟨_, rfl⟩
  have hX1 : -1154701 ≤ X ∧ X ≤ 1400000000000 := by omega
  have q12 : r * X ≤ 1154701 * 1400000000000 := by
    rcases Int.lt_or_le X 0 with h | h
    · have := Int.mul_nonpos_of_nonneg_of_nonpos hr.1 (show X ≤ 0 by omega)
      omega
    · exact Int.mul_le_mul (by omega) hX1.2 h (by omega)
  have q13 : -(1154701 * 1154701) ≤ r * X := by
    have h1 : r * (-1154701) ≤ r * X := Int.mul_le_mul_of_nonneg_left hX1.1 hr.1
    have h2 : r * 1154701 ≤ 1154701 * 1154701 := Int.mul_le_mul_of_nonneg_right (by omega) (by omega)
    omega
  have hC1 : 1 ≤ C := by
    apply Classical.byContradiction
    intro h
    have h1 : 4 * (v1 * v2) * C ≤ 4 * (v1 * v2) * 0 := Int.mul_le_mul_of_nonneg_left (by omega) (by omega)
    have h2 := sq_nn (b2 + 2 * v2 * r)
    omega
  have hC2 : C ≤ 3000000000000 := by
    apply Classical.byContradiction
    intro h
    have h1 : v1 * 3000000000000 ≤ v1 * C := Int.mul_le_mul_of_nonneg_left (by omega) (by omega)
    rw [hX] at hC
    have h2 : r * X ≤ v1 * 1400000000000 := by
      rcases Int.lt_or_le X 0 with h | h
      · have := Int.mul_nonpos_of_nonneg_of_nonpos hr.1 (show X ≤ 0 by omega)
        omega
      · exact Int.mul_le_mul (by omega) hX1.2 h (by omega)
    have h3 : 1340000000000 * 1 ≤ 1340000000000 * v1 := Int.mul_le_mul_of_nonneg_left (by omega) (by omega)
    omega
  rw [hX]
  omega

/-- the first form of a discriminant: composing with it changes nothing -/
theorem first_sim {a b c D σ : Int} (hD : D = b * b - 4 * a * c) (hσ : ∃ k, b = σ + 2 * k) (c0 : Int) (hc : D = σ * σ - 4 * c0) : Sim D (Pr D (Lf a b) (Lf 1 σ)) (Lf a b) := by
  obtain ⟨k, hk⟩ := hσ
  refine ⟨(1, 0), (2, 0), by decide, by decide, ?_, ?_⟩
  · intro z hz
    induction hz with
    | @mul x y hx hy =>
      obtain ⟨x, x', rfl⟩ := hx
      obtain ⟨y, y', rfl⟩ := hy
      refine ⟨_, ⟨x * y + x * (-(k * y')) - c * (x' * y'), a * (x * y') + x' * y + (b - k) * (x' * y'), rfl⟩, ?_⟩
      unfold mulZ
      ext <;> simp only []
      · subst hk hD; grind
      · subst hk hD; grind
    | add _ _ i1 i2 =>
      obtain ⟨w1, ⟨p1, p2, rfl⟩, f1⟩ := i1
      obtain ⟨w2, ⟨q1, q2, rfl⟩, f2⟩ := i2
      refine ⟨_, ⟨p1 + q1, p2 + q2, rfl⟩, ?_⟩
      rw [mulZ_add, f1, f2]
      unfold mulZ addZ
      ext <;> simp only [] <;> grind
  · rintro w ⟨x, y, rfl⟩
    refine ⟨mulZ D (2 * a * x + b * y, y) (2, 0), .mul ⟨x, y, rfl⟩ ⟨1, 0, by simp⟩, ?_⟩
    unfold mulZ
    ext <;> simp only [] <;> grind
/-- a form and the one with -b: composed they are the first one -/
theorem back_sim {a b c D σ : Int} (hD : D = b * b - 4 * a * c) (ha : a ≠ 0) (hσ : ∃ k, b = σ + 2 * k) (hg : ∃ x y z : Int, x * a + y * b + z * c = 1) : Sim D (Pr D (Lf a b) (Lf a (-b))) (Lf 1 σ) := by
  obtain ⟨k, hk⟩ := hσ
  obtain ⟨X, Y, Z, hXYZ⟩ := hg
  have hb0 : (2 * a, 0) ≠ ((0, 0) : Z2) := by
    intro h
    injection h with h1 _
    omega
  refine ⟨(1, 0), (2 * a, 0), by decide, hb0, ?_, ?_⟩
  · intro z hz
    induction hz with
    | @mul x y hx hy =>
      obtain ⟨x, x', rfl⟩ := hx
      obtain ⟨y, y', rfl⟩ := hy
      refine ⟨_, ⟨a * (x * y) - (b - k) * (x * y') + k * (x' * y) - c * (x' * y'), x * y' + x' * y, rfl⟩, ?_⟩
      unfold mulZ
      ext <;> simp only []
      · subst hk hD; grind
      · grind
    | add _ _ i1 i2 =>
      obtain ⟨w1, ⟨p1, p2, rfl⟩, f1⟩ := i1
      obtain ⟨w2, ⟨q1, q2, rfl⟩, f2⟩ := i2
      refine ⟨_, ⟨p1 + q1, p2 + q2, rfl⟩, ?_⟩
      rw [mulZ_add, f1, f2]
      unfold mulZ addZ
      ext <;> simp only [] <;> grind
  · rintro w ⟨x, y, rfl⟩
    have g1 : ∀ m : Int, Pr D (Lf a b) (Lf a (-b)) (mulZ D (2 * a * m, 0) (2 * a, 0)) := fun m => .mul ⟨m, 0, by simp⟩ ⟨1, 0, by simp⟩
    have g2 : ∀ m : Int, Pr D (Lf a b) (Lf a (-b)) (mulZ D (2 * a * m, 0) (-b, 1)) := fun m => .mul ⟨m, 0, by simp⟩ ⟨0, 1, by simp⟩
    have g3 : ∀ m : Int, Pr D (Lf a b) (Lf a (-b)) (mulZ D (b, 1) (2 * a * m, 0)) := fun m => .mul ⟨0, 1, by simp⟩ ⟨m, 0, by simp⟩
    have g4 : ∀ m : Int, Pr D (Lf a b) (Lf a (-b)) (mulZ D (m * b, m) (-b, 1)) := fun m => .mul ⟨0, m, by ext <;> simp only [] <;> grind⟩ ⟨0, 1, by simp⟩
    obtain ⟨m, hm⟩ : ∃ m, x - k * y = m := ⟨_, rfl⟩
    refine ⟨_, .add (.add (g1 (m * X)) (g2 (-(m * Y)))) (.add (g3 (m * Y + y)) (g4 (-(m * Z)))), ?_⟩
    clear g1 g2 g3 g4 hb0
    have hx : x = m + k * y := by omega
    unfold mulZ addZ
    ext
    · simp only []
      have e : 4 * a * m * (X * a + Y * b + Z * c) = 4 * a * m := by rw [hXYZ]; omega
      clear hm hXYZ
      subst hx hD hk
      grind
    · simp only []
      grind
end Go.Proofs.Ytlchmaiflcnaoaa
namespace Go.Proofs.Ytlchmaiflcnaoaa
/-- what the walk of compose asks of two reduced forms -/
structure CompAll (a1 b1 c1 a2 b2 c2 D : Int) : Prop where
  sm : (1 ≤ a1 ∧ a1 ≤ 1154701) ∧ (1 ≤ a2 ∧ a2 ≤ 1154701) ∧ (-1154701 ≤ b1 ∧ b1 ≤ 1154701) ∧ (-1154701 ≤ b2 ∧ b2 ≤ 1154701) ∧ (1 ≤ c2 ∧ c2 ≤ 1340000000000) ∧ D < 0
  half : ∃ s0 n : Int, b1 + b2 = 2 * s0 ∧ b2 = s0 + n ∧ (-1154701 ≤ s0 ∧ s0 ≤ 1154701)
  /-- the numbers that the two greatest divisors bring -/
  nums : ∀ s0 n d y1 w1 d1 x2 y2 : Int, b1 + b2 = 2 * s0 → b2 = s0 + n → d = Int.gcd a2 a1 → y1 * a2 + w1 * a1 = d → d1 = Int.gcd s0 d → x2 * s0 + y2 * d = d1 →
    ∃ v1 v2 : Int, a1 = d1 * v1 ∧ a2 = d1 * v2 ∧ 0 < d1 ∧ 0 < v1 ∧ 0 < v2 ∧ v1 ≤ 1154701 ∧ ∀ r t0 : Int, r = -(y1 * y2 * n) - x2 * c2 + v1 * t0 → 0 ≤ r → r < v1 →
      ∃ C : Int, c2 * d1 + r * (b2 + v2 * r) = v1 * C ∧ (b2 + 2 * v2 * r) * (b2 + 2 * v2 * r) - 4 * (v1 * v2) * C = D ∧ Sim D (Pr D (Lf a1 b1) (Lf a2 b2)) (Lf (v1 * v2) (b2 + 2 * v2 * r)) ∧
        ((1 ≤ v1 ∧ v1 ≤ 1154701) ∧ (1 ≤ v2 ∧ v2 ≤ 1154701) ∧ (1 ≤ d1 ∧ d1 ≤ 1154701) ∧ (1 ≤ v1 * v2 ∧ v1 * v2 ≤ 1400000000000) ∧ (0 ≤ v2 * r ∧ v2 * r ≤ 1400000000000) ∧ (0 ≤ c2 * d1 ∧ c2 * d1 ≤ 1340000000000) ∧ (-1700000000000000000 ≤ r * (b2 + v2 * r) ∧ r * (b2 + v2 * r) ≤ 1700000000000000000) ∧ 1 ≤ C ∧ C ≤ 3000000000000)
theorem par_half {b1 b2 x y D : Int} (h1 : D = b1 * b1 - 4 * x) (h2 : D = b2 * b2 - 4 * y) : ∃ s0 : Int, b1 + b2 = 2 * s0 := by
  have e : (b1 + b2) * (b2 - b1) = 4 * (y - x) := by grind
  rcases (show (b1 + b2) % 2 = 0 ∨ (b1 + b2) % 2 = 1 by omega) with h | h
  · exact ⟨(b1 + b2) / 2, by omega⟩
  · exfalso
    obtain ⟨k, hk⟩ : ∃ k, b1 + b2 = 2 * k + 1 := ⟨(b1 + b2) / 2, by omega⟩
    obtain ⟨l, hl⟩ : ∃ l, b2 - b1 = 2 * l + 1 := ⟨(b2 - b1) / 2, by omega⟩
    rw [hk, hl] at e
    have e2 : (2 * k + 1) * (2 * l + 1) = 4 * (k * l) + 2 * k + 2 * l + 1 := by grind
    omega
theorem comp_all {a1 b1 c1 a2 b2 c2 D : Int} (r1 : RedF a1 b1 c1) (r2 : RedF a2 b2 c2) (hD1 : D = b1 * b1 - 4 * a1 * c1) (hD2 : D = b2 * b2 - 4 * a2 * c2) (hlow : -4000000000000 ≤ D) (g1 : Int.gcd a1 (Int.gcd b1 c1) = 1) : CompAll a1 b1 c1 a2 b2 c2 D := by
  have k1 := red_bounds r1 hD1 hlow
  have k2 := red_bounds r2 hD2 hlow
  have p1 := r1.pos
  have p2 := r2.pos
  refine ⟨by omega, ?_, ?_⟩
  · obtain ⟨s0, hs⟩ := par_half (D := D) (b1 := b1) (b2 := b2) (x := a1 * c1) (y := a2 * c2) (by rw [← Int.mul_assoc]; exact hD1) (by rw [← Int.mul_assoc]; exact hD2)
    exact ⟨s0, b2 - s0, hs, by omega, by omega⟩
  · intro s0 n d y1 w1 d1 x2 y2 hs hn hd e1 hd1 e2
    have hdp : 0 < d := by
      rw [hd]
      have := Int.gcd_pos_of_ne_zero_left a1 (show a2 ≠ 0 by omega)
      omega
    have hd1p : 0 < d1 := by
      rw [hd1]
      have := Int.gcd_pos_of_ne_zero_right s0 (show d ≠ 0 by omega)
      omega
    obtain ⟨s, hs'⟩ : d1 ∣ s0 := by rw [hd1]; exact Int.gcd_dvd_left ..
    obtain ⟨dd, hdd⟩ : d1 ∣ d := by rw [hd1]; exact Int.gcd_dvd_right ..
    obtain ⟨v1, hv1⟩ : d1 ∣ a1 := Int.dvd_trans ⟨dd, hdd⟩ (by rw [hd]; exact Int.gcd_dvd_right ..)
    obtain ⟨v2, hv2⟩ : d1 ∣ a2 := Int.dvd_trans ⟨dd, hdd⟩ (by rw [hd]; exact Int.gcd_dvd_left ..)
    have hv1p : 0 < v1 := by
      apply Classical.byContradiction
      intro h
      have := Int.mul_le_mul_of_nonneg_left (show v1 ≤ 0 by omega) (show 0 ≤ d1 by omega)
      omega
    have hv2p : 0 < v2 := by
      apply Classical.byContradiction
      intro h
      have := Int.mul_le_mul_of_nonneg_left (show v2 ≤ 0 by omega) (show 0 ≤ d1 by omega)
      omega
    have hv1b : 1 * v1 ≤ d1 * v1 := Int.mul_le_mul_of_nonneg_right (by omega) (by omega)
    refine ⟨v1, v2, hv1, hv2, hd1p, hv1p, hv2p, by omega, fun r t0 hr hr0 hr1 => ?_⟩
    obtain ⟨t, u, hc⟩ := comp_make (s0 := s0) (n := n) hD1 hD2 hs (by omega) hv1 hv2 hs' hdd e1 e2 (by omega) hr
    obtain ⟨f1, f2⟩ := comp_third hc
    obtain ⟨X, Y, Z, hX⟩ := ibez3 g1
    have hk : (X * v1 + Y * s) * d1 + (-Y) * n + Z * c1 + 0 * c2 = 1 := by
      rw [← hX, hv1, hc.e3]; grind
    have hsim := comp_sim hc (by omega) (by omega) hk
    exact ⟨d1 * u + r * t, f1, f2, hsim, comp_bounds hv1 hv2 hd1p hv1p hv2p k1.1 k2.1 k2.2.1 ⟨k2.2.2.1, k2.2.2.2.1⟩ k2.2.2.2.2.2.1 ⟨hr0, hr1⟩ f1 f2 k2.2.2.2.2.2.2⟩
end Go.Proofs.Ytlchmaiflcnaoaa
namespace Go.Proofs.Ytlchmaiflcnaoaa
theorem comp_r {y1 y2 v1 N x2 c2 m1 m2 m3 r : Int} (h1 : y1 * y2 % v1 = m1) (h2 : m1 * N % v1 = m2) (h3 : x2 * c2 % v1 = m3) (h4 : (-m2 - m3) % v1 = r) : ∃ t0, r = -(y1 * y2 * N) - x2 * c2 + v1 * t0 := by
  have e1 := Int.mul_ediv_add_emod (y1 * y2) v1
  have e2 := Int.mul_ediv_add_emod (m1 * N) v1
  have e3 := Int.mul_ediv_add_emod (x2 * c2) v1
  have e4 := Int.mul_ediv_add_emod (-m2 - m3) v1
  rw [h1] at e1
  rw [h2] at e2
  rw [h3] at e3
  rw [h4] at e4
  generalize y1 * y2 / v1 = q1 at e1
  generalize m1 * N / v1 = q2 at e2
  generalize x2 * c2 / v1 = q3 at e3
  generalize (-m2 - m3) / v1 = q4 at e4
  refine ⟨q1 * N + q2 + q3 - q4, ?_⟩
  have f1 : y1 * y2 * N = v1 * q1 * N + m1 * N := by rw [← e1]; grind
  rw [f1, ← e2, ← e3]
  have f2 : r = -m2 - m3 - v1 * q4 := by omega
  rw [f2]
  grind
end Go.Proofs.Ytlchmaiflcnaoaa
namespace Go.Proofs.Ytlchmaiflcnaoaa
/-! the composed form has no divisor -/
/-- the number (B + sqrt D) / T carries a lattice into itself -/
def Mult (D B T : Int) (L : Z2 → Prop) : Prop := ∀ z, L z → ∃ z', L z' ∧ mulZ D (B, 1) z = mulZ D (T, 0) z'
theorem mulZ_cancel {D : Int} (hD : D < 0) {β x y : Z2} (hβ : β ≠ (0, 0)) (h : mulZ D β x = mulZ D β y) : x = y := by
  have e : mulZ D β (x.1 - y.1, x.2 - y.2) = (0, 0) := by
    have h1 := congrArg Prod.fst h
    have h2 := congrArg Prod.snd h
    unfold mulZ at h1 h2 ⊢
    simp only at h1 h2
    ext <;> simp only [] <;> grind
  have h0 : (x.1 - y.1, x.2 - y.2) = ((0, 0) : Z2) := by
    apply Classical.byContradiction
    intro hn
    exact mulZ_ne hD hβ hn e
  injection h0 with h1 h2
  exact Prod.ext (by omega) (by omega)
theorem Mult.sim {D B T : Int} (hD : D < 0) {L M : Z2 → Prop} (S : Sim D L M) (h : Mult D B T L) : Mult D B T M := by
  obtain ⟨α, β, _, hβ, k1, k2⟩ := S
  intro w hw
  obtain ⟨z, hz, e⟩ := k2 w hw
  obtain ⟨z', hz', f⟩ := h z hz
  obtain ⟨w', hw', e'⟩ := k1 z' hz'
  refine ⟨w', hw', mulZ_cancel hD hβ ?_⟩
  rw [← mulZ_assoc, mulZ_comm D β (B, 1), mulZ_assoc, ← e, ← mulZ_assoc, mulZ_comm D (B, 1) α, mulZ_assoc, f, ← mulZ_assoc, mulZ_comm D α (T, 0), mulZ_assoc, e', ← mulZ_assoc, mulZ_comm D (T, 0) β, mulZ_assoc]
theorem Mult.prod {D B T : Int} {L : Z2 → Prop} (N : Z2 → Prop) (h : Mult D B T L) : Mult D B T (Pr D L N) := by
  intro z hz
  induction hz with
  | @mul x y hx hy =>
    obtain ⟨x', hx', e⟩ := h x hx
    exact ⟨mulZ D x' y, .mul hx' hy, by rw [← mulZ_assoc, e, mulZ_assoc]⟩
  | add _ _ i1 i2 =>
    obtain ⟨w1, h1, f1⟩ := i1
    obtain ⟨w2, h2, f2⟩ := i2
    exact ⟨addZ w1 w2, .add h1 h2, by rw [mulZ_add, mulZ_add, f1, f2]⟩
theorem mult_form {A B C D t : Int} (hD : D = B * B - 4 * A * C) (h1 : t ∣ A) (h2 : t ∣ B) (h3 : t ∣ C) : Mult D B (2 * t) (Lf A B) := by
  obtain ⟨a, ha⟩ := h1
  obtain ⟨b, hb⟩ := h2
  obtain ⟨c, hc⟩ := h3
  rintro z ⟨x, y, rfl⟩
  refine ⟨_, ⟨-(c * y), a * x + b * y, rfl⟩, ?_⟩
  unfold mulZ
  ext <;> simp only []
  · rw [hD, ha, hb, hc]; grind
  · rw [ha, hb]; grind
theorem sigma_of {a b c D : Int} (hD : D = b * b - 4 * a * c) : ∃ σ c0 : Int, (∃ k, b = σ + 2 * k) ∧ D = σ * σ - 4 * c0 := by
  rcases (show b % 2 = 0 ∨ b % 2 = 1 by omega) with h | h
  · obtain ⟨k, hk⟩ : ∃ k, b = 2 * k := ⟨b / 2, by omega⟩
    exact ⟨0, a * c - k * k, ⟨k, by omega⟩, by rw [hD, hk]; grind⟩
  · obtain ⟨k, hk⟩ : ∃ k, b = 1 + 2 * k := ⟨b / 2, by omega⟩
    exact ⟨1, a * c - k * k - k, ⟨k, by omega⟩, by rw [hD, hk]; grind⟩
theorem prim_comp {a1 b1 c1 a2 b2 c2 A B C D : Int} (hD : D < 0) (hD1 : D = b1 * b1 - 4 * a1 * c1) (hD2 : D = b2 * b2 - 4 * a2 * c2) (hD3 : D = B * B - 4 * A * C) (ha1 : a1 ≠ 0) (ha2 : a2 ≠ 0) (g1 : Int.gcd a1 (Int.gcd b1 c1) = 1) (g2 : Int.gcd a2 (Int.gcd b2 c2) = 1) (S : Sim D (Pr D (Lf a1 b1) (Lf a2 b2)) (Lf A B)) : Int.gcd A (Int.gcd B C) = 1 := by
  obtain ⟨σ, c0, ⟨k1, hk1⟩, hσ⟩ := sigma_of hD1
  have hk2 : ∃ k, b2 = σ + 2 * k := by
    obtain ⟨s0, hs⟩ := par_half (D := D) (b1 := b1) (b2 := b2) (x := a1 * c1) (y := a2 * c2) (by rw [← Int.mul_assoc]; exact hD1) (by rw [← Int.mul_assoc]; exact hD2)
    exact ⟨s0 - σ - k1, by omega⟩
  obtain ⟨t, ht⟩ : ∃ t : Nat, Int.gcd A (Int.gcd B C) = t := ⟨_, rfl⟩
  have tA : (t : Int) ∣ A := by rw [← ht]; exact Int.gcd_dvd_left ..
  have tBC : (t : Int) ∣ (Int.gcd B C : Int) := by rw [← ht]; exact Int.gcd_dvd_right ..
  have tB : (t : Int) ∣ B := Int.dvd_trans tBC (Int.gcd_dvd_left ..)
  have tC : (t : Int) ∣ C := Int.dvd_trans tBC (Int.gcd_dvd_right ..)
  have m1 := (mult_form hD3 tA tB tC).sim hD S.symm
  have m2 := m1.prod (Pr D (Lf a1 (-b1)) (Lf a2 (-b2)))
  -- ((f g) (f' g')) is (f f') (g g'): the first one
  have s1 : Sim D (Pr D (Pr D (Lf a1 b1) (Lf a2 b2)) (Pr D (Lf a1 (-b1)) (Lf a2 (-b2)))) (Pr D (Pr D (Lf a1 b1) (Lf a1 (-b1))) (Pr D (Lf a2 b2) (Lf a2 (-b2)))) := by
    refine (Sim.assoc D _ _ _).trans hD (Sim.trans hD ?_ (Sim.assoc D _ _ _).symm)
    refine Sim.prod2 hD (Sim.refl D _) ?_
    refine (Sim.assoc D _ _ _).symm.trans hD (Sim.trans hD ?_ (Sim.assoc D _ _ _))
    exact (Sim.comm D _ _).prod _
  have s2 := Sim.prod2 hD (back_sim (σ := σ) hD1 ha1 ⟨k1, hk1⟩ (ibez3 g1)) (back_sim (σ := σ) hD2 ha2 hk2 (ibez3 g2))
  have s3 := first_sim (a := 1) (b := σ) (c := c0) (D := D) (σ := σ) (by rw [hσ]; omega) ⟨0, by omega⟩ c0 hσ
  have m3 := m2.sim hD ((s1.trans hD s2).trans hD s3)
  obtain ⟨_, ⟨x, y, rfl⟩, e⟩ := m3 (2, 0) ⟨1, 0, by simp⟩
  have e2 := congrArg Prod.snd e
  unfold mulZ at e2
  simp only at e2
  have e3 : (t : Int) * y = 1 := by
    have : 2 * ((t : Int) * y) = 2 := by grind
    omega
  have h1 : (t : Int) ∣ 1 := ⟨y, e3.symm⟩
  rw [ht]
  have := Int.le_of_dvd (by omega) h1
  have : t ≠ 0 := by rintro rfl; simp at e3
  omega
end Go.Proofs.Ytlchmaiflcnaoaa

