/- Plain laws and first walks, in one text: each under the conditions that its theorems name. -/
import Derived.Test.YtlchmaiflcnaoaaRows
import Derived.WalkKit
import Derived.WalkSpells
import Derived.WalkLawsBesides
import Derived.Deep.AppendLies
import Derived.Deep.Draws
import Derived.Deep.QuietTactic
import Derived.Deep.DeepCutAuto
import Derived.Deep.CutBlock
import Derived.BigQuiet
import Derived.Lib.Hide
import Derived.Deep.LoopGhost
import Derived.Deep.RegionHeld3
import Derived.Shelf.Spec.BitsCarry
import Derived.Deep.OwnRows
import Derived.Laws.AppendOwnNone
namespace Go.Proofs.Ytlchmaiflcnaoaa.Ar

theorem natAbs_sub_of {x y : Int} (h : x * y ≤ 0) : (x - y).natAbs = x.natAbs + y.natAbs := by
  rcases Int.lt_trichotomy x 0 with hx | hx | hx
  · have hy : 0 ≤ y := by
      apply Int.not_lt.1
      intro hy
      have := Int.mul_pos_of_neg_of_neg hx hy
      omega
    omega
  · omega
  · have hy : y ≤ 0 := by
      apply Int.not_lt.1
      intro hy
      have := Int.mul_pos hx hy
      omega
    omega

theorem gcd_tmod (a b : Int) : Int.gcd b (a.tmod b) = Int.gcd a b := by
  unfold Int.gcd
  rw [Int.natAbs_tmod, Nat.gcd_comm b.natAbs, ← Nat.gcd_rec, Nat.gcd_comm]

/-- what holds at the head of each round of the extended division with rests -/
structure Ext (A B a b u v : Int) : Prop where
  gcd : Int.gcd a b = Int.gcd A B
  ra : B ∣ a - u * A
  rb : B ∣ b - v * A
  sum : u.natAbs * b.natAbs + v.natAbs * a.natAbs = B.natAbs
  sign : u * v * (a * b) ≤ 0
  ule : u.natAbs ≤ max 1 B.natAbs
  vle : v.natAbs ≤ max 1 B.natAbs
  ale : a.natAbs ≤ max A.natAbs B.natAbs
  ble : b.natAbs ≤ max A.natAbs B.natAbs

theorem Ext.start (A B : Int) : Ext A B A B 1 0 :=
  ⟨rfl, ⟨0, by omega⟩, ⟨1, by omega⟩, by simp, by simp, by simp; omega, by simp, by omega, by omega⟩

theorem q_sign (a b : Int) : 0 ≤ a.tdiv b * (a * b) := by
  have h := Int.tdiv_mul_add_tmod a b
  rcases Int.lt_trichotomy (a * b) 0 with hn | hn | hn
  · have : a.tdiv b ≤ 0 := by
      rcases Int.lt_trichotomy b 0 with hb | hb | hb
      · have ha : 0 < a := by
          apply Int.not_le.1; intro ha
          have := Int.mul_nonneg_of_nonpos_of_nonpos ha (Int.le_of_lt hb); omega
        have e : a.tdiv b = - (a.tdiv (-b)) := by rw [Int.tdiv_neg, Int.neg_neg]
        have := Int.tdiv_nonneg (a := a) (b := -b) (by omega) (by omega)
        omega
      · subst hb; simp
      · have ha : a < 0 := by
          apply Int.not_le.1; intro ha
          have := Int.mul_nonneg ha (Int.le_of_lt hb); omega
        have e : a.tdiv b = - ((-a).tdiv b) := by rw [Int.neg_tdiv, Int.neg_neg]
        have := Int.tdiv_nonneg (a := -a) (b := b) (by omega) (by omega)
        omega
    exact Int.mul_nonneg_of_nonpos_of_nonpos this (Int.le_of_lt hn)
  · rw [hn]; simp
  · have : 0 ≤ a.tdiv b := by
      rcases Int.lt_trichotomy b 0 with hb | hb | hb
      · have ha : a < 0 := by
          apply Int.not_le.1; intro ha
          have := Int.mul_nonneg ha (a := a) (b := -b) (by omega)
          have e : a * -b = -(a * b) := Int.mul_neg a b
          omega
        have e : a.tdiv b = (-a).tdiv (-b) := by rw [Int.neg_tdiv_neg]
        have := Int.tdiv_nonneg (a := -a) (b := -b) (by omega) (by omega)
        omega
      · subst hb; simp
      · have ha : 0 < a := by
          apply Int.not_le.1; intro ha
          have := Int.mul_nonneg (a := -a) (b := b) (by omega) (by omega)
          have e : -a * b = -(a * b) := Int.neg_mul a b
          omega
        exact Int.tdiv_nonneg (by omega) (by omega)
    exact Int.mul_nonneg this (Int.le_of_lt hn)

theorem pos_sq {x : Int} (h : x ≠ 0) : 0 < x * x := by
  rcases Int.lt_or_gt_of_ne h with h | h
  · exact Int.mul_pos_of_neg_of_neg h h
  · exact Int.mul_pos h h

theorem sign_q {a b u v : Int} (hb : b ≠ 0) (h : u * v * (a * b) ≤ 0) : u * (a.tdiv b * v) ≤ 0 := by
  by_cases ha : a = 0
  · subst ha; simp
  have hq := q_sign a b
  by_cases hq0 : a.tdiv b = 0
  · rw [hq0]; simp
  · have hab : a * b ≠ 0 := Int.mul_ne_zero ha hb
    have hp := pos_sq hab
    have e : u * (a.tdiv b * v) * (a * b * (a * b)) = (u * v * (a * b)) * (a.tdiv b * (a * b)) := by grind
    apply Int.not_lt.1
    intro hc
    have h1 := Int.mul_pos hc hp
    rw [e] at h1
    have h2 := Int.mul_nonneg (a := -(u * v * (a * b))) (b := a.tdiv b * (a * b)) (by omega) hq
    rw [Int.neg_mul] at h2
    omega

theorem Ext.step {A B a b u v : Int} (h : Ext A B a b u v) (hb : b ≠ 0) :
    Ext A B b (a - a.tdiv b * b) v (u - a.tdiv b * v) ∧ (a - a.tdiv b * b).natAbs < b.natAbs ∧ (a.tdiv b * v).natAbs ≤ max 1 B.natAbs ∧ (a.tdiv b * b).natAbs ≤ a.natAbs := by
  have hr : a - a.tdiv b * b = a.tmod b := by have := Int.tdiv_mul_add_tmod a b; omega
  have hrn : (a.tmod b).natAbs = a.natAbs % b.natAbs := Int.natAbs_tmod a b
  have hlt : a.natAbs % b.natAbs < b.natAbs := Nat.mod_lt _ (by omega)
  have hsg := sign_q hb h.sign
  have hab : (u - a.tdiv b * v).natAbs = u.natAbs + (a.tdiv b).natAbs * v.natAbs := by rw [natAbs_sub_of hsg, Int.natAbs_mul]
  have hqn : (a.tdiv b).natAbs = a.natAbs / b.natAbs := Int.natAbs_tdiv a b
  have hdm := Nat.div_add_mod a.natAbs b.natAbs
  have hsum : v.natAbs * (a.tmod b).natAbs + (u - a.tdiv b * v).natAbs * b.natAbs = B.natAbs := by
    rw [hab, hrn, hqn, ← h.sum]
    have e1 : v.natAbs * a.natAbs = v.natAbs * (b.natAbs * (a.natAbs / b.natAbs) + a.natAbs % b.natAbs) := by rw [hdm]
    rw [e1]
    grind
  have hle : (u - a.tdiv b * v).natAbs ≤ max 1 B.natAbs := by
    have h1 : (u - a.tdiv b * v).natAbs * 1 ≤ (u - a.tdiv b * v).natAbs * b.natAbs := Nat.mul_le_mul_left _ (by omega)
    omega
  refine ⟨⟨by rw [hr, gcd_tmod]; exact h.gcd, h.rb, ?_, by rw [hr]; exact hsum, ?_, h.vle, hle, h.ble, ?_⟩, ?_, ?_, ?_⟩
  · have e : a - a.tdiv b * b - (u - a.tdiv b * v) * A = (a - u * A) - a.tdiv b * (b - v * A) := by grind
    rw [e]
    exact Int.dvd_sub h.ra (Int.dvd_mul_of_dvd_right h.rb)
  · -- sign
    rw [hr]
    by_cases hz : a.tmod b = 0
    · rw [hz]; simp
    have ha0 : a ≠ 0 := by intro e; subst e; simp at hz
    -- the rest has the sign of a
    have hra : 0 < a.tmod b * a := by
      rcases Int.lt_or_gt_of_ne ha0 with hneg | hpos
      · have h1 : a.tmod b ≤ 0 := by
          have e : a.tmod b = -((-a).tmod b) := by rw [Int.neg_tmod, Int.neg_neg]
          have := Int.tmod_nonneg (a := -a) b (by omega)
          omega
        exact Int.mul_pos_of_neg_of_neg (by omega) hneg
      · have h1 := Int.tmod_nonneg (a := a) b (by omega)
        exact Int.mul_pos (by omega) hpos
    have hp := pos_sq ha0
    apply Int.not_lt.1
    intro hc
    have h1 := Int.mul_pos hc hp
    have e : v * (u - a.tdiv b * v) * (b * a.tmod b) * (a * a) = (u * v * (a * b)) * (a.tmod b * a) - (a.tdiv b * (a * b)) * (v * v) * (a.tmod b * a) := by grind
    rw [e] at h1
    have h2 := Int.mul_nonneg (a := -(u * v * (a * b))) (b := a.tmod b * a) (by have := h.sign; omega) (Int.le_of_lt hra)
    rw [Int.neg_mul] at h2
    have hvv : 0 ≤ v * v := by
      by_cases hv : v = 0
      · subst hv; simp
      · exact Int.le_of_lt (pos_sq hv)
    have h3 := Int.mul_nonneg (Int.mul_nonneg (q_sign a b) hvv) (Int.le_of_lt hra)
    omega
  · rw [hr, hrn]
    have := h.ble
    omega
  · rw [hr, hrn]; exact hlt
  · rw [Int.natAbs_mul]; rw [hab] at hle; omega
  · rw [Int.natAbs_mul, hqn]; exact Nat.div_mul_le_self _ _

/-- at the end -/
theorem Ext.fin {A B a u v : Int} (h : Ext A B a 0 u v) : (a.natAbs : Int) = Int.gcd A B ∧ B ∣ a - u * A := by
  have := h.gcd
  rw [Int.gcd_zero_right] at this
  exact ⟨by omega, h.ra⟩

end Go.Proofs.Ytlchmaiflcnaoaa.Ar

namespace Go.Proofs.Ytlchmaiflcnaoaa.Ar

/-- What is known behind the normalizing of bits.Div64: the divisor Y = y * 2^s in two digits, the dividend in three. -/
structure Dn (hi lo y s Y y1 y0 u n1 n0 : Nat) : Prop where
  Ys : Y = y * 2 ^ s
  Yd : Y = y1 * 4294967296 + y0
  y0lt : y0 < 4294967296
  y1lt : y1 < 4294967296
  y1ge : 2147483648 ≤ y1
  ult : u < Y
  n1lt : n1 < 4294967296
  n0lt : n0 < 4294967296
  num : (hi * 18446744073709551616 + lo) * 2 ^ s = (u * 4294967296 + n1) * 4294967296 + n0

/-- A guess at a digit: q * y1 + r = u, at least the true digit. -/
structure Guess (Y y1 y0 u n q r : Nat) : Prop where
  sum : q * y1 + r = u
  ge : (u * 4294967296 + n) / Y ≤ q
  le : q ≤ 4294967297

theorem Guess.start {Y y1 y0 u n : Nat} (hY : Y = y1 * 4294967296 + y0) (h0 : y0 < 4294967296) (h1 : 2147483648 ≤ y1) (hu : u < Y) (hn : n < 4294967296) :
    Guess Y y1 y0 u n (u / y1) (u % y1) := by
  have hd := Nat.div_add_mod u y1
  refine ⟨by rw [Nat.mul_comm]; exact hd, ?_, ?_⟩
  · -- the true digit times y1 is at most u
    have hq := Nat.div_mul_le_self (u * 4294967296 + n) Y
    rw [Nat.le_div_iff_mul_le (by omega)]
    generalize (u * 4294967296 + n) / Y = t at hq
    subst hY
    rw [Nat.mul_add, ← Nat.mul_assoc] at hq
    generalize t * y1 = z at hq ⊢
    omega
  · apply Nat.le_of_lt_succ
    rw [Nat.div_lt_iff_lt_mul (by omega)]
    omega

/-- What the test asks: is the guess too great? -/
theorem Guess.test {Y y1 y0 u n q r : Nat} (h : Guess Y y1 y0 u n q r) (hY : Y = y1 * 4294967296 + y0) (hp : 0 < Y) :
    (4294967296 * r + n < q * y0 ↔ (u * 4294967296 + n) / Y < q) := by
  have e : q * Y = (u - r) * 4294967296 + q * y0 := by
    have := h.sum
    have : u - r = q * y1 := by omega
    rw [this, hY, Nat.mul_add, Nat.mul_assoc]
  have hs := h.sum
  rw [Nat.div_lt_iff_lt_mul hp, e]
  generalize q * y0 = z
  have : r ≤ u := by omega
  omega

theorem Guess.small {Y y1 y0 u n q r : Nat} (_h : Guess Y y1 y0 u n q r) (hu : u < Y) (hn : n < 4294967296) (hq : 4294967296 ≤ q) :
    (u * 4294967296 + n) / Y < q := by
  rw [Nat.div_lt_iff_lt_mul (by omega)]
  have : 4294967296 * Y ≤ q * Y := Nat.mul_le_mul_right _ hq
  omega

theorem Guess.down {Y y1 y0 u n q r : Nat} (h : Guess Y y1 y0 u n q r) (hlt : (u * 4294967296 + n) / Y < q) : Guess Y y1 y0 u n (q - 1) (r + y1) := by
  obtain ⟨p, rfl⟩ : ∃ p, q = p + 1 := ⟨q - 1, by have := Nat.lt_of_le_of_lt (Nat.zero_le _) hlt; omega⟩
  have := h.sum
  have hl := h.le
  refine ⟨?_, ?_, by omega⟩
  · rw [Nat.add_sub_cancel]
    rw [Nat.add_mul] at this
    omega
  · rw [Nat.add_sub_cancel]
    exact Nat.le_of_lt_succ hlt

/-- a rest of a whole digit or more: the guess is right -/
theorem Guess.stop {Y y1 y0 u n q r : Nat} (h : Guess Y y1 y0 u n q r) (hY : Y = y1 * 4294967296 + y0) (hp : 0 < Y) (h0 : y0 < 4294967296) (hq : q ≤ 4294967296) (hr : 4294967296 ≤ r) :
    q = (u * 4294967296 + n) / Y := by
  have ht := h.test hY hp
  have : q * y0 ≤ 4294967296 * 4294967295 := Nat.mul_le_mul hq (by omega)
  have hg := h.ge
  have : ¬ (u * 4294967296 + n) / Y < q := by rw [← ht]; omega
  omega

/-- one round of looking for a digit, T the true one, in words that a walk wants -/
structure GuessAt (Y y1 y0 u n T q r : Nat) : Prop where
  g : Guess Y y1 y0 u n q r
  t : T = (u * 4294967296 + n) / Y
  hY : Y = y1 * 4294967296 + y0
  y0lt : y0 < 4294967296
  y1ge : 2147483648 ≤ y1
  ult : u < Y
  nlt : n < 4294967296
theorem GuessAt.out {Y y1 y0 u n T q r : Nat} (h : GuessAt Y y1 y0 u n T q r) (ht : ¬ 4294967296 * r + n < q * y0) : q = T := by
  have a := h.g.test h.hY (by have := h.y1ge; have := h.hY; omega)
  have b := h.g.ge
  rw [← h.t] at a b
  omega
theorem GuessAt.lt_of {Y y1 y0 u n T q r : Nat} (h : GuessAt Y y1 y0 u n T q r) (ht : 4294967296 ≤ q ∨ 4294967296 * r + n < q * y0) : T < q := by
  rcases ht with ht | ht
  · have := h.g.small h.ult h.nlt ht
    rw [← h.t] at this; exact this
  · have a := h.g.test h.hY (by have := h.y1ge; have := h.hY; omega)
    rw [← h.t] at a
    exact a.1 ht
theorem GuessAt.down {Y y1 y0 u n T q r : Nat} (h : GuessAt Y y1 y0 u n T q r) (ht : 4294967296 ≤ q ∨ 4294967296 * r + n < q * y0) : GuessAt Y y1 y0 u n T (q - 1) (r + y1) :=
  ⟨h.g.down (by rw [← h.t]; exact h.lt_of ht), h.t, h.hY, h.y0lt, h.y1ge, h.ult, h.nlt⟩
theorem GuessAt.stop {Y y1 y0 u n T q r : Nat} (h : GuessAt Y y1 y0 u n T q r) (ht : 4294967296 ≤ q ∨ 4294967296 * r + n < q * y0) (hr : 4294967296 ≤ r + y1) : q - 1 = T := by
  have a := h.down ht
  have := h.g.le
  rw [h.t]
  exact a.g.stop h.hY (by have := h.y1ge; have := h.hY; omega) h.y0lt (by omega) hr

/-- the sum of the two digits is the quotient -/
theorem shift_split (N Y n0 : Nat) : N * 4294967296 + n0 = (N % Y * 4294967296 + n0) + Y * (N / Y * 4294967296) := by
  have hd := Nat.div_add_mod N Y
  generalize N % Y = b at *
  generalize N / Y = a at *
  subst hd
  rw [Nat.add_mul, Nat.mul_assoc]
  generalize Y * (a * 4294967296) = c
  omega
theorem shift_quo (N Y n0 : Nat) (hY : 0 < Y) : (N * 4294967296 + n0) / Y = N / Y * 4294967296 + (N % Y * 4294967296 + n0) / Y := by
  rw [shift_split N Y n0, Nat.add_mul_div_left _ _ hY, Nat.add_comm]
theorem shift_rem (N Y n0 : Nat) : (N * 4294967296 + n0) % Y = (N % Y * 4294967296 + n0) % Y := by
  rw [shift_split N Y n0, Nat.add_mul_mod_self_left]
theorem Dn.quo {hi lo y s Y y1 y0 u n1 n0 : Nat} (h : Dn hi lo y s Y y1 y0 u n1 n0) :
    (u * 4294967296 + n1) / Y * 4294967296 + ((u * 4294967296 + n1) % Y * 4294967296 + n0) / Y = (hi * 18446744073709551616 + lo) / y := by
  have hpos : 0 < 2 ^ s := Nat.pow_pos (by omega)
  have hYp : 0 < Y := by have := h.y1ge; have := h.Yd; omega
  refine (shift_quo _ Y n0 hYp).symm.trans ?_
  have e := congrArg (fun z => z / Y) h.num
  refine (e.symm.trans ?_)
  show (hi * 18446744073709551616 + lo) * 2 ^ s / Y = _
  rw [h.Ys, Nat.mul_div_mul_right _ _ hpos]

theorem Dn.rem {hi lo y s Y y1 y0 u n1 n0 : Nat} (h : Dn hi lo y s Y y1 y0 u n1 n0) :
    ((u * 4294967296 + n1) % Y * 4294967296 + n0) % Y / 2 ^ s = (hi * 18446744073709551616 + lo) % y := by
  have hpos : 0 < 2 ^ s := Nat.pow_pos (by omega)
  have e := congrArg (fun z => z % Y / 2 ^ s) h.num
  have e0 := congrArg (fun z => z / 2 ^ s) (shift_rem (u * 4294967296 + n1) Y n0)
  refine e0.symm.trans (e.symm.trans ?_)
  show (hi * 18446744073709551616 + lo) * 2 ^ s % Y / 2 ^ s = _
  rw [h.Ys, Nat.mul_mod_mul_right, Nat.mul_div_cancel _ hpos]

/-- the normalizing itself -/
theorem Dn.make {hi lo y s : Nat} (hs : s ≤ 63) (hy : hi < y) (hlo : lo < 18446744073709551616) (h1 : 9223372036854775808 ≤ y * 2 ^ s) (h2 : y * 2 ^ s < 18446744073709551616) :
    Dn hi lo y s (y * 2 ^ s) (y * 2 ^ s / 4294967296) (y * 2 ^ s % 4294967296) (hi * 2 ^ s + lo / 2 ^ (64 - s)) ((lo * 2 ^ s) % 18446744073709551616 / 4294967296) ((lo * 2 ^ s) % 18446744073709551616 % 4294967296) := by
  have hpos : 0 < 2 ^ s := Nat.pow_pos (by omega)
  have hpp : 2 ^ s * 2 ^ (64 - s) = 18446744073709551616 := by rw [← Nat.pow_add, show s + (64 - s) = 64 from by omega]
  have hq : lo / 2 ^ (64 - s) < 2 ^ s := by
    rw [Nat.div_lt_iff_lt_mul (Nat.pow_pos (by omega)), hpp]; exact hlo
  have hm : (hi + 1) * 2 ^ s ≤ y * 2 ^ s := Nat.mul_le_mul_right _ hy
  have hm1 : (lo * 2 ^ s) % 18446744073709551616 = lo * 2 ^ s - 18446744073709551616 * (lo / 2 ^ (64 - s)) := by
    have e : lo * 2 ^ s / 18446744073709551616 = lo / 2 ^ (64 - s) := by
      rw [← hpp, Nat.mul_comm (2 ^ s), Nat.mul_div_mul_right _ _ hpos]
    have := Nat.div_add_mod (lo * 2 ^ s) 18446744073709551616
    rw [e] at this
    omega
  have hle : 18446744073709551616 * (lo / 2 ^ (64 - s)) ≤ lo * 2 ^ s := by
    rw [← hpp, Nat.mul_assoc, Nat.mul_comm lo]
    exact Nat.mul_le_mul_left _ (Nat.mul_div_le _ _)
  refine ⟨rfl, by omega, by omega, by omega, by omega, ?_, by omega, by omega, ?_⟩
  · rw [Nat.add_mul] at hm; omega
  · rw [Nat.add_mul, Nat.mul_right_comm]
    generalize lo / 2 ^ (64 - s) = a at *
    generalize hi * 2 ^ s = b at *
    generalize lo * 2 ^ s = c at *
    omega

end Go.Proofs.Ytlchmaiflcnaoaa.Ar

namespace Go.Proofs.Ytlchmaiflcnaoaa
open Go.RowKit

theorem ret_int {k : IntKind} {a b : Int} (h : a = b) : Ending.returned (.int k a) = .returned (.int k b) := by rw [h]
theorem hide {p : Prop} (h : p) : Hid p := h

/-- the number of a list of words, the least first -/
def wv : List Nat → Nat
  | [] => 0
  | d :: r => d + 4294967296 * wv r

/-- more words than any number here takes -/
def limW : Nat := 1000
def lim : Nat := 4294967296 ^ limW

/-- no nought at the end -/
def Norm (l : List Nat) : Prop := ∀ d, l.getLast? = some d → d ≠ 0

/-- a slice of words in memory -/
structure Wds (w : World) (A : Option Addr) (n c : Nat) (l : List Nat) : Prop where
  len : l.length = n
  cap : n ≤ c
  small : ∀ j d : Nat, l[j]? = some d → d < 4294967296
  cell : ∀ j d : Nat, l[j]? = some d → ∃ ad cs fr, A = some ad ∧ w.heap[ad.block]? = some (.cells cs 108 fr) ∧ w.cell? (ad.add j) = some (.int .u32 d)
  nil : A = none → c = 0

/-- a slice value that is a whole number's words -/
def NatAt (w : World) (v : Value) (x : Nat) : Prop := ∃ A n c l, v = .slice A n c ∧ Wds w A n c l ∧ Norm l ∧ wv l = x

/-- block g is an Int's struct -/
def IntBlk (w : World) (g : Nat) : Prop := ∃ a b, w.heap[g]? = some (.cells #[a, b] 58 (0, 0))
/-- .. and holds X -/
def IntAt (w : World) (g : Nat) (X : Int) : Prop := ∃ neg v, w.heap[g]? = some (.cells #[.bool neg, v] 58 (0, 0)) ∧ NatAt w v X.natAbs ∧ (neg = true ↔ X < 0)

/-- a call's word on a function that hands back a whole number's words -/
def RetNat (w : World) (x : Nat) : Ending → World → Prop := fun e w' => ∃ v, e = .returned v ∧ NatAt w' v x ∧ Below w.heap.size w w'

section
variable {w w' : World}
theorem heap_lt {g : Nat} {o : Obj} (h : w.heap[g]? = some o) : g < w.heap.size := by
  rcases Nat.lt_or_ge g w.heap.size with hlt | hge
  · exact hlt
  · rw [Array.getElem?_eq_none hge] at h; cases h

/-- all blocks of words are as they were -/
def WordsKept (w w' : World) : Prop := ∀ (g : Nat) (cs : Array Value) (fr : Nat × Nat), w.heap[g]? = some (Obj.cells cs 108 fr) → w'.heap[g]? = w.heap[g]?

theorem Wds.kept {A : Option Addr} {n c : Nat} {l : List Nat} (h : Wds w A n c l) (k : WordsKept w w') : Wds w' A n c l :=
  ⟨h.len, h.cap, h.small, fun j d hd => by
    obtain ⟨ad, cs, fr, e, hb, hc⟩ := h.cell j d hd
    have hk := k _ _ _ hb
    exact ⟨ad, cs, fr, e, hk.trans hb, (World.cell?_of_block (w := w) (by
      have : (ad.add j).block = ad.block := by unfold Addr.add; split <;> rfl
      rw [this]; exact hk)).trans hc⟩, h.nil⟩
theorem NatAt.kept {v : Value} {x : Nat} (h : NatAt w v x) (k : WordsKept w w') : NatAt w' v x := by
  obtain ⟨A, n, c, l, e, hw, hn, hx⟩ := h
  exact ⟨A, n, c, l, e, hw.kept k, hn, hx⟩
theorem WordsKept.refl : WordsKept w w := fun _ _ _ _ => rfl
theorem WordsKept.of_below (h : Below w.heap.size w w') : WordsKept w w' := fun g _ _ hg => h.block g (heap_lt hg)
theorem WordsKept.of_grown {g : Nat} (h : w.grownBy w' (some g)) (hb : IntBlk w g) : WordsKept w w' := fun k cs fr hk => h.block k (heap_lt hk) (by
  intro e
  injection e with e
  subst e
  obtain ⟨a, b, hb⟩ := hb
  rw [hb] at hk
  injection hk with hk
  injection hk with _ ht
  cases ht)

theorem NatAt.below {v : Value} {x : Nat} (h : NatAt w v x) (k : Below w.heap.size w w') : NatAt w' v x := h.kept (.of_below k)
theorem IntAt.blk {g : Nat} {X : Int} (h : IntAt w g X) : IntBlk w g := by
  obtain ⟨n, v, hg, _⟩ := h
  exact ⟨_, _, hg⟩
theorem IntBlk.lt {g : Nat} (h : IntBlk w g) : g < w.heap.size := by
  obtain ⟨_, _, h⟩ := h
  exact heap_lt h
theorem IntAt.lt {g : Nat} {X : Int} (h : IntAt w g X) : g < w.heap.size := h.blk.lt
theorem IntBlk.below {g : Nat} (h : IntBlk w g) (k : Below w.heap.size w w') : IntBlk w' g := by
  have hl := h.lt
  obtain ⟨a, b, h⟩ := h
  exact ⟨a, b, (k.block g hl).trans h⟩
theorem IntAt.below {g : Nat} {X : Int} (h : IntAt w g X) (k : Below w.heap.size w w') : IntAt w' g X := by
  have hl := h.lt
  obtain ⟨n, v, hg, hn, hs⟩ := h
  exact ⟨n, v, (k.block g hl).trans hg, hn.below k, hs⟩
theorem IntBlk.grown {g f : Nat} (h : IntBlk w g) (k : w.grownBy w' (some f)) (hne : g ≠ f) : IntBlk w' g := by
  have hl := h.lt
  obtain ⟨a, b, h⟩ := h
  exact ⟨a, b, (k.block g hl (by intro e; injection e with e; exact hne e)).trans h⟩
theorem IntAt.grown {g f : Nat} {X : Int} (h : IntAt w g X) (k : w.grownBy w' (some f)) (hf : IntBlk w f) (hne : g ≠ f) : IntAt w' g X := by
  have hl := h.lt
  obtain ⟨n, v, hg, hn, hs⟩ := h
  exact ⟨n, v, (k.block g hl (by intro e; injection e with e; exact hne e)).trans hg, hn.kept (.of_grown k hf), hs⟩
theorem grown_of_below (g : Option Nat) (k : Below w.heap.size w w') : w.grownBy w' g := ⟨k.os, k.tape, k.output, k.size, fun i hi _ => k.block i hi⟩
theorem below_drewN {B : Nat} {a : World} (h : Below B a w) (n : Nat) : Below B a (w.drewN n) := ⟨h.os, h.tape, h.output, h.size, h.block⟩
theorem below_of_grown {B : Nat} {a : World} {g : Nat} (h : Below B a w) (k : w.grownBy w' (some g)) (hB : B ≤ w.heap.size) (hg : B ≤ g) : Below B a w' :=
  h.grown k hB fun k' e => by injection e with e; omega
theorem IntAt.drewN {g : Nat} {X : Int} (h : IntAt w g X) (n : Nat) : IntAt (w.drewN n) g X := h.below (below_drewN (Below.refl _ _) n)
theorem NatAt.drewN {v : Value} {x : Nat} (h : NatAt w v x) (n : Nat) : NatAt (w.drewN n) v x := h.below (below_drewN (Below.refl _ _) n)
end

/-- a slice of ints that lies below block B -/
structure Ints (w : World) (B : Nat) (A : Option Addr) (l : List Int) : Prop where
  cell : ∀ j v, l[j]? = some v → ∃ ad, A = some ad ∧ ad.block < B ∧ w.cell? (ad.add j) = some (.int .i64 v)
theorem Ints.at_ {w : World} {B : Nat} {A : Option Addr} {l : List Int} (h : Ints w B A l) {k : Nat} (hk : k < l.length) :
    ∃ ad v, A = some ad ∧ l[k]? = some v ∧ ad.block < B ∧ w.cell? (ad.add k) = some (.int .i64 v) := by
  obtain ⟨ad, e, hb, hc⟩ := h.cell k l[k] (List.getElem?_eq_getElem hk)
  exact ⟨ad, _, e, List.getElem?_eq_getElem hk, hb, hc⟩
theorem addr_zero (a : Addr) : a.add 0 = a := by unfold Addr.add; rw [if_pos rfl]
theorem addr_pos (a : Addr) (k : Nat) (h : 0 < k) : a.add k = ⟨a.block, a.off + k, none⟩ := by unfold Addr.add; rw [if_neg (by omega)]
theorem add_block (a : Addr) (n : Nat) : (a.add n).block = a.block := by unfold Addr.add; split <;> rfl
theorem Ints.below {w w' : World} {B B' : Nat} {A : Option Addr} {l : List Int} (h : Ints w B A l) (k : Below B' w w') (hB : B ≤ B') : Ints w' B A l :=
  ⟨fun j v hv => by
    obtain ⟨ad, e, hb, hc⟩ := h.cell j v hv
    exact ⟨ad, e, hb, (k.cell (by rw [add_block]; omega)).trans hc⟩⟩
theorem Ints.more {w : World} {B B' : Nat} {A : Option Addr} {l : List Int} (h : Ints w B A l) (hB : B ≤ B') : Ints w B' A l :=
  ⟨fun j v hv => by
    obtain ⟨ad, e, hb, hc⟩ := h.cell j v hv
    exact ⟨ad, e, by omega, hc⟩⟩
theorem Ints.of_block {w : World} {g : Nat} {cs : Array Value} {T : TypeId} {fr : Nat × Nat} {l : List Int} (h : w.heap[g]? = some (.cells cs T fr)) (hc : cs.toList = l.map (Value.int .i64)) : Ints w (g + 1) (some ⟨g, 0, none⟩) l :=
  ⟨fun j v hv => ⟨_, rfl, Nat.lt_succ_self _, by
    have e : (⟨g, 0, none⟩ : Addr).add j = ⟨g, j, none⟩ := by
      unfold Addr.add
      split
      · rename_i h0; subst h0; rfl
      · simp
    rw [e]
    have hj : cs[j]? = some (.int .i64 v) := by
      rw [← Array.getElem?_toList, hc, List.getElem?_map, hv]; rfl
    simp [World.cell?, h, hj]⟩⟩

theorem wrap_u64_nat (a : Nat) (ha : a < 18446744073709551616) : IntKind.u64.wrap (a : Int) = (a : Int) := by rw [IntKind.wrap_u64]; omega
theorem bits_mask32 (a : Nat) (ha : a < 18446744073709551616) : bits .and .u64 (a : Int) 4294967295 = ((a % 4294967296 : Nat) : Int) := by
  have h := bits_and_u64_nat a 4294967295 ha (by omega)
  have e : a &&& 4294967295 = a % 4294967296 := Nat.and_two_pow_sub_one_eq_mod a 32
  rw [e] at h
  exact h

theorem wrap_shl (y s : Nat) (h : y * 2 ^ s < 18446744073709551616) : IntKind.u64.wrap ((y : Int) * 2 ^ s) = ((y * 2 ^ s : Nat) : Int) := by
  have e : ((y : Int) * 2 ^ s) = ((y * 2 ^ s : Nat) : Int) := by rw [Int.natCast_mul, Int.natCast_pow]; rfl
  rw [e]; exact wrap_u64_nat _ h
theorem wrap_shl_any (y s : Nat) : IntKind.u64.wrap ((y : Int) * 2 ^ s) = ((y * 2 ^ s % 18446744073709551616 : Nat) : Int) := by
  have e : ((y : Int) * 2 ^ s) = ((y * 2 ^ s : Nat) : Int) := by rw [Int.natCast_mul, Int.natCast_pow]; rfl
  rw [e, IntKind.wrap_u64]; omega

theorem bcell {W w1 : World} (hb : Below W.heap.size W w1) : (∀ b o, b < W.heap.size → w1.cell? ⟨b, o, none⟩ = W.cell? ⟨b, o, none⟩) ∧ (∀ b o, b < W.heap.size → w1.frozen? ⟨b, o, none⟩ = W.frozen? ⟨b, o, none⟩) :=
  ⟨fun b o h => hb.cell (p := ⟨b, o, none⟩) h, fun b o h => hb.frozen (p := ⟨b, o, none⟩) h⟩

end Go.Proofs.Ytlchmaiflcnaoaa

namespace Go.Proofs.Ytlchmaiflcnaoaa
open Go.RowKit

theorem tmod_fix (a m : Int) (hm : 0 < m) : (if a.tmod m < 0 then a.tmod m + m else a.tmod m) = a % m := by
  have h1 := Int.tmod_eq_emod (a := a) (b := m)
  have h2 := Int.emod_nonneg a (b := m) (by omega)
  have h3 := Int.emod_lt_of_pos a hm
  rw [h1]
  split <;> split <;> omega
theorem tmod_neg_fix {a m : Int} (hm : 0 < m) (h : a.tmod m < 0) : a.tmod m + m = a % m := by
  rw [← tmod_fix a m hm, if_pos h]
theorem tmod_pos_fix {a m : Int} (hm : 0 < m) (h : 0 ≤ a.tmod m) : a.tmod m = a % m := by
  rw [← tmod_fix a m hm, if_neg (by omega)]

set_option maxRecDepth 100000 in
set_option maxHeartbeats 400000 in
theorem mod_any (a m : Int) (w : World) (hm : 0 < m) (hm2 : m ≤ 9223372036854775807) (_ha : -9223372036854775808 ≤ a) (_ha2 : a ≤ 9223372036854775807) :
    Calls Try.prog 79 #[.int .i64 a, .int .i64 m] w fun e w' => e = .returned (.int .i64 (a % m)) ∧ w = w' := by
  have h1 := Int.lt_tmod_of_pos a hm
  have h2 := Int.tmod_lt_of_pos a hm
  go_enter Try.func79, Try.ntmps79
  go_wp2
  · go_ret
    exact ⟨ret_int (tmod_neg_fix hm (by assumption)), rfl⟩
  · go_ret
    exact ⟨ret_int (tmod_pos_fix hm (by assumption)), rfl⟩

/-- what whole.Ok says -/
def okB (n : Int) : Bool := decide (-1000000000000000000 ≤ n ∧ n ≤ 1000000000000000000)

set_option maxRecDepth 100000 in
set_option maxHeartbeats 400000 in
theorem ok_yes (n : Int) (w : World) (h : okB n = true) :
    Calls Try.prog 84 #[.int .i64 n] w fun e w' => e = .returned (.bool true) ∧ w = w' := by
  have h1 : -1000000000000000000 ≤ n := by unfold okB at h; simp at h; omega
  have h2 : n ≤ 1000000000000000000 := by unfold okB at h; simp at h; omega
  clear h
  go_enter Try.func84, Try.ntmps84
  go_wp2
  go_ret
  exact ⟨rfl, rfl⟩

set_option maxRecDepth 100000 in
set_option maxHeartbeats 400000 in
theorem ok_no (n : Int) (w : World) (h : okB n = false) :
    Calls Try.prog 84 #[.int .i64 n] w fun e w' => e = .returned (.bool false) ∧ w = w' := by
  have h1 : n < -1000000000000000000 ∨ 1000000000000000000 < n := by unfold okB at h; simp at h; omega
  clear h
  rcases h1 with h1 | h1
  · have h2 : decide (-1000000000000000000 ≤ n) = false := by simp; omega
    go_enter Try.func84, Try.ntmps84
    go_wp2
    go_ret
    exact ⟨rfl, rfl⟩
  · have h2 : -1000000000000000000 ≤ n := by omega
    have h3 : decide (n ≤ 1000000000000000000) = false := by simp; omega
    go_enter Try.func84, Try.ntmps84
    go_wp2
    go_ret
    exact ⟨by simp, rfl⟩

theorem ok_any (n : Int) (w : World) :
    Calls Try.prog 84 #[.int .i64 n] w fun e w' => e = .returned (.bool (okB n)) ∧ w = w' := by
  cases h : okB n
  · exact ok_no n w h
  · exact ok_yes n w h

set_option maxRecDepth 100000 in
set_option maxHeartbeats 400000 in
theorem fault_any (c n : Int) (w : World) :
    Calls Try.prog 176 #[.int .i64 c, .int .i64 n] w fun e w' => e = .returned (.agg #[.int .i64 c, .int .i64 n]) ∧ Below w.heap.size w w' := by
  go_enter Try.func176, Try.ntmps176
  go_wp2
  exact bodyPost_ret (v := .agg #[.int .i64 c, .int .i64 n]) (by simp [results, Try.results176, go_sem]) rfl ⟨rfl, (Below.refl _ _).alloc (Nat.le_refl _) _⟩

set_option maxRecDepth 100000 in
set_option maxHeartbeats 400000 in
theorem divisor_any (a b : Int) (w : World) (ha : -9223372036854775807 ≤ a) (ha2 : a ≤ 9223372036854775807) (hb : -9223372036854775807 ≤ b) (hb2 : b ≤ 9223372036854775807) :
    Calls Try.prog 56 #[.int .i64 a, .int .i64 b] w fun e w' => e = .returned (.int .i64 (Int.gcd a b)) ∧ ∃ n, w' = w.drewN n := by
  go_enter Try.func56, Try.ntmps56
  go_wp2
  go_loopw [0, 1] (fun x y wr => ∃ (p q : Int) (n : Nat), -9223372036854775807 ≤ p ∧ p ≤ 9223372036854775807 ∧ -9223372036854775807 ≤ q ∧ q ≤ 9223372036854775807 ∧ Int.gcd p q = Int.gcd a b ∧ x = .int .i64 p ∧ y = .int .i64 q ∧ wr = w.drewN n) (fun _ y _ => (intOf y).natAbs)
  case atStart => exact ⟨a, b, 0, by omega, by omega, by omega, by omega, rfl, rfl, rfl, rfl⟩
  case round =>
    obtain ⟨p, q, n, hp1, hp2, hq1, hq2, hg, rfl, rfl, rfl⟩ := hrel
    have HG := Lib.hid hg
    clear hg
    by_cases hq : q = 0
    · subst hq
      have hg := HG.out
      rw [Int.gcd_zero_right] at hg
      have HH := Lib.hid hg
      clear hg
      go_wp2
      · go_ret
        exact ⟨ret_int (by have := HH.out; omega), n, rfl⟩
      · go_ret
        exact ⟨ret_int (by have := HH.out; omega), n, rfl⟩
    · have hq' : (q != 0) = true := by simpa using hq
      have hlt := Int.natAbs_tmod p q
      have hlt2 := Nat.mod_lt p.natAbs (y := q.natAbs) (by omega)
      have HL : Hid ((p.tmod q).natAbs < q.natAbs) := by unfold Hid; omega
      have hgt : Hid (Int.gcd q (p.tmod q) = Int.gcd a b) := by unfold Hid; rw [Ar.gcd_tmod]; exact HG.out
      clear hlt hlt2
      go_wp2
      go_quiet (fail)
      go_wp2
      go_roundw
      case rel => exact ⟨q, p.tmod q, n + nq, hq1, hq2, by have := HL.out; omega, by have := HL.out; omega, hgt.out, rfl, rfl, World.drewN_drewN _ _ _⟩
      case measure => simpa [intOf] using HL.out
end Go.Proofs.Ytlchmaiflcnaoaa

namespace Go.Proofs.Ytlchmaiflcnaoaa
open Go.RowKit

/-- a fault's value -/
def fv (f : Int × Int) : Value := .agg #[.int .i64 f.1, .int .i64 f.2]
/-- the fault of the first that is no number -/
def lookK : Nat → List Int → Int × Int
  | _, [] => (0, 0)
  | k, x :: r => if okB x = true then lookK (k + 1) r else (3, k)
def RetFault (w : World) (f : Int × Int) : Ending → World → Prop := fun e w' => e = .returned (fv f) ∧ Below w.heap.size w w'

/-- block g is a fault's cell -/
def FC (w : World) (g : Nat) (a b : Int) : Prop := w.heap[g]? = some (.cells #[.int .i64 a, .int .i64 b] 26 (0, 0))
theorem FC.fresh (w : World) : FC (w.alloc (.cells #[.int .i64 0, .int .i64 0] 26)) w.heap.size 0 0 := by
  show (w.heap.push _)[w.heap.size]? = _
  simp
theorem FC.made (w : World) (x y : Int) : FC (w.alloc (.cells #[.int .i64 x, .int .i64 y] 26)) w.heap.size x y := by
  show (w.heap.push _)[w.heap.size]? = _
  simp
theorem FC.lt {w : World} {g : Nat} {a b : Int} (h : FC w g a b) : g < w.heap.size := heap_lt h
theorem FC.below {w w' : World} {g : Nat} {a b : Int} (h : FC w g a b) (k : Below w.heap.size w w') : FC w' g a b := (k.block g h.lt).trans h
theorem FC.cells {w : World} {g : Nat} {a b : Int} (h : FC w g a b) : w.cell? ⟨g, 0, none⟩ = some (.int .i64 a) ∧ w.cell? ⟨g, 1, none⟩ = some (.int .i64 b) ∧ w.frozen? ⟨g, 0, none⟩ = false ∧ w.frozen? ⟨g, 1, none⟩ = false := by
  unfold FC at h
  exact ⟨by simp [World.cell?, h], by simp [World.cell?, h], by simp [World.frozen?, h], by simp [World.frozen?, h]⟩
theorem FC.set0 {w : World} {g : Nat} {a b : Int} (h : FC w g a b) (x : Int) : FC (w.setCell ⟨g, 0, none⟩ (.int .i64 x)) g x b := by
  unfold FC at h ⊢
  simp [World.setCell, Array.getElem?_modify, h]
theorem FC.set1 {w : World} {g : Nat} {a b : Int} (h : FC w g a b) (x : Int) : FC (w.setCell ⟨g, 1, none⟩ (.int .i64 x)) g a x := by
  unfold FC at h ⊢
  simp [World.setCell, Array.getElem?_modify, h]
theorem FC.put {w : World} {g : Nat} {a b : Int} (h : FC w g a b) (x y : Int) : (w.setCell ⟨g, 0, none⟩ (.int .i64 x)).cell? ⟨g, 0, none⟩ = some (.int .i64 x) ∧ ((w.setCell ⟨g, 0, none⟩ (.int .i64 x)).setCell ⟨g, 1, none⟩ (.int .i64 y)).cell? ⟨g, 1, none⟩ = some (.int .i64 y) :=
  ⟨(h.set0 x).cells.1, ((h.set0 x).set1 y).cells.2.1⟩
theorem below_fault {w w1 : World} {B g : Nat} {u v : Value} (h : Below B w w1) (hg : B ≤ g) : Below B w ((w1.setCell ⟨g, 0, none⟩ u).setCell ⟨g, 1, none⟩ v) := (h.setCell (p := ⟨g, 0, none⟩) hg u).setCell (p := ⟨g, 1, none⟩) hg v
/-- out of a world that began with a fault's cell -/
theorem below_new {w w1 : World} {o : Obj} (h : Below (w.alloc o).heap.size (w.alloc o) w1) : Below w.heap.size w w1 := ((Below.refl _ _).alloc (Nat.le_refl _) o).trans (h.mono (by simp))

theorem lookK_yes {l : List Int} {k : Nat} {x : Int} (hx : l[k]? = some x) (h : okB x = true) : lookK k (l.drop k) = lookK (k + 1) (l.drop (k + 1)) := by
  obtain ⟨hk, rfl⟩ := List.getElem?_eq_some_iff.1 hx
  rw [List.drop_eq_getElem_cons hk, lookK, if_pos h]
theorem lookK_no {l : List Int} {k : Nat} {x : Int} (hx : l[k]? = some x) (h : okB x = false) : lookK k (l.drop k) = (3, (k : Int)) := by
  obtain ⟨hk, rfl⟩ := List.getElem?_eq_some_iff.1 hx
  rw [List.drop_eq_getElem_cons hk, lookK, if_neg (by rw [h]; simp)]
theorem lookK_end {l : List Int} {k : Nat} (h : k = l.length) : lookK k (l.drop k) = (0, 0) := by
  rw [h, List.drop_length, lookK]

set_option maxRecDepth 100000 in
set_option maxHeartbeats 800000 in
theorem look_any (A : Option Addr) (n c : Nat) (l : List Int) (w : World) (hl : l.length = n) (hn : n ≤ 1000000) (h : Ints w w.heap.size A l) :
    Calls Try.prog 147 #[.slice A n c] w (RetFault w (lookK 0 l)) := by
  have HI := hide h
  have HL := hide hl
  clear h hl
  go_enter Try.func147, Try.ntmps147
  go_wp2
  go_loopw [7] (fun x wr => ∃ k : Nat, x = .int .i64 k ∧ k ≤ n ∧ Hid (lookK 0 l = lookK k (l.drop k)) ∧ wr = w.alloc (.cells #[.int .i64 0, .int .i64 0] 26)) (fun x _ => n - (intOf x).toNat)
  case atStart => exact ⟨0, rfl, by omega, rfl, rfl⟩
  case round =>
    obtain ⟨k, rfl, hk, HK, rfl⟩ := hrel
    by_cases hkn : k < n
    · obtain ⟨ad, x, rfl, hx, hab, hac⟩ := HI.out.at_ (k := k) (by rw [HL.out]; exact hkn)
      have c1 : (w.alloc (.cells #[.int .i64 0, .int .i64 0] 26)).cell? (ad.add k) = some (.int .i64 x) := by
        rw [World.cell?_alloc_lt _ _ _ (by rw [add_block]; exact hab)]; exact hac
      have C := fun W => hide (ok_any x W)
      have C2 := fun W => hide (fault_any 3 (k : Int) W)
      have HX := hide hx
      clear hx hac
      cases ho : okB x
      · rw [ho] at C
        have HR := hide (HK.out.trans (lookK_no HX.out ho))
        go_wp2_with fail
        refine (C _).out.mono ?_
        rintro e w1 ⟨rfl, rfl⟩
        go_wp2_with fail
        refine (C2 _).out.mono ?_
        rintro e w1 ⟨rfl, hb⟩
        obtain ⟨d0, d1, f0, f1⟩ := ((FC.fresh w).below hb).cells
        obtain ⟨p0, p1⟩ := ((FC.fresh w).below hb).put 3 (k : Int)
        have HB := hide (below_fault (u := .int .i64 3) (v := .int .i64 (k : Int)) (below_new hb) (Nat.le_refl _))
        clear hb
        go_wp2_with fail
        exact bodyPost_ret (v := fv (3, k)) (by simp [results, Try.results147, go_sem, fv, p0, p1]) rfl ⟨by rw [HR.out], HB.out⟩
      · rw [ho] at C
        have HR := hide (HK.out.trans (lookK_yes HX.out ho))
        go_wp2_with fail
        refine (C _).out.mono ?_
        rintro e w1 ⟨rfl, rfl⟩
        go_wp2_with fail
        exact ⟨⟨k + 1, by simp, by omega, HR, trivial⟩, by simp [intOf]; omega⟩
    · obtain rfl : k = n := by omega
      have HR := hide (HK.out.trans (lookK_end HL.out.symm))
      go_wp2_with fail
      exact bodyPost_ret (v := .agg #[.int .i64 0, .int .i64 0]) (by simp [results, Try.results147, go_sem]) rfl ⟨by rw [HR.out]; rfl, (Below.refl _ _).alloc (Nat.le_refl _) _⟩

theorem refF_any (c n : Int) (w : World) :
    Calls Try.prog 10 #[.int .i64 c, .int .i64 n] w fun e w' => e = .returned (.agg #[.int .i64 c, .int .i64 n]) ∧ Below w.heap.size w w' := by
  go_enter Try.func10, Try.ntmps10
  go_wp2
  exact bodyPost_ret (v := .agg #[.int .i64 c, .int .i64 n]) (by simp [results, Try.results10, go_sem]) rfl ⟨rfl, (Below.refl _ _).alloc (Nat.le_refl _) _⟩

end Go.Proofs.Ytlchmaiflcnaoaa

namespace Go.Proofs.Ytlchmaiflcnaoaa
open Go.RowKit

theorem lookK_cases (k : Nat) (l : List Int) : lookK k l = (0, 0) ∧ (∀ x ∈ l, okB x = true) ∨ ∃ i, lookK k l = (3, i) := by
  induction l generalizing k with
  | nil => exact Or.inl ⟨rfl, by simp⟩
  | cons x r ih =>
    rw [lookK]
    cases h : okB x
    · rw [if_neg (by simp)]; exact Or.inr ⟨k, rfl⟩
    · rw [if_pos rfl]
      rcases ih (k + 1) with ⟨e, hr⟩ | ⟨i, e⟩
      · exact Or.inl ⟨e, fun y hy => by
          rcases List.mem_cons.1 hy with rfl | hy
          · exact h
          · exact hr y hy⟩
      · exact Or.inr ⟨i, e⟩

/-- a fresh slice of ints -/
theorem ints_new (w : World) (l : List Int) (T : TypeId) : Ints (w.alloc (.cells (l.map (Value.int .i64)).toArray T)) (w.alloc (.cells (l.map (Value.int .i64)).toArray T)).heap.size (some ⟨w.heap.size, 0, none⟩) l := by
  have h : (w.alloc (.cells (l.map (Value.int .i64)).toArray T)).heap[w.heap.size]? = some (.cells (l.map (Value.int .i64)).toArray T (0, 0)) := by
    show (w.heap.push _)[w.heap.size]? = _
    simp
  exact (Ints.of_block h (by simp)).more (by simp)

theorem ok_bounds {x : Int} (h : okB x = true) : -1000000000000000000 ≤ x ∧ x ≤ 1000000000000000000 := by
  unfold okB at h; simpa using h

theorem below_new2 {w w1 : World} {o o2 : Obj} (h : Below ((w.alloc o).alloc o2).heap.size ((w.alloc o).alloc o2) w1) : Below (w.alloc o).heap.size (w.alloc o) w1 := below_new h

theorem divisor_below (a b : Int) (w : World) (ha : -9223372036854775807 ≤ a) (ha2 : a ≤ 9223372036854775807) (hb : -9223372036854775807 ≤ b) (hb2 : b ≤ 9223372036854775807) :
    Calls Try.prog 56 #[.int .i64 a, .int .i64 b] w fun e w' => e = .returned (.int .i64 (Int.gcd a b)) ∧ Below w.heap.size w w' := by
  refine (divisor_any a b w ha ha2 hb hb2).mono ?_
  rintro e w2 ⟨rfl, n, rfl⟩
  exact ⟨rfl, below_drewN (Below.refl _ _) n⟩

def RetGcd (w : World) (a b : Int) : Ending → World → Prop := fun e w' => ∃ d : Int, e = .returned (.tuple #[.int .i64 d, fv (lookK 0 [a, b])]) ∧ ((lookK 0 [a, b]).1 = 0 → d = Int.gcd a b) ∧ ((lookK 0 [a, b]).1 ≠ 0 → d = 0) ∧ Below w.heap.size w w'

end Go.Proofs.Ytlchmaiflcnaoaa

namespace Go.Proofs.Ytlchmaiflcnaoaa
open Go.RowKit

theorem gcd_step1 (p q : Nat) : Nat.gcd (p % q) q = Nat.gcd p q := by rw [← Nat.gcd_rec, Nat.gcd_comm]
theorem gcd_step2 (p q : Nat) : Nat.gcd p (q % p) = Nat.gcd p q := by rw [Nat.gcd_comm, ← Nat.gcd_rec]
theorem tmod_nat (p q : Nat) : ((p : Int)).tmod (q : Int) = ((p % q : Nat) : Int) := by
  rw [Int.tmod_eq_emod_of_nonneg (by omega)]; rfl

theorem ret_i64 {a b : Int} (h : a = b) : Value.int .i64 a = .int .i64 b := by rw [h]

set_option maxRecDepth 100000 in
set_option maxHeartbeats 800000 in
theorem refGcd_any (a b : Int) (w : World) (ha : -1000000000000000000 ≤ a) (ha2 : a ≤ 1000000000000000000) (hb : -1000000000000000000 ≤ b) (hb2 : b ≤ 1000000000000000000) :
    Calls Try.prog 29 #[.int .i64 a, .int .i64 b] w fun e w' => e = .returned (.int .i64 (Int.gcd a b)) ∧ w' = w := by
  have HG : Hid (Int.gcd a b = Nat.gcd a.natAbs b.natAbs) := rfl
  have e1 : IntKind.i64.wrap (-a) = -a := by rw [IntKind.wrap_i64]; omega
  have e2 : IntKind.i64.wrap (-b) = -b := by rw [IntKind.wrap_i64]; omega
  go_enter Try.func29, Try.ntmps29
  go_upto_if 6 with (fail)
  go_cut [0] (fun x wx => x = .int .i64 (a.natAbs : Int) ∧ wx = w)
  case first =>
    by_cases h : a < 0
    · go_wp2_with fail
      go_meet
      exact ⟨ret_i64 (by omega), rfl⟩
    · have h1 : decide (a < 0) = false := by simpa using h
      go_wp2_with fail
      go_meet
      exact ⟨ret_i64 (by omega), rfl⟩
  case rest =>
    obtain ⟨rfl, rfl⟩ := hcut
    obtain ⟨x, hx⟩ : ∃ x, a.natAbs = x := ⟨_, rfl⟩
    have hx2 : x ≤ 1000000000000000000 := by omega
    rw [hx] at HG ⊢
    clear ha ha2 e1 hx
    go_upto_if 10 with (fail)
    go_cut [1] (fun y wy => y = .int .i64 (b.natAbs : Int) ∧ wy = wc)
    case first =>
      by_cases h : b < 0
      · go_wp2_with fail
        go_meet
        exact ⟨ret_i64 (by omega), rfl⟩
      · have h1 : decide (b < 0) = false := by simpa using h
        go_wp2_with fail
        go_meet
        exact ⟨ret_i64 (by omega), rfl⟩
    case rest =>
      obtain ⟨rfl, rfl⟩ := hcut
      obtain ⟨y, hy⟩ : ∃ y, b.natAbs = y := ⟨_, rfl⟩
      have hy2 : y ≤ 1000000000000000000 := by omega
      rw [hy] at HG ⊢
      clear hb hb2 e2 hy
      go_wp2_with fail
      go_loop [0, 1] (fun s t => ∃ p q : Nat, s = .int .i64 p ∧ t = .int .i64 q ∧ p ≤ 1000000000000000000 ∧ q ≤ 1000000000000000000 ∧ Hid (Nat.gcd p q = Nat.gcd x y)) (fun s t => (intOf s).toNat + (intOf t).toNat)
      case atStart => exact ⟨x, y, rfl, rfl, hx2, hy2, rfl⟩
      case round =>
        obtain ⟨p, q, rfl, rfl, hp, hq, HE⟩ := hrel
        clear hx2 hy2
        by_cases hp0 : p = 0
        · subst hp0
          have HR : Hid (Int.gcd a b = q) := by unfold Hid; rw [HG.out, ← HE.out, Nat.gcd_zero_left]
          go_wp2_with fail
          go_ret
          exact ⟨by rw [HR.out]; rfl, rfl⟩
        · have d1 : decide (0 < p) = true := by simp; omega
          by_cases hq0 : q = 0
          · subst hq0
            have HR : Hid (Int.gcd a b = p) := by unfold Hid; rw [HG.out, ← HE.out, Nat.gcd_zero_right]
            clear hp0
            go_wp2_with fail
            go_ret
            exact ⟨by rw [HR.out]; rfl, rfl⟩
          · have d2 : decide (0 < q) = true := by simp; omega
            by_cases hqp : q < p
            · have d3 : decide (q < p) = true := by simpa using hqp
              have e3 := tmod_nat p q
              have HE2 : Hid (Nat.gcd (p % q) q = Nat.gcd x y) := by unfold Hid; rw [gcd_step1]; exact HE.out
              have hm := Nat.mod_lt p (y := q) (by omega)
              have HM := hide hm
              have hq1 : ((q : Int) == 0) = false := by simpa using hq0
              obtain ⟨z, hz⟩ : ∃ z, p % q = z := ⟨_, rfl⟩
              rw [hz] at HE2 HM e3
              clear hp0 hm hz HE
              go_wp2_with fail
              exact ⟨⟨z, q, rfl, rfl, by have := HM.out; omega, hq, HE2⟩, by have := HM.out; simp [intOf]; omega⟩
            · have d3 : decide (q < p) = false := by simpa using hqp
              have e3 := tmod_nat q p
              have HE2 : Hid (Nat.gcd p (q % p) = Nat.gcd x y) := by unfold Hid; rw [gcd_step2]; exact HE.out
              have hm := Nat.mod_lt q (y := p) (by omega)
              have HM := hide hm
              have hq1 : ((p : Int) == 0) = false := by simpa using hp0
              obtain ⟨z, hz⟩ : ∃ z, q % p = z := ⟨_, rfl⟩
              rw [hz] at HE2 HM e3
              clear hq0 hm hz HE
              go_wp2_with fail
              exact ⟨⟨p, z, rfl, rfl, hp, by have := HM.out; omega, HE2⟩, by have := HM.out; simp [intOf]; omega⟩

theorem size_any (a : Int) (w : World) (ha : -1000000000000000000 ≤ a) (ha2 : a ≤ 1000000000000000000) :
    Calls Try.prog 48 #[.int .i64 a] w fun e w' => e = .returned (.int .i64 (a.natAbs : Int)) ∧ w' = w := by
  have e1 : IntKind.i64.wrap (-a) = -a := by rw [IntKind.wrap_i64]; omega
  by_cases h : a < 0
  · have HE : Hid ((a.natAbs : Int) = -a) := by unfold Hid; omega
    go_enter Try.func48, Try.ntmps48
    go_wp2_with fail
    go_ret
    exact ⟨by rw [HE.out]; rfl, rfl⟩
  · have HE : Hid ((a.natAbs : Int) = a) := by unfold Hid; omega
    have h1 : decide (a < 0) = false := by simpa using h
    clear h
    go_enter Try.func48, Try.ntmps48
    go_wp2_with fail
    go_ret
    exact ⟨by rw [HE.out]; rfl, rfl⟩
end Go.Proofs.Ytlchmaiflcnaoaa

namespace Go.Proofs.Ytlchmaiflcnaoaa

/-- the form with a and b of discriminant d is one of the reduced ones (d below 0) -/
def okF (d a b : Int) : Bool := decide ((4 * a ∣ b * b - d) ∧ -a < b ∧ b ≤ a ∧ a ≤ (b * b - d) / (4 * a) ∧ ¬ ((b * b - d) / (4 * a) = a ∧ b < 0) ∧ Int.gcd a (Int.gcd b ((b * b - d) / (4 * a))) = 1)
def frm (d a b : Int) : Int × Int × Int := (a, b, (b * b - d) / (4 * a))
/-- of one a: b from -a on, j of them -/
def rowF (d a : Int) : Nat → List (Int × Int × Int)
  | 0 => []
  | j + 1 => rowF d a j ++ if okF d a (-a + j) = true then [frm d a (-a + j)] else []
/-- all of a from 1 on, n of them -/
def allF (d : Int) : Nat → List (Int × Int × Int)
  | 0 => []
  | n + 1 => allF d n ++ rowF d ((n : Int) + 1) (2 * (n + 1) + 1)

theorem okF_first (d a : Int) : okF d a (-a) = false := by
  unfold okF; rw [decide_eq_false_iff_not]; omega
theorem rowF_one (d a : Int) : rowF d a 1 = [] := by
  rw [rowF, rowF, show -a + ((0 : Nat) : Int) = -a from by omega, okF_first]; rfl
theorem rowF_len (d a : Int) (j : Nat) : (rowF d a j).length ≤ j := by
  induction j with
  | zero => simp [rowF]
  | succ j ih => rw [rowF, List.length_append]; split <;> simp <;> omega
theorem allF_len (d : Int) (n : Nat) : (allF d n).length ≤ n * (2 * n + 1) := by
  induction n with
  | zero => simp [allF]
  | succ n ih =>
    rw [allF, List.length_append]
    have := rowF_len d ((n : Int) + 1) (2 * (n + 1) + 1)
    have h2 : (n + 1) * (2 * (n + 1) + 1) = n * (2 * n + 1) + (4 * n + 3) := by grind
    omega
end Go.Proofs.Ytlchmaiflcnaoaa

namespace Go.Proofs.Ytlchmaiflcnaoaa
open Go.RowKit

/-- a form's value -/
def fmv (f : Int × Int × Int) : Value := .agg #[.int .i64 f.1, .int .i64 f.2.1, .int .i64 f.2.2]
/-- block g holds a form -/
def MC (w : World) (g : Nat) (a b c : Int) : Prop := w.heap[g]? = some (.cells #[.int .i64 a, .int .i64 b, .int .i64 c] 23 (0, 0))
theorem MC.made (w : World) (a b c : Int) : MC (w.alloc (.cells #[.int .i64 a, .int .i64 b, .int .i64 c] 23)) w.heap.size a b c := by
  show (w.heap.push _)[w.heap.size]? = _
  simp
theorem MC.lt {w : World} {g : Nat} {a b c : Int} (h : MC w g a b c) : g < w.heap.size := heap_lt h
theorem MC.below {w w' : World} {g : Nat} {a b c : Int} (h : MC w g a b c) (k : Below w.heap.size w w') : MC w' g a b c := (k.block g h.lt).trans h
theorem MC.cells {w : World} {g : Nat} {a b c : Int} (h : MC w g a b c) : w.cell? ⟨g, 0, none⟩ = some (.int .i64 a) ∧ w.cell? ⟨g, 1, none⟩ = some (.int .i64 b) ∧ w.cell? ⟨g, 2, none⟩ = some (.int .i64 c) := by
  unfold MC at h
  exact ⟨by simp [World.cell?, h], by simp [World.cell?, h], by simp [World.cell?, h]⟩

set_option maxRecDepth 100000 in
set_option maxHeartbeats 400000 in
theorem qfault_any (c n : Int) (w : World) :
    Calls Try.prog 37 #[.int .i64 c, .int .i64 n] w fun e w' => e = .returned (.agg #[.int .i64 c, .int .i64 n]) ∧ Below w.heap.size w w' := by
  go_enter Try.func37, Try.ntmps37
  go_wp2
  exact bodyPost_ret (v := .agg #[.int .i64 c, .int .i64 n]) (by simp [results, Try.results37, go_sem]) rfl ⟨rfl, (Below.refl _ _).alloc (Nat.le_refl _) _⟩

theorem abs_mul_le {x y : Int} {p q : Nat} (hx : x.natAbs ≤ p) (hy : y.natAbs ≤ q) : -((p * q : Nat) : Int) ≤ x * y ∧ x * y ≤ ((p * q : Nat) : Int) := by
  have : (x * y).natAbs ≤ p * q := by rw [Int.natAbs_mul]; exact Nat.mul_le_mul hx hy
  omega

theorem disc_bounds {A B C : Int} (hA : A.natAbs ≤ 1000000000) (hB : B.natAbs ≤ 1000000000) (hC : C.natAbs ≤ 1000000000) :
    IntKind.i64.wrap (B * B) = B * B ∧ IntKind.i64.wrap (4 * A) = 4 * A ∧ IntKind.i64.wrap (4 * A * C) = 4 * A * C ∧ IntKind.i64.wrap (B * B - 4 * A * C) = B * B - 4 * A * C ∧ wrap64 (B * B) = B * B ∧ wrap64 (4 * A * C) = 4 * A * C ∧ wrap64 (B * B - 4 * A * C) = B * B - 4 * A * C := by
  have h1 := abs_mul_le hB hB
  have h2 := abs_mul_le (x := 4 * A) (p := 4000000000) (by omega) hC
  simp only [IntKind.wrap_i64]
  unfold wrap64
  omega

set_option maxRecDepth 100000 in
set_option maxHeartbeats 400000 in
theorem disc_any (A B C : Int) (w : World) (hA : A.natAbs ≤ 1000000000) (hB : B.natAbs ≤ 1000000000) (hC : C.natAbs ≤ 1000000000) :
    Calls Try.prog 39 #[.agg #[.int .i64 A, .int .i64 B, .int .i64 C]] w fun e w' => e = .returned (.int .i64 (B * B - 4 * A * C)) ∧ Below w.heap.size w w' := by
  obtain ⟨e1, e2, e3, e4, e5, e6, e7⟩ := disc_bounds hA hB hC
  clear hA hB hC
  go_enter Try.func39, Try.ntmps39
  go_wp2_with fail
  go_ret
  exact ⟨rfl, (Below.refl _ _).alloc (Nat.le_refl _) _⟩

set_option maxRecDepth 100000 in
set_option maxHeartbeats 400000 in
theorem rdisc_any (A B C : Int) (w : World) (hA : A.natAbs ≤ 1000000000) (hB : B.natAbs ≤ 1000000000) (hC : C.natAbs ≤ 1000000000) :
    Calls Try.prog 18 #[.agg #[.int .i64 A, .int .i64 B, .int .i64 C]] w fun e w' => e = .returned (.int .i64 (B * B - 4 * A * C)) ∧ Below w.heap.size w w' := by
  obtain ⟨e1, e2, e3, e4, e5, e6, e7⟩ := disc_bounds hA hB hC
  clear hA hB hC
  go_enter Try.func18, Try.ntmps18
  go_wp2_with fail
  go_ret
  exact ⟨rfl, (Below.refl _ _).alloc (Nat.le_refl _) _⟩

/-- the fault of a number that is not small -/
def smallB (n : Int) : Bool := decide (-1000000 ≤ n ∧ n ≤ 1000000)
/-- the fault of the first that is not small -/
def lookS : Nat → List Int → Int × Int
  | _, [] => (0, 0)
  | k, x :: r => if smallB x = true then lookS (k + 1) r else (3, k)
def smallF (A B C : Int) : Int × Int := lookS 0 [A, B, C]
theorem lookS_yes {l : List Int} {k : Nat} {x : Int} (hx : l[k]? = some x) (h : smallB x = true) : lookS k (l.drop k) = lookS (k + 1) (l.drop (k + 1)) := by
  obtain ⟨hk, rfl⟩ := List.getElem?_eq_some_iff.1 hx
  rw [List.drop_eq_getElem_cons hk, lookS, if_pos h]
theorem lookS_no {l : List Int} {k : Nat} {x : Int} (hx : l[k]? = some x) (h : smallB x = false) : lookS k (l.drop k) = (3, (k : Int)) := by
  obtain ⟨hk, rfl⟩ := List.getElem?_eq_some_iff.1 hx
  rw [List.drop_eq_getElem_cons hk, lookS, if_neg (by rw [h]; simp)]
theorem lookS_zero {A B C : Int} (h : lookS 0 [A, B, C] = (0, 0)) : smallB A = true ∧ smallB B = true ∧ smallB C = true := by
  rw [lookS] at h
  split at h
  · rw [lookS] at h
    split at h
    · rw [lookS] at h
      split at h
      · exact ⟨‹_›, ‹_›, ‹_›⟩
      · simp at h
    · simp at h
  · simp at h
/-- a form's fault -/
def formF (A B C : Int) : Int × Int :=
  if (smallF A B C).1 ≠ 0 then smallF A B C else if A < 1 ∨ 0 ≤ B * B - 4 * A * C then (7, 0) else if Int.gcd A (Int.gcd B C) ≠ 1 then (6, 0) else (0, 0)

theorem small_bounds {n : Int} (h : smallB n = true) : -1000000 ≤ n ∧ n ≤ 1000000 := by unfold smallB at h; simpa using h
theorem small_out {n : Int} (h : smallB n = false) : n < -1000000 ∨ 1000000 < n := by unfold smallB at h; simp at h; omega

/-- what Reduced says -/
def redB (A B C : Int) : Bool := decide ((B.natAbs : Int) ≤ A) && decide (A ≤ C) && (decide (0 ≤ B) || (decide (-B ≠ A) && decide (A ≠ C)))

set_option maxRecDepth 100000 in
set_option maxHeartbeats 1600000 in
theorem reduced_any (A B C : Int) (w : World) (hB : -1000000000000 ≤ B) (hB2 : B ≤ 1000000000000) :
    Calls Try.prog 19 #[.agg #[.int .i64 A, .int .i64 B, .int .i64 C]] w fun e w' => e = .returned (.bool (redB A B C)) ∧ Below w.heap.size w w' := by
  have CS := fun W => hide (size_any B W (by omega) (by omega))
  have e1 : IntKind.i64.wrap (-B) = -B := by rw [IntKind.wrap_i64]; omega
  obtain ⟨S, hS⟩ : ∃ S, (B.natAbs : Int) = S := ⟨_, rfl⟩
  have HR : Hid (redB A B C = (decide (S ≤ A) && decide (A ≤ C) && (decide (0 ≤ B) || (decide (-B ≠ A) && decide (A ≠ C))))) := by unfold Hid redB; rw [hS]
  rw [hS] at CS
  clear hS
  by_cases h1 : S ≤ A
  · by_cases h2 : A ≤ C
    · by_cases h3 : 0 ≤ B
      · have HE : Hid (redB A B C = true) := by unfold Hid; rw [HR.out]; simp [h1, h2, h3]
        have q1 : decide (S ≤ A) = true := by simpa using h1
        have q2 : decide (A ≤ C) = true := by simpa using h2
        have q3 : decide (0 ≤ B) = true := by simpa using h3
        clear HR h1 h2 h3 hB hB2
        go_enter Try.func19, Try.ntmps19
        go_wp2_with fail
        go_quiet ((go_at_call 48; exact Calls.quiet_of_same (CS _).out))
        go_wp2_with fail
        go_ret
        exact ⟨by rw [HE.out]; rfl, below_drewN ((Below.refl _ _).alloc (Nat.le_refl _) _) _⟩
      · by_cases h4 : -B = A
        · have HE : Hid (redB A B C = false) := by unfold Hid; rw [HR.out]; simp [h3, h4]
          have q1 : decide (S ≤ A) = true := by simpa using h1
          have q2 : decide (A ≤ C) = true := by simpa using h2
          have q3 : decide (0 ≤ B) = false := by simpa using h3
          have q4 : (-B != A) = false := by simpa using h4
          clear HR h1 h2 h3 h4 hB hB2
          go_enter Try.func19, Try.ntmps19
          go_wp2_with fail
          go_quiet ((go_at_call 48; exact Calls.quiet_of_same (CS _).out))
          go_wp2_with fail
          go_ret
          exact ⟨by rw [HE.out]; rfl, below_drewN ((Below.refl _ _).alloc (Nat.le_refl _) _) _⟩
        · by_cases h5 : A = C
          · have HE : Hid (redB A B C = false) := by unfold Hid; rw [HR.out]; simp [h3, h5]
            have q1 : decide (S ≤ A) = true := by simpa using h1
            have q2 : decide (A ≤ C) = true := by simpa using h2
            have q3 : decide (0 ≤ B) = false := by simpa using h3
            have q4 : (-B != A) = true := by simpa using h4
            have q5 : (A != C) = false := by simpa using h5
            clear HR h1 h2 h3 h4 h5 hB hB2
            go_enter Try.func19, Try.ntmps19
            go_wp2_with fail
            go_quiet ((go_at_call 48; exact Calls.quiet_of_same (CS _).out))
            go_wp2_with fail
            go_ret
            exact ⟨by rw [HE.out]; rfl, below_drewN ((Below.refl _ _).alloc (Nat.le_refl _) _) _⟩
          · have HE : Hid (redB A B C = true) := by unfold Hid; rw [HR.out]; simp [h1, h2, h4, h5]
            have q1 : decide (S ≤ A) = true := by simpa using h1
            have q2 : decide (A ≤ C) = true := by simpa using h2
            have q3 : decide (0 ≤ B) = false := by simpa using h3
            have q4 : (-B != A) = true := by simpa using h4
            have q5 : (A != C) = true := by simpa using h5
            clear HR h1 h2 h3 h4 h5 hB hB2
            go_enter Try.func19, Try.ntmps19
            go_wp2_with fail
            go_quiet ((go_at_call 48; exact Calls.quiet_of_same (CS _).out))
            go_wp2_with fail
            go_ret
            exact ⟨by rw [HE.out]; rfl, below_drewN ((Below.refl _ _).alloc (Nat.le_refl _) _) _⟩
    · have HE : Hid (redB A B C = false) := by unfold Hid; rw [HR.out]; simp [h2]
      have q1 : decide (S ≤ A) = true := by simpa using h1
      have q2 : decide (A ≤ C) = false := by simpa using h2
      clear HR h1 h2 hB hB2
      go_enter Try.func19, Try.ntmps19
      go_wp2_with fail
      go_quiet ((go_at_call 48; exact Calls.quiet_of_same (CS _).out))
      go_wp2_with fail
      go_ret
      exact ⟨by rw [HE.out]; rfl, below_drewN ((Below.refl _ _).alloc (Nat.le_refl _) _) _⟩
  · have HE : Hid (redB A B C = false) := by unfold Hid; rw [HR.out]; simp [h1]
    have q1 : decide (S ≤ A) = false := by simpa using h1
    clear HR h1 hB hB2
    go_enter Try.func19, Try.ntmps19
    go_wp2_with fail
    go_quiet ((go_at_call 48; exact Calls.quiet_of_same (CS _).out))
    go_wp2_with fail
    go_ret
    exact ⟨by rw [HE.out]; rfl, below_drewN ((Below.refl _ _).alloc (Nat.le_refl _) _) _⟩
end Go.Proofs.Ytlchmaiflcnaoaa

namespace Go.Proofs.Ytlchmaiflcnaoaa
/-! numbers u + v sqrt D, as pairs -/
abbrev Z2 := Int × Int
def mulZ (D : Int) (x y : Z2) : Z2 := (x.1 * y.1 + D * x.2 * y.2, x.1 * y.2 + x.2 * y.1)
def addZ (x y : Z2) : Z2 := (x.1 + y.1, x.2 + y.2)
theorem mulZ_comm (D : Int) (x y : Z2) : mulZ D x y = mulZ D y x := by unfold mulZ; ext <;> grind
theorem mulZ_assoc (D : Int) (x y z : Z2) : mulZ D (mulZ D x y) z = mulZ D x (mulZ D y z) := by unfold mulZ; ext <;> grind
theorem mulZ_add (D : Int) (x y z : Z2) : mulZ D x (addZ y z) = addZ (mulZ D x y) (mulZ D x z) := by unfold mulZ addZ; ext <;> grind
theorem add_mulZ (D : Int) (x y z : Z2) : mulZ D (addZ x y) z = addZ (mulZ D x z) (mulZ D y z) := by unfold mulZ addZ; ext <;> grind
def nrm (D : Int) (x : Z2) : Int := x.1 * x.1 - D * x.2 * x.2
theorem nrm_mul (D : Int) (x y : Z2) : nrm D (mulZ D x y) = nrm D x * nrm D y := by unfold nrm mulZ; grind
theorem sq_nn (x : Int) : 0 ≤ x * x := by
  rcases Int.lt_or_le x 0 with h | h
  · have := Int.mul_nonneg_of_nonpos_of_nonpos (Int.le_of_lt h) (Int.le_of_lt h); exact this
  · exact Int.mul_nonneg h h
theorem sq_pos0 {x : Int} (h : x ≠ 0) : 0 < x * x := by
  have h1 := sq_nn x
  have h2 : x * x ≠ 0 := Int.mul_ne_zero h h
  omega
theorem nrm_nn {D : Int} (hD : D < 0) (x : Z2) : 0 ≤ nrm D x := by
  unfold nrm
  have h1 := sq_nn x.1
  have h2 := Int.mul_nonneg (show 0 ≤ -D by omega) (sq_nn x.2)
  have h3 : -D * (x.2 * x.2) = -(D * x.2 * x.2) := by grind
  omega
theorem nrm_zero {D : Int} (hD : D < 0) {x : Z2} (h : nrm D x = 0) : x = (0, 0) := by
  unfold nrm at h
  have h1 := sq_nn x.1
  have h2 := Int.mul_nonneg (show 0 ≤ -D by omega) (sq_nn x.2)
  have h3 : -D * (x.2 * x.2) = -(D * x.2 * x.2) := by grind
  have h4 : x.1 = 0 := by
    apply Classical.byContradiction
    intro hx
    have := sq_pos0 hx
    omega
  have h5 : x.2 = 0 := by
    apply Classical.byContradiction
    intro hx
    have := Int.mul_pos (show 0 < -D by omega) (sq_pos0 hx)
    omega
  exact Prod.ext h4 h5
theorem nrm_pos {D : Int} (hD : D < 0) {x : Z2} (h : x ≠ (0, 0)) : 0 < nrm D x := by
  have h1 := nrm_nn hD x
  have h2 : nrm D x ≠ 0 := fun e => h (nrm_zero hD e)
  omega
theorem mulZ_ne {D : Int} (hD : D < 0) {x y : Z2} (hx : x ≠ (0, 0)) (hy : y ≠ (0, 0)) : mulZ D x y ≠ (0, 0) := by
  intro h
  have h1 := nrm_mul D x y
  rw [h] at h1
  have h2 := Int.mul_pos (nrm_pos hD hx) (nrm_pos hD hy)
  unfold nrm at h1 h2
  simp at h1
  omega

/-- the products of two lattices and their sums -/
inductive Pr (D : Int) (A B : Z2 → Prop) : Z2 → Prop
  | mul {x y : Z2} : A x → B y → Pr D A B (mulZ D x y)
  | add {x y : Z2} : Pr D A B x → Pr D A B y → Pr D A B (addZ x y)
theorem Pr.comm {D : Int} {A B : Z2 → Prop} {z : Z2} (h : Pr D A B z) : Pr D B A z := by
  induction h with
  | mul ha hb => rw [mulZ_comm]; exact .mul hb ha
  | add _ _ h1 h2 => exact .add h1 h2
theorem Pr.push {D : Int} {A B C : Z2 → Prop} {z y : Z2} (h : Pr D A B z) (hc : C y) : Pr D A (Pr D B C) (mulZ D z y) := by
  induction h with
  | mul ha hb => rw [mulZ_assoc]; exact .mul ha (.mul hb hc)
  | add _ _ h1 h2 => rw [add_mulZ]; exact .add h1 h2
theorem Pr.assoc {D : Int} {A B C : Z2 → Prop} {z : Z2} (h : Pr D (Pr D A B) C z) : Pr D A (Pr D B C) z := by
  induction h with
  | mul ha hb => exact ha.push hb
  | add _ _ h1 h2 => exact .add h1 h2
theorem Pr.mono {D : Int} {A A' B B' : Z2 → Prop} (ha : ∀ z, A z → A' z) (hb : ∀ z, B z → B' z) {z : Z2} (h : Pr D A B z) : Pr D A' B' z := by
  induction h with
  | mul h1 h2 => exact .mul (ha _ h1) (hb _ h2)
  | add _ _ h1 h2 => exact .add h1 h2

/-- two lattices that are multiples of one another -/
def Sim (D : Int) (A B : Z2 → Prop) : Prop := ∃ α β : Z2, α ≠ (0, 0) ∧ β ≠ (0, 0) ∧ (∀ z, A z → ∃ w, B w ∧ mulZ D α z = mulZ D β w) ∧ (∀ w, B w → ∃ z, A z ∧ mulZ D α z = mulZ D β w)
theorem Sim.of_eq {D : Int} {A B : Z2 → Prop} (h1 : ∀ z, A z → B z) (h2 : ∀ z, B z → A z) : Sim D A B :=
  ⟨(1, 0), (1, 0), by decide, by decide, fun z hz => ⟨z, h1 z hz, rfl⟩, fun z hz => ⟨z, h2 z hz, rfl⟩⟩
theorem Sim.refl (D : Int) (A : Z2 → Prop) : Sim D A A := Sim.of_eq (fun _ h => h) (fun _ h => h)
theorem Sim.symm {D : Int} {A B : Z2 → Prop} (h : Sim D A B) : Sim D B A := by
  obtain ⟨α, β, h1, h2, h3, h4⟩ := h
  refine ⟨β, α, h2, h1, fun z hz => ?_, fun z hz => ?_⟩
  · obtain ⟨w, hw, e⟩ := h4 z hz; exact ⟨w, hw, e.symm⟩
  · obtain ⟨w, hw, e⟩ := h3 z hz; exact ⟨w, hw, e.symm⟩
theorem Sim.trans {D : Int} (hD : D < 0) {A B C : Z2 → Prop} (h : Sim D A B) (k : Sim D B C) : Sim D A C := by
  obtain ⟨α, β, h1, h2, h3, h4⟩ := h
  obtain ⟨γ, δ, k1, k2, k3, k4⟩ := k
  refine ⟨mulZ D γ α, mulZ D β δ, mulZ_ne hD k1 h1, mulZ_ne hD h2 k2, fun z hz => ?_, fun z hz => ?_⟩
  · obtain ⟨w, hw, e⟩ := h3 z hz
    obtain ⟨v, hv, f⟩ := k3 w hw
    refine ⟨v, hv, ?_⟩
    rw [mulZ_assoc, e, mulZ_assoc, ← f, ← mulZ_assoc, ← mulZ_assoc, mulZ_comm D γ β]
  · obtain ⟨w, hw, f⟩ := k4 z hz
    obtain ⟨v, hv, e⟩ := h4 w hw
    refine ⟨v, hv, ?_⟩
    rw [mulZ_assoc, e, mulZ_assoc, ← f, ← mulZ_assoc, ← mulZ_assoc, mulZ_comm D γ β]
theorem Sim.prod {D : Int} {A A' : Z2 → Prop} (B : Z2 → Prop) (h : Sim D A A') : Sim D (Pr D A B) (Pr D A' B) := by
  obtain ⟨α, β, h1, h2, h3, h4⟩ := h
  refine ⟨α, β, h1, h2, fun z hz => ?_, fun z hz => ?_⟩
  · induction hz with
    | @mul x y ha hb =>
      obtain ⟨w, hw, e⟩ := h3 x ha
      exact ⟨mulZ D w y, .mul hw hb, by rw [← mulZ_assoc, e, mulZ_assoc]⟩
    | add _ _ i1 i2 =>
      obtain ⟨w1, hw1, e1⟩ := i1
      obtain ⟨w2, hw2, e2⟩ := i2
      exact ⟨addZ w1 w2, .add hw1 hw2, by rw [mulZ_add, mulZ_add, e1, e2]⟩
  · induction hz with
    | @mul x y ha hb =>
      obtain ⟨w, hw, e⟩ := h4 x ha
      exact ⟨mulZ D w y, .mul hw hb, by rw [← mulZ_assoc, e, mulZ_assoc]⟩
    | add _ _ i1 i2 =>
      obtain ⟨w1, hw1, e1⟩ := i1
      obtain ⟨w2, hw2, e2⟩ := i2
      exact ⟨addZ w1 w2, .add hw1 hw2, by rw [mulZ_add, mulZ_add, e1, e2]⟩
theorem Sim.comm (D : Int) (A B : Z2 → Prop) : Sim D (Pr D A B) (Pr D B A) := Sim.of_eq (fun _ h => h.comm) (fun _ h => h.comm)
theorem Sim.assoc (D : Int) (A B C : Z2 → Prop) : Sim D (Pr D (Pr D A B) C) (Pr D A (Pr D B C)) :=
  Sim.of_eq (fun _ h => h.assoc) (fun z h => by
    have h1 : Pr D (Pr D C B) A z := (h.comm.mono (fun _ k => k.comm) (fun _ k => k))
    exact (h1.assoc.comm).mono (fun _ k => k.comm) (fun _ k => k))
theorem Sim.prod2 {D : Int} (hD : D < 0) {A A' B B' : Z2 → Prop} (h : Sim D A A') (k : Sim D B B') : Sim D (Pr D A B) (Pr D A' B') :=
  (h.prod B).trans hD (((Sim.comm D A' B).trans hD (k.prod A')).trans hD (Sim.comm D B' A'))

/-- the lattice of a form: 2 a x + (b + sqrt D) y -/
def Lf (a b : Int) : Z2 → Prop := fun z => ∃ x y : Int, z = (2 * a * x + b * y, y)

/-- forms that a turn carries into one another have lattices that are multiples of one another -/
theorem sim_turn {a b c A B p q r s : Int} (hdet : p * s - q * r = 1) (hA : A = a * p * p + b * p * r + c * r * r) (hB : B = 2 * a * p * q + b * (p * s + q * r) + 2 * c * r * s) (ha : a ≠ 0) (hA0 : A ≠ 0) : Sim (b * b - 4 * a * c) (Lf a b) (Lf A B) := by
  have hth : (2 * a * p + b * r, -r) ≠ ((0, 0) : Z2) := by
    intro h
    injection h with h1 h2
    have : r = 0 := by omega
    subst this
    apply hA0
    have h3 : 2 * a * p = 0 := by simpa using h1
    have h4 : p = 0 := by
      rcases Int.mul_eq_zero.1 h3 with h5 | h5
      · omega
      · exact h5
    rw [hA, h4]; simp
  have hb0 : (2 * a, 0) ≠ ((0, 0) : Z2) := by
    intro h
    injection h with h1 _
    omega
  refine ⟨(2 * a * p + b * r, -r), (2 * a, 0), hth, hb0, ?_, ?_⟩
  · rintro z ⟨x, y, rfl⟩
    refine ⟨(2 * A * (s * x - q * y) + B * (p * y - r * x), p * y - r * x), ⟨_, _, rfl⟩, ?_⟩
    unfold mulZ
    ext <;> simp only [] <;> subst hA hB <;> grind
  · rintro z ⟨x, y, rfl⟩
    refine ⟨(2 * a * (p * x + q * y) + b * (r * x + s * y), r * x + s * y), ⟨_, _, rfl⟩, ?_⟩
    unfold mulZ
    ext <;> simp only [] <;> subst hA hB <;> grind

theorem Lf.smul {a b : Int} {z : Z2} (h : Lf a b z) (k : Int) : Lf a b (k * z.1, k * z.2) := by
  obtain ⟨x, y, rfl⟩ := h
  exact ⟨k * x, k * y, by ext <;> simp only [] <;> grind⟩
/-- what the composition's numbers satisfy -/
structure Comp (a1 b1 c1 a2 b2 c2 D d1 v1 v2 r s n t u z1 x2 y1 y2 dd : Int) : Prop where
  e1 : a1 = d1 * v1
  e2 : a2 = d1 * v2
  e3 : b1 = d1 * s - n
  e4 : b2 = d1 * s + n
  e5 : D = b2 * b2 - 4 * a2 * c2
  e6 : D = b1 * b1 - 4 * a1 * c1
  e7 : v1 * t = n + v2 * r
  e8 : v1 * u = c2 + r * s
  e9 : x2 * s + y2 * dd = 1
  e10 : y1 * v2 + z1 * v1 = dd
theorem Comp.nsp {a1 b1 c1 a2 b2 c2 D d1 v1 v2 r s n t u z1 x2 y1 y2 dd : Int} (h : Comp a1 b1 c1 a2 b2 c2 D d1 v1 v2 r s n t u z1 x2 y1 y2 dd) (hd : d1 ≠ 0) : n * s = v2 * c2 - v1 * c1 := by
  obtain ⟨e1, e2, e3, e4, e5, e6, e7, e8, e9, e10⟩ := h
  have h1 : d1 * (n * s) = d1 * (v2 * c2 - v1 * c1) := by
    have : b2 * b2 - 4 * a2 * c2 = b1 * b1 - 4 * a1 * c1 := by rw [← e5, e6]
    subst e1 e2 e3 e4
    have h2 : 4 * (d1 * (n * s)) = 4 * (d1 * (v2 * c2 - v1 * c1)) := by grind
    omega
  exact Int.eq_of_mul_eq_mul_left hd h1
theorem e11_aux {n s v1 v2 c1 c2 t u r : Int} (h0 : n * s = v2 * c2 - v1 * c1) (e7 : v1 * t = n + v2 * r) (e8 : v1 * u = c2 + r * s) : v1 * (s * t) = v1 * (v2 * u - c1) := by
  have h1 : v1 * (s * t) = s * (v1 * t) := by grind
  have h2 : v1 * (v2 * u - c1) = v2 * (v1 * u) - v1 * c1 := by grind
  rw [h1, h2, e7, e8]
  grind
theorem Comp.e11 {a1 b1 c1 a2 b2 c2 D d1 v1 v2 r s n t u z1 x2 y1 y2 dd : Int} (h : Comp a1 b1 c1 a2 b2 c2 D d1 v1 v2 r s n t u z1 x2 y1 y2 dd) (hd : d1 ≠ 0) (hv : v1 ≠ 0) : s * t = v2 * u - c1 := by
  exact Int.eq_of_mul_eq_mul_left hv (e11_aux (h.nsp hd) h.e7 h.e8)
theorem comp_sim {a1 b1 c1 a2 b2 c2 D d1 v1 v2 r s n t u z1 x2 y1 y2 dd k1 k2 k3 k4 : Int} (h : Comp a1 b1 c1 a2 b2 c2 D d1 v1 v2 r s n t u z1 x2 y1 y2 dd) (hd : d1 ≠ 0) (hv : v1 ≠ 0) (hk : k1 * d1 + k2 * n + k3 * c1 + k4 * c2 = 1) :
    Sim D (Pr D (Lf a1 b1) (Lf a2 b2)) (Lf (v1 * v2) (b2 + 2 * v2 * r)) := by
  have e11 := h.e11 hd hv
  obtain ⟨e1, e2, e3, e4, e5, _, e7, e8, e9, e10⟩ := h
  have hb0 : (2 * d1, 0) ≠ ((0, 0) : Z2) := by
    intro h
    injection h with h1 _
    omega
  refine ⟨(1, 0), (2 * d1, 0), by decide, hb0, ?_, ?_⟩
  · intro z hz
    induction hz with
    | @mul x y hx hy =>
      obtain ⟨x, x', rfl⟩ := hx
      obtain ⟨y, y', rfl⟩ := hy
      refine ⟨_, ⟨d1 * x * y - r * (x * y') - t * (x' * y) - u * (x' * y'), v1 * (x * y') + v2 * (x' * y) + s * (x' * y'), rfl⟩, ?_⟩
      unfold mulZ
      ext
      · simp only []
        subst e5 e1 e2 e3 e4
        grind
      · simp only []
        subst e5 e1 e2 e3 e4
        grind
    | add _ _ i1 i2 =>
      obtain ⟨w1, ⟨p1, p2, rfl⟩, f1⟩ := i1
      obtain ⟨w2, ⟨q1, q2, rfl⟩, f2⟩ := i2
      refine ⟨_, ⟨p1 + q1, p2 + q2, rfl⟩, ?_⟩
      rw [mulZ_add, f1, f2]
      unfold mulZ addZ
      ext <;> simp only [] <;> grind
  · rintro w ⟨X, Y, rfl⟩
    have g1 : ∀ m : Int, Pr D (Lf a1 b1) (Lf a2 b2) (mulZ D (2 * a1 * m, 0) (2 * a2, 0)) := fun m => .mul ⟨m, 0, by simp⟩ ⟨1, 0, by simp⟩
    have g2 : ∀ m : Int, Pr D (Lf a1 b1) (Lf a2 b2) (mulZ D (2 * a1 * m, 0) (b2, 1)) := fun m => .mul ⟨m, 0, by simp⟩ ⟨0, 1, by simp⟩
    have g3 : ∀ m : Int, Pr D (Lf a1 b1) (Lf a2 b2) (mulZ D (b1, 1) (2 * a2 * m, 0)) := fun m => .mul ⟨0, 1, by simp⟩ ⟨m, 0, by simp⟩
    have g4 : ∀ m : Int, Pr D (Lf a1 b1) (Lf a2 b2) (mulZ D (m * b1, m) (b2, 1)) := fun m => .mul ⟨0, m, by ext <;> simp only [] <;> grind⟩ ⟨0, 1, by simp⟩
    obtain ⟨Z, hZ⟩ : ∃ Z, X + Y * y2 * y1 * t + Y * y2 * z1 * r + Y * x2 * u = Z := ⟨_, rfl⟩
    obtain ⟨m2, h2⟩ : ∃ m, (k2 * v2 + k4 * s) * Z + Y * y2 * z1 = m := ⟨_, rfl⟩
    obtain ⟨m3, h3⟩ : ∃ m, (k3 * s - k2 * v1) * Z + Y * y2 * y1 = m := ⟨_, rfl⟩
    obtain ⟨m4, h4⟩ : ∃ m, -(k3 * v2 + k4 * v1) * Z + Y * x2 = m := ⟨_, rfl⟩
    have hB1 : v1 * m2 + v2 * m3 + s * m4 = Y := by
      have e : v1 * m2 + v2 * m3 + s * m4 = Y * (x2 * s + y2 * (y1 * v2 + z1 * v1)) := by rw [← h2, ← h3, ← h4]; grind
      rw [e, e10, e9]; omega
    have hB2 : d1 * (k1 * Z) - r * m2 - t * m3 - u * m4 = X := by
      have e : d1 * (k1 * Z) - r * m2 - t * m3 - u * m4 = Z * (k1 * d1 + k2 * (v1 * t - v2 * r) + k3 * (v2 * u - s * t) + k4 * (v1 * u - r * s)) - (Y * y2 * y1 * t + Y * y2 * z1 * r + Y * x2 * u) := by rw [← h2, ← h3, ← h4]; grind
      have e' : k1 * d1 + k2 * (v1 * t - v2 * r) + k3 * (v2 * u - s * t) + k4 * (v1 * u - r * s) = 1 := by
        rw [e7, e8, e11, ← hk]; grind
      rw [e, e']; omega
    refine ⟨_, .add (.add (g1 (k1 * Z)) (g2 m2)) (.add (g3 m3) (g4 m4)), ?_⟩
    have q2 : 2 * a1 * b2 = v1 * (2 * d1 * (b2 + 2 * v2 * r)) - r * (4 * d1 * v1 * v2) := by rw [e1]; grind
    have q3 : 2 * a2 * b1 = v2 * (2 * d1 * (b2 + 2 * v2 * r)) - t * (4 * d1 * v1 * v2) := by
      have e : t * (4 * d1 * v1 * v2) = 4 * d1 * v2 * (v1 * t) := by grind
      rw [e, e7, e2, e3, e4]; grind
    have q4 : b1 * b2 + D = s * (2 * d1 * (b2 + 2 * v2 * r)) - u * (4 * d1 * v1 * v2) := by
      have e : u * (4 * d1 * v1 * v2) = 4 * d1 * v2 * (v1 * u) := by grind
      rw [e, e8, e5, e2, e3, e4]; grind
    have q5 : 2 * a1 = 2 * d1 * v1 := by rw [e1]; grind
    have q6 : 2 * a2 = 2 * d1 * v2 := by rw [e2]; grind
    have q7 : b1 + b2 = 2 * d1 * s := by rw [e3, e4]; grind
    have q8 : (2 * a1) * (2 * a2) = d1 * (4 * d1 * v1 * v2) := by rw [e1, e2]; grind
    clear g1 g2 g3 g4 h2 h3 h4 hZ e1 e2 e3 e4 e5 e7 e8 e9 e10 e11 hk hb0 hd hv
    unfold mulZ addZ
    ext
    · simp only []
      have f1 : 2 * a1 * (k1 * Z) * (2 * a2) = (2 * a1) * (2 * a2) * (k1 * Z) := by grind
      have f2 : 2 * a1 * m2 * b2 = (2 * a1 * b2) * m2 := by grind
      have f3 : b1 * (2 * a2 * m3) = (2 * a2 * b1) * m3 := by grind
      have f4 : m4 * b1 * b2 + D * m4 * 1 = (b1 * b2 + D) * m4 := by grind
      rw [f1, f2, f3, f4, q8, q2, q3, q4, ← hB1, ← hB2]
      grind
    · simp only []
      have f : 1 * (2 * a1 * (k1 * Z) * 0 + 0 * (2 * a2) + (2 * a1 * m2 * 1 + 0 * b2) + (b1 * 0 + 1 * (2 * a2 * m3) + (m4 * b1 * 1 + m4 * b2))) = (2 * a1) * m2 + (2 * a2) * m3 + (b1 + b2) * m4 := by grind
      rw [f, q5, q6, q7, ← hB1]
      grind

/-! reduced forms: of each class one -/
structure RedF (a b c : Int) : Prop where
  pos : 0 < a
  lo : -a < b
  hi : b ≤ a
  ac : a ≤ c
  eq : a = c → 0 ≤ b
theorem min_aux {a b c x y : Int} (h0 : 0 < a) (h1 : -a ≤ b) (h2 : b ≤ a) (h3 : a ≤ c) (hx : 0 ≤ x) (hy : 1 ≤ y) : c ≤ a * x * x + b * x * y + c * y * y := by
  have hxy : 0 ≤ x * y := Int.mul_nonneg hx (by omega)
  have e1 : -(a * (x * y)) ≤ b * (x * y) := by
    have := Int.mul_le_mul_of_nonneg_right h1 hxy
    rw [Int.neg_mul] at this; exact this
  have q1 : b * x * y = b * (x * y) := by grind
  rcases Int.lt_or_le x y with h | h
  · have e2 : a * (x * y) ≤ c * (x * y) := Int.mul_le_mul_of_nonneg_right h3 hxy
    have e3 : 0 ≤ a * (x * x) := Int.mul_nonneg (by omega) (Int.mul_nonneg hx hx)
    have e4 : c * 1 ≤ c * (y * (y - x)) := Int.mul_le_mul_of_nonneg_left (by
      have := Int.mul_le_mul (a := 1) (b := 1) hy (show 1 ≤ y - x by omega) (by omega) (by omega)
      omega) (by omega)
    have q2 : c * (y * (y - x)) = c * y * y - c * (x * y) := by grind
    have q3 : a * x * x = a * (x * x) := by grind
    omega
  · have e2 : 0 ≤ a * (x * (x - y)) := Int.mul_nonneg (by omega) (Int.mul_nonneg hx (by omega))
    have q2 : a * (x * (x - y)) = a * x * x - a * (x * y) := by grind
    have e4 : c * 1 ≤ c * (y * y) := Int.mul_le_mul_of_nonneg_left (by
      have := Int.mul_le_mul (a := 1) (b := 1) hy hy (by omega) (by omega)
      omega) (by omega)
    have q3 : c * y * y = c * (y * y) := by grind
    omega
theorem RedF.min {a b c : Int} (h : RedF a b c) (x y : Int) (hy : y ≠ 0) : c ≤ a * x * x + b * x * y + c * y * y := by
  obtain ⟨h0, h1, h2, h3, _⟩ := h
  rcases Int.lt_or_le y 0 with hy1 | hy1
  · rcases Int.lt_or_le x 0 with hx | hx
    · have := min_aux (x := -x) (y := -y) h0 (by omega) h2 h3 (by omega) (by omega)
      grind
    · have := min_aux (b := -b) (x := x) (y := -y) h0 (by omega) (by omega) h3 hx (by omega)
      grind
  · rcases Int.lt_or_le x 0 with hx | hx
    · have := min_aux (b := -b) (x := -x) (y := y) h0 (by omega) (by omega) h3 (by omega) (by omega)
      grind
    · exact min_aux h0 (by omega) h2 h3 hx (by omega)
theorem RedF.min1 {a b c : Int} (h : RedF a b c) {x y : Int} (hxy : x ≠ 0 ∨ y ≠ 0) : a ≤ a * x * x + b * x * y + c * y * y := by
  by_cases hy : y = 0
  · subst hy
    have hx : x ≠ 0 := hxy.resolve_right (by simp)
    have h1 := sq_pos0 hx
    have h2 : a * 1 ≤ a * (x * x) := Int.mul_le_mul_of_nonneg_left (by omega) (by have := h.pos; omega)
    have h3 : a * x * x + b * x * 0 + c * 0 * 0 = a * (x * x) := by grind
    omega
  · have := h.min x y hy
    have := h.ac
    omega
/-- f is g behind a turn -/
structure Turn (a b c a' b' c' p q r s : Int) : Prop where
  det : p * s - q * r = 1
  ea : a = a' * p * p + b' * p * r + c' * r * r
  eb : b = 2 * a' * p * q + b' * (p * s + q * r) + 2 * c' * r * s
  ec : c = a' * q * q + b' * q * s + c' * s * s
theorem Turn.back {a b c a' b' c' p q r s : Int} (h : Turn a b c a' b' c' p q r s) : Turn a' b' c' a b c s (-q) (-r) p := by
  obtain ⟨h1, rfl, rfl, rfl⟩ := h
  have h2 : p * s = 1 + q * r := by omega
  refine ⟨by grind, ?_, ?_, ?_⟩
  · have e : a' = a' * ((p * s - q * r) * (p * s - q * r)) := by rw [h1]; omega
    rw [e]; grind
  · have e : b' = b' * ((p * s - q * r) * (p * s - q * r)) := by rw [h1]; omega
    rw [e]; grind
  · have e : c' = c' * ((p * s - q * r) * (p * s - q * r)) := by rw [h1]; omega
    rw [e]; grind
theorem red_unique {a b c a' b' c' p q r s : Int} (h : RedF a b c) (h' : RedF a' b' c') (t : Turn a b c a' b' c' p q r s) : a = a' ∧ b = b' ∧ c = c' := by
  have t' := t.back
  have n1 : p ≠ 0 ∨ r ≠ 0 := by
    by_cases hp : p = 0
    · right; intro hr; have := t.det; rw [hp, hr] at this; simp at this
    · exact .inl hp
  have n2 : s ≠ 0 ∨ -r ≠ 0 := by
    by_cases hs : s = 0
    · right; intro hr; have := t.det; rw [hs, show r = 0 by omega] at this; simp at this
    · exact .inl hs
  have m1 : a' ≤ a := by rw [t.ea]; exact h'.min1 n1
  have m2 : a ≤ a' := by
    have := h.min1 n2
    rw [← t'.ea] at this; exact this
  have haa : a = a' := by omega
  by_cases hr : r = 0
  · have hd := t.det
    subst hr
    have e1 : p * s = 1 := by have := t.det; grind
    have e2 : b = 2 * a' * (p * q) + b' := by
      have := t.eb
      have e3 : b' * (p * s + q * 0) = b' := by rw [e1]; grind
      rw [e3] at this
      rw [this]; grind
    have e4 : p * q = 0 := by
      apply Classical.byContradiction
      intro hn
      have h1 := h.lo; have h2 := h.hi; have h3 := h'.lo; have h4 := h'.hi; have h5 := h'.pos
      rcases Int.lt_or_le (p * q) 0 with hk | hk
      · have := Int.mul_le_mul_of_nonneg_left (show p * q ≤ -1 by omega) (show 0 ≤ 2 * a' by omega)
        omega
      · have := Int.mul_le_mul_of_nonneg_left (show 1 ≤ p * q by omega) (show 0 ≤ 2 * a' by omega)
        omega
    have hp : p ≠ 0 := by intro hp; rw [hp] at e1; simp at e1
    have hq : q = 0 := (Int.mul_eq_zero.1 e4).resolve_left hp
    have e5 : c = c' := by
      have := t.ec
      have hs2 : s * s = 1 := by
        have h1 : (p * s) * (p * s) = 1 := by rw [e1]; rfl
        have h2 := sq_nn s
        have h3 := sq_nn p
        have h4 : (p * p) * (s * s) = 1 := by rw [← h1]; grind
        have h5 : s * s ≠ 0 := by intro h; rw [h] at h4; simp at h4
        have h6 : p * p ≠ 0 := by intro h; rw [h] at h4; simp at h4
        have h7 := Int.mul_le_mul_of_nonneg_right (show 1 ≤ p * p by omega) h2
        omega
      rw [hq] at this
      have e6 : a' * 0 * 0 + b' * 0 * s + c' * s * s = c' * (s * s) := by grind
      rw [e6, hs2] at this; omega
    rw [e4] at e2
    exact ⟨haa, by omega, e5⟩
  · have k1 := h'.min p r hr
    rw [← t.ea] at k1
    have k2 := h.min s (-r) (by omega)
    rw [← t'.ea] at k2
    have e1 := h'.ac
    have e2 := h.ac
    have hc' : c' = a' := by omega
    have hc : c = a := by omega
    have b1 := h'.eq hc'.symm
    have b2 := h.eq hc.symm
    have hdisc : b * b - 4 * a * c = b' * b' - 4 * a' * c' := by
      have e : b * b - 4 * a * c = (b' * b' - 4 * a' * c') * ((p * s - q * r) * (p * s - q * r)) := by
        rw [t.ea, t.eb, t.ec]; grind
      rw [e, t.det]; omega
    rw [hc, hc', haa] at hdisc
    have e3 : (b - b') * (b + b') = 0 := by grind
    rcases Int.mul_eq_zero.1 e3 with e | e
    · exact ⟨haa, by omega, by omega⟩
    · exact ⟨haa, by omega, by omega⟩

theorem nrm_form {D a b c : Int} (h : D = b * b - 4 * a * c) (x y : Int) : nrm D (2 * a * x + b * y, y) = 4 * a * (a * x * x + b * x * y + c * y * y) := by
  unfold nrm
  subst h
  grind
def crs (x y : Z2) : Int := x.1 * y.2 - x.2 * y.1
theorem crs_mul (D : Int) (α x y : Z2) : crs (mulZ D α x) (mulZ D α y) = nrm D α * crs x y := by unfold crs mulZ nrm; grind
theorem sim_turn_back {D a b c a' b' c' : Int} (hD : D < 0) (h : D = b * b - 4 * a * c) (h' : D = b' * b' - 4 * a' * c') (ha : 0 < a) (ha' : 0 < a') (S : Sim D (Lf a b) (Lf a' b')) : ∃ p q r s, Turn a b c a' b' c' p q r s := by
  obtain ⟨α, β, hα, hβ, k1, k2⟩ := S
  obtain ⟨_, ⟨p, r, rfl⟩, f1⟩ := k1 (2 * a, 0) ⟨1, 0, by simp⟩
  obtain ⟨_, ⟨q, s, rfl⟩, f2⟩ := k1 (b, 1) ⟨0, 1, by simp⟩
  obtain ⟨_, ⟨p', r', rfl⟩, g1⟩ := k2 (2 * a', 0) ⟨1, 0, by simp⟩
  obtain ⟨_, ⟨q', s', rfl⟩, g2⟩ := k2 (b', 1) ⟨0, 1, by simp⟩
  have nα := nrm_pos hD hα
  have nβ := nrm_pos hD hβ
  have c1 := crs_mul D α (2 * a, 0) (b, 1)
  rw [f1, f2, crs_mul] at c1
  have c2 := crs_mul D β (2 * a', 0) (b', 1)
  rw [← g1, ← g2, crs_mul] at c2
  have d1 : crs (2 * a' * p + b' * r, r) (2 * a' * q + b' * s, s) = 2 * a' * (p * s - q * r) := by unfold crs; grind
  have d2 : crs (2 * a * p' + b * r', r') (2 * a * q' + b * s', s') = 2 * a * (p' * s' - q' * r') := by unfold crs; grind
  have d3 : crs (2 * a, 0) (b, 1) = 2 * a := by unfold crs; simp
  have d4 : crs (2 * a', 0) (b', 1) = 2 * a' := by unfold crs; simp
  rw [d1, d3] at c1
  rw [d2, d4] at c2
  obtain ⟨M, hM⟩ : ∃ M, p * s - q * r = M := ⟨_, rfl⟩
  obtain ⟨M', hM'⟩ : ∃ M, p' * s' - q' * r' = M := ⟨_, rfl⟩
  rw [hM] at c1
  rw [hM'] at c2
  obtain ⟨K, hK⟩ : ∃ K, nrm D α * a = K := ⟨_, rfl⟩
  obtain ⟨K', hK'⟩ : ∃ K, nrm D β * a' = K := ⟨_, rfl⟩
  have pK : 0 < K := by rw [← hK]; exact Int.mul_pos nα ha
  have pK' : 0 < K' := by rw [← hK']; exact Int.mul_pos nβ ha'
  have c3 : K' * M = K := by
    have e1 : nrm D β * (2 * a' * M) = 2 * (nrm D β * a' * M) := by grind
    have e2 : nrm D α * (2 * a) = 2 * (nrm D α * a) := by grind
    rw [e1, e2, hK, hK'] at c1; omega
  have c4 : K * M' = K' := by
    have e1 : nrm D α * (2 * a * M') = 2 * (nrm D α * a * M') := by grind
    have e2 : nrm D β * (2 * a') = 2 * (nrm D β * a') := by grind
    rw [e1, e2, hK, hK'] at c2; omega
  have pM : 0 < M := by
    apply Classical.byContradiction
    intro hn
    have := Int.mul_le_mul_of_nonneg_left (show M ≤ 0 by omega) (show 0 ≤ K' by omega)
    omega
  have pM' : 0 < M' := by
    apply Classical.byContradiction
    intro hn
    have := Int.mul_le_mul_of_nonneg_left (show M' ≤ 0 by omega) (show 0 ≤ K by omega)
    omega
  have hM1 : M = 1 := by
    apply Classical.byContradiction
    intro hn
    have e1 := Int.mul_le_mul_of_nonneg_left (show 2 ≤ M by omega) (show 0 ≤ K' by omega)
    have e2 := Int.mul_le_mul_of_nonneg_left (show 1 ≤ M' by omega) (show 0 ≤ K by omega)
    omega
  have hKK : K = K' := by rw [hM1] at c3; omega
  have key : ∀ x y : Int, a * x * x + b * x * y + c * y * y = a' * (p * x + q * y) * (p * x + q * y) + b' * (p * x + q * y) * (r * x + s * y) + c' * (r * x + s * y) * (r * x + s * y) := by
    intro x y
    have e : mulZ D α (2 * a * x + b * y, y) = mulZ D β (2 * a' * (p * x + q * y) + b' * (r * x + s * y), r * x + s * y) := by
      have h1 : (2 * a * x + b * y, y) = addZ (mulZ D (2 * a, 0) (x, 0)) (mulZ D (b, 1) (y, 0)) := by unfold addZ mulZ; ext <;> simp only [] <;> grind
      have h2 : (2 * a' * (p * x + q * y) + b' * (r * x + s * y), r * x + s * y) = addZ (mulZ D (2 * a' * p + b' * r, r) (x, 0)) (mulZ D (2 * a' * q + b' * s, s) (y, 0)) := by unfold addZ mulZ; ext <;> simp only [] <;> grind
      rw [h1, h2, mulZ_add, mulZ_add, ← mulZ_assoc, ← mulZ_assoc, ← mulZ_assoc, ← mulZ_assoc, f1, f2]
    have e2 := congrArg (nrm D) e
    rw [nrm_mul, nrm_mul, nrm_form h, nrm_form h'] at e2
    have e3 : nrm D α * (4 * a * (a * x * x + b * x * y + c * y * y)) = 4 * (K * (a * x * x + b * x * y + c * y * y)) := by rw [← hK]; grind
    have e4 : ∀ V : Int, nrm D β * (4 * a' * V) = 4 * (K * V) := fun V => by rw [hKK, ← hK']; grind
    rw [e3, e4] at e2
    exact Int.eq_of_mul_eq_mul_left (show K ≠ 0 by omega) (by omega)
  have key1 := key 1 0
  have key2 := key 0 1
  have key3 := key 1 1
  refine ⟨p, q, r, s, by rw [hM, hM1], ?_, ?_, ?_⟩
  · grind
  · grind
  · grind
/-- lattices that are multiples of one another: one reduced form -/
theorem sim_unique {D a b c a' b' c' : Int} (hD : D < 0) (h : D = b * b - 4 * a * c) (h' : D = b' * b' - 4 * a' * c') (r : RedF a b c) (r' : RedF a' b' c') (S : Sim D (Lf a b) (Lf a' b')) : a = a' ∧ b = b' ∧ c = c' := by
  obtain ⟨p, q, u, s, t⟩ := sim_turn_back hD h h' r.pos r'.pos S
  exact red_unique r r' t
end Go.Proofs.Ytlchmaiflcnaoaa

namespace Go.Proofs.Ytlchmaiflcnaoaa

/-- no square of a number above 1 divides n -/
def Sqf (n : Nat) : Prop := ∀ p, 2 ≤ p → ¬ p * p ∣ n

theorem nodup_len {α : Type} [DecidableEq α] : ∀ (l1 l2 : List α), l1.Nodup → (∀ x ∈ l1, x ∈ l2) → l1.length ≤ l2.length
  | [], _, _, _ => by simp
  | a :: l, l2, hn, hs => by
    obtain ⟨h0, h1⟩ := List.nodup_cons.1 hn
    have ha : a ∈ l2 := hs a (List.mem_cons_self ..)
    have h2 := nodup_len l (l2.erase a) h1 (fun x hx => (List.mem_erase_of_ne (fun e => h0 (by rw [← e]; exact hx))).2 (hs x (List.mem_cons_of_mem _ hx)))
    rw [List.length_erase_of_mem ha] at h2
    have h3 := List.length_pos_of_mem ha
    rw [List.length_cons]
    omega
theorem pigeon {N M : Nat} (h : M < N) (f : Nat → Nat) (hf : ∀ i, i < N → f i < M) : ∃ i j, i < j ∧ j < N ∧ f i = f j := by
  refine Classical.byContradiction fun hc => ?_
  have hnd : ((List.range N).map f).Nodup := by
    show List.Pairwise _ _
    rw [List.pairwise_map, List.pairwise_iff_getElem]
    intro i j hi hj hij e
    simp only [List.getElem_range] at e
    simp only [List.length_range] at hj
    exact hc ⟨i, j, hij, hj, e⟩
  have := nodup_len _ (List.range M) hnd (fun x hx => by
    obtain ⟨i, hi, rfl⟩ := List.mem_map.1 hx
    exact List.mem_range.2 (hf i (List.mem_range.1 hi)))
  simp at this
  omega
theorem enc_inj {b c u v w u' v' w' : Nat} (hv : v < b) (hw : w < c) (hv' : v' < b) (hw' : w' < c) (e : (u * b + v) * c + w = (u' * b + v') * c + w') : u = u' ∧ v = v' ∧ w = w' := by
  have e1 : w = w' := by
    have h1 : ((u * b + v) * c + w) % c = w := by rw [Nat.add_comm, Nat.add_mul_mod_self_right]; exact Nat.mod_eq_of_lt hw
    have h2 : ((u' * b + v') * c + w') % c = w' := by rw [Nat.add_comm, Nat.add_mul_mod_self_right]; exact Nat.mod_eq_of_lt hw'
    rw [← h1, ← h2, e]
  subst e1
  have e2 : u * b + v = u' * b + v' := Nat.eq_of_mul_eq_mul_right (show 0 < c by omega) (by omega)
  have e3 : v = v' := by
    have h1 : (u * b + v) % b = v := by rw [Nat.add_comm, Nat.add_mul_mod_self_right]; exact Nat.mod_eq_of_lt hv
    have h2 : (u' * b + v') % b = v' := by rw [Nat.add_comm, Nat.add_mul_mod_self_right]; exact Nat.mod_eq_of_lt hv'
    rw [← h1, ← h2, e2]
  subst e3
  exact ⟨Nat.eq_of_mul_eq_mul_right (show 0 < b by omega) (by omega), rfl, rfl⟩
theorem mod_same {m x y : Int} (h : x % m = y % m) : m ∣ x - y := Int.dvd_of_emod_eq_zero (Int.emod_eq_emod_iff_emod_sub_eq_zero.1 h)
theorem toNat_mod_lt (x : Int) {m : Nat} (h : 0 < m) : (x % (m : Int)).toNat < m := by
  have h1 := Int.emod_nonneg x (b := (m : Int)) (by omega)
  have h2 := Int.emod_lt_of_pos x (b := (m : Int)) (by omega)
  omega
theorem toNat_mod_eq {x y : Int} {m : Nat} (h : 0 < m) (e : (x % (m : Int)).toNat = (y % (m : Int)).toNat) : (m : Int) ∣ x - y := by
  have h1 := Int.emod_nonneg x (b := (m : Int)) (by omega)
  have h2 := Int.emod_nonneg y (b := (m : Int)) (by omega)
  exact mod_same (by omega)

theorem diff_lt {u v U : Nat} (h1 : u < U) (h2 : v < U) : -(U : Int) < (u : Int) - (v : Int) ∧ (u : Int) - (v : Int) < U := by omega
theorem no_diff {a b c d e f : Nat} (h : ¬ ((a : Int) - (b : Int) ≠ 0 ∨ (c : Int) - (d : Int) ≠ 0 ∨ (e : Int) - (f : Int) ≠ 0)) : a = b ∧ c = d ∧ e = f := by omega
/-- the drawers -/
theorem drawers (a b c X Y Z : Nat) (r s t : Int) (ha : 0 < a) (hb : 0 < b) (hc : 0 < c) (h : a * b * c < X * Y * Z) :
    ∃ x y z : Int, (x ≠ 0 ∨ y ≠ 0 ∨ z ≠ 0) ∧ (-(X : Int) < x ∧ x < X) ∧ (-(Y : Int) < y ∧ y < Y) ∧ (-(Z : Int) < z ∧ z < Z) ∧ (a : Int) ∣ b * y - r * z ∧ (b : Int) ∣ a * x - s * z ∧ (c : Int) ∣ a * x - t * y := by
  have hX : 0 < X := Nat.pos_of_ne_zero (fun e => by subst e; simp at h)
  have hY : 0 < Y := Nat.pos_of_ne_zero (fun e => by subst e; simp at h)
  obtain ⟨i, j, hij, hj, e⟩ := pigeon h (fun i => ((((b : Int) * ((i / X % Y : Nat) : Int) - r * ((i / X / Y : Nat) : Int)) % (a : Int)).toNat * b + (((a : Int) * ((i % X : Nat) : Int) - s * ((i / X / Y : Nat) : Int)) % (b : Int)).toNat) * c + (((a : Int) * ((i % X : Nat) : Int) - t * ((i / X % Y : Nat) : Int)) % (c : Int)).toNat) (fun i _ => by
    have h1 := toNat_mod_lt ((b : Int) * ((i / X % Y : Nat) : Int) - r * ((i / X / Y : Nat) : Int)) ha
    have h2 := toNat_mod_lt ((a : Int) * ((i % X : Nat) : Int) - s * ((i / X / Y : Nat) : Int)) hb
    have h3 := toNat_mod_lt ((a : Int) * ((i % X : Nat) : Int) - t * ((i / X % Y : Nat) : Int)) hc
    have k1 : (((b : Int) * ((i / X % Y : Nat) : Int) - r * ((i / X / Y : Nat) : Int)) % (a : Int)).toNat * b + (((a : Int) * ((i % X : Nat) : Int) - s * ((i / X / Y : Nat) : Int)) % (b : Int)).toNat + 1 ≤ a * b := by
      have := Nat.mul_le_mul_right b (show (((b : Int) * ((i / X % Y : Nat) : Int) - r * ((i / X / Y : Nat) : Int)) % (a : Int)).toNat + 1 ≤ a from h1)
      rw [Nat.add_mul, Nat.one_mul] at this
      omega
    have k2 := Nat.mul_le_mul_right c k1
    rw [Nat.add_mul, Nat.one_mul] at k2
    omega)
  obtain ⟨e1, e2, e3⟩ := enc_inj (toNat_mod_lt _ hb) (toNat_mod_lt _ hc) (toNat_mod_lt _ hb) (toNat_mod_lt _ hc) e
  have d1 := toNat_mod_eq ha e1
  have d2 := toNat_mod_eq hb e2
  have d3 := toNat_mod_eq hc e3
  have i1 := Nat.mod_lt i hX
  have i2 := Nat.mod_lt (i / X) hY
  have j1 := Nat.mod_lt j hX
  have j2 := Nat.mod_lt (j / X) hY
  have hlt : ∀ k, k < X * Y * Z → k / X / Y < Z := fun k hk => by
    rw [Nat.div_div_eq_div_mul]
    exact Nat.div_lt_of_lt_mul hk
  have i3 := hlt i (by omega)
  have j3 := hlt j hj
  refine ⟨((i % X : Nat) : Int) - ((j % X : Nat) : Int), ((i / X % Y : Nat) : Int) - ((j / X % Y : Nat) : Int), ((i / X / Y : Nat) : Int) - ((j / X / Y : Nat) : Int), ?_, diff_lt i1 j1, diff_lt i2 j2, diff_lt i3 j3, ?_, ?_, ?_⟩
  · refine Classical.byContradiction fun hn => ?_
    obtain ⟨a1, a2, a3⟩ := no_diff hn
    have b1 := Nat.div_add_mod i X
    have b2 := Nat.div_add_mod j X
    have b3 := Nat.div_add_mod (i / X) Y
    have b4 := Nat.div_add_mod (j / X) Y
    rw [a2, a3] at b3
    have b5 : i / X = j / X := by omega
    rw [a1, b5] at b1
    omega
  · have := d1
    rw [show (b : Int) * ((i / X % Y : Nat) : Int) - r * ((i / X / Y : Nat) : Int) - ((b : Int) * ((j / X % Y : Nat) : Int) - r * ((j / X / Y : Nat) : Int)) = b * (((i / X % Y : Nat) : Int) - ((j / X % Y : Nat) : Int)) - r * (((i / X / Y : Nat) : Int) - ((j / X / Y : Nat) : Int)) by grind] at this
    exact this
  · have := d2
    rw [show (a : Int) * ((i % X : Nat) : Int) - s * ((i / X / Y : Nat) : Int) - ((a : Int) * ((j % X : Nat) : Int) - s * ((j / X / Y : Nat) : Int)) = a * (((i % X : Nat) : Int) - ((j % X : Nat) : Int)) - s * (((i / X / Y : Nat) : Int) - ((j / X / Y : Nat) : Int)) by grind] at this
    exact this
  · have := d3
    rw [show (a : Int) * ((i % X : Nat) : Int) - t * ((i / X % Y : Nat) : Int) - ((a : Int) * ((j % X : Nat) : Int) - t * ((j / X % Y : Nat) : Int)) = a * (((i % X : Nat) : Int) - ((j % X : Nat) : Int)) - t * (((i / X % Y : Nat) : Int) - ((j / X % Y : Nat) : Int)) by grind] at this
    exact this

/-- one number above the root -/
theorem ceil_root : ∀ n : Nat, 1 ≤ n → ∃ X : Nat, 1 ≤ X ∧ n ≤ X * X ∧ (X - 1) * (X - 1) < n := by
  intro n hn
  induction n with
  | zero => omega
  | succ n ih =>
    rcases Nat.eq_zero_or_pos n with rfl | h
    · exact ⟨1, by omega, by omega, by omega⟩
    · obtain ⟨X, h1, h2, h3⟩ := ih h
      by_cases h4 : n + 1 ≤ X * X
      · exact ⟨X, h1, h4, by omega⟩
      · refine ⟨X + 1, by omega, ?_, ?_⟩
        · have : (X + 1) * (X + 1) = X * X + X + X + 1 := by grind
          omega
        · rw [Nat.add_sub_cancel]
          omega

/-- Mordell's step -/
theorem mordell {a b c x y z u v : Int} (ha : 0 < a) (hb : 0 < b) (hz : 0 < z) (h : a * x * x + b * y * y = c * z * z) (huv : u * x + v * y = 1) (hbig : a * b < z * z) :
    ∃ x' y' z' : Int, 0 < z' ∧ z' < z ∧ a * x' * x' + b * y' * y' = c * z' * z' := by
  obtain ⟨w, hw⟩ : ∃ w, a * x * v - b * y * u = w := ⟨_, rfl⟩
  obtain ⟨G, hG⟩ : ∃ G, a * v * v + b * u * u = G := ⟨_, rfl⟩
  -- Z of the right parity, near
  obtain ⟨Z, E, hE, hn1, hn2⟩ : ∃ Z E : Int, 2 * E = c * G - Z * Z ∧ -z ≤ z * Z - w ∧ z * Z - w ≤ z := by
    obtain ⟨e, he, e01⟩ : ∃ e : Int, (∃ k, c * G = 2 * k + e) ∧ (e = 0 ∨ e = 1) := ⟨c * G % 2, ⟨c * G / 2, by omega⟩, by omega⟩
    obtain ⟨k, hk⟩ := he
    obtain ⟨q, hq⟩ : ∃ q, (w - z * e + z) / (2 * z) = q := ⟨_, rfl⟩
    have h1 := Int.mul_ediv_add_emod (w - z * e + z) (2 * z)
    have h2 := Int.emod_nonneg (w - z * e + z) (show 2 * z ≠ 0 by omega)
    have h3 := Int.emod_lt_of_pos (w - z * e + z) (show 0 < 2 * z by omega)
    rw [hq] at h1
    have h4 : z * (2 * q + e) = 2 * z * q + z * e := by grind
    have hee : e * e = e := by rcases e01 with rfl | rfl <;> rfl
    refine ⟨2 * q + e, k - 2 * q * q - 2 * q * e, ?_, by omega, by omega⟩
    rw [hk]
    grind
  have key : 2 * z * (z * E - Z * (w - z * Z)) = (z * Z - w) * (z * Z - w) + a * b := by
    have e1 : w * w + a * b = c * z * z * G := by
      have : w * w + a * b * ((u * x + v * y) * (u * x + v * y)) = (a * x * x + b * y * y) * G := by rw [← hw, ← hG]; grind
      rw [huv, h] at this
      grind
    have e2 : 2 * z * (z * E - Z * (w - z * Z)) = z * z * (2 * E) - 2 * z * Z * (w - z * Z) := by grind
    rw [e2, hE]
    grind
  have hab : 0 < a * b := Int.mul_pos ha hb
  have hsq : (z * Z - w) * (z * Z - w) ≤ z * z := by
    rcases Int.lt_or_le (z * Z - w) 0 with hh | hh
    · have := Int.mul_le_mul (show -(z * Z - w) ≤ z by omega) (show -(z * Z - w) ≤ z by omega) (by omega) (by omega)
      rwa [Int.neg_mul_neg] at this
    · exact Int.mul_le_mul hn2 hn2 hh (by omega)
  have hsq0 := sq_nn (z * Z - w)
  obtain ⟨z', hz'⟩ : ∃ z', z * E - Z * (w - z * Z) = z' := ⟨_, rfl⟩
  rw [hz'] at key
  refine ⟨x * E - v * c * (w - z * Z), y * E + u * c * (w - z * Z), z', ?_, ?_, ?_⟩
  · refine Classical.byContradiction fun hn => ?_
    have : 2 * z * z' ≤ 0 := Int.mul_nonpos_of_nonneg_of_nonpos (by omega) (by omega)
    omega
  · refine Classical.byContradiction fun hn => ?_
    have h1 : 2 * z * z ≤ 2 * z * z' := Int.mul_le_mul_of_nonneg_left (by omega) (by omega)
    have h2 : 2 * z * z = z * z + z * z := by grind
    omega
  · obtain ⟨T, hT⟩ : ∃ T, w - z * Z = T := ⟨_, rfl⟩
    rw [← hz', hT]
    have e1 : a * (x * E - v * c * T) * (x * E - v * c * T) + b * (y * E + u * c * T) * (y * E + u * c * T) = E * E * (a * x * x + b * y * y) - 2 * E * c * T * (a * x * v - b * y * u) + c * c * T * T * (a * v * v + b * u * u) := by grind
    rw [e1, h, hw, hG]
    have e2 : c * G = 2 * E + Z * Z := by omega
    have e3 : w = T + z * Z := by omega
    have e4 : c * c * T * T * G = c * T * T * (c * G) := by grind
    rw [e4, e2, e3]
    grind
end Go.Proofs.Ytlchmaiflcnaoaa

namespace Go.Proofs.Ytlchmaiflcnaoaa

theorem ibez (a b : Int) : ∃ x y : Int, x * a + y * b = (Int.gcd a b : Int) := by
  have nb : ∀ m n : Nat, ∃ x y : Int, x * m + y * n = Nat.gcd m n := by
    intro m n
    induction m, n using Nat.gcd.induction with
    | H0 n => exact ⟨0, 1, by simp⟩
    | H1 m n hm ih =>
      obtain ⟨x, y, h⟩ := ih
      refine ⟨y - x * ((n / m : Nat) : Int), x, ?_⟩
      rw [Nat.gcd_rec, ← h]
      have e : ((n % m : Nat) : Int) = (n : Int) - (m : Int) * ((n / m : Nat) : Int) := by
        rw [Int.natCast_emod, Int.natCast_ediv]; exact Int.emod_def ..
      rw [e]; grind
  obtain ⟨x, y, h⟩ := nb a.natAbs b.natAbs
  refine ⟨x * a.sign, y * b.sign, ?_⟩
  rw [Int.mul_assoc, Int.mul_assoc, Int.sign_mul_self, Int.sign_mul_self, h]
  rfl
theorem ibez3 {a b c : Int} (h : Int.gcd a (Int.gcd b c) = 1) : ∃ x y z : Int, x * a + y * b + z * c = 1 := by
  obtain ⟨x, y, e1⟩ := ibez b c
  obtain ⟨p, q, e2⟩ := ibez a (Int.gcd b c)
  rw [h, ← e1] at e2
  exact ⟨p, q * x, q * y, by grind⟩
theorem fac (d a b x y : Int) : x * (d * a) + y * (d * b) = d * (x * a + y * b) := by grind
theorem fac4 {d n s v1 v2 c1 c2 : Int} (h : (d * s + n) * (d * s + n) - 4 * (d * v2) * c2 = (d * s - n) * (d * s - n) - 4 * (d * v1) * c1) : 4 * (d * (n * s)) = 4 * (d * (v2 * c2 - v1 * c1)) := by grind
theorem cm1 {n x2 s y2 y1 v2 w1 v1 c2 c1 t0 : Int} (f1 : n * (x2 * s + y2 * (y1 * v2 + w1 * v1)) = n) (f2 : x2 * (n * s) = x2 * (v2 * c2 - v1 * c1)) : v1 * (-(x2 * c1) + n * y2 * w1 + v2 * t0) = n + v2 * (-(y1 * y2 * n) - x2 * c2 + v1 * t0) := by grind
theorem cm2 {n x2 s y2 y1 v2 w1 v1 c2 c1 t0 : Int} (f1 : c2 * (x2 * s + y2 * (y1 * v2 + w1 * v1)) = c2) (f2 : y1 * y2 * (n * s) = y1 * y2 * (v2 * c2 - v1 * c1)) : v1 * (y2 * c2 * w1 + y1 * y2 * c1 + t0 * s) = c2 + (-(y1 * y2 * n) - x2 * c2 + v1 * t0) * s := by grind
theorem comp_make {a1 b1 c1 a2 b2 c2 D s0 n d y1 w1 d1 x2 y2 v1 v2 r s dd t0 : Int} (hD1 : D = b1 * b1 - 4 * a1 * c1) (hD2 : D = b2 * b2 - 4 * a2 * c2) (hs : b1 + b2 = 2 * s0) (hn : n = b2 - s0) (e1 : a1 = d1 * v1) (e2 : a2 = d1 * v2) (hs' : s0 = d1 * s) (hd : d = d1 * dd) (bz1 : y1 * a2 + w1 * a1 = d) (bz2 : x2 * s0 + y2 * d = d1) (hd1 : d1 ≠ 0)
    (hr : r = -(y1 * y2 * n) - x2 * c2 + v1 * t0) : ∃ t u, Comp a1 b1 c1 a2 b2 c2 D d1 v1 v2 r s n t u w1 x2 y1 y2 dd := by
  have e9 : x2 * s + y2 * dd = 1 := by
    have : d1 * (x2 * s + y2 * dd) = d1 * 1 := by rw [hs', hd, fac] at bz2; rw [bz2]; omega
    exact Int.eq_of_mul_eq_mul_left hd1 this
  have e10 : y1 * v2 + w1 * v1 = dd := by
    have : d1 * (y1 * v2 + w1 * v1) = d1 * dd := by rw [e1, e2, hd, fac] at bz1; exact bz1
    exact Int.eq_of_mul_eq_mul_left hd1 this
  have e3 : b1 = d1 * s - n := by rw [← hs', hn]; omega
  have e4 : b2 = d1 * s + n := by rw [← hs', hn]; omega
  have hns : n * s = v2 * c2 - v1 * c1 := by
    have h1 : 4 * (d1 * (n * s)) = 4 * (d1 * (v2 * c2 - v1 * c1)) := by
      have h0 : b2 * b2 - 4 * a2 * c2 = b1 * b1 - 4 * a1 * c1 := by rw [← hD1, hD2]
      rw [e1, e2, e3, e4] at h0
      exact fac4 h0
    exact Int.eq_of_mul_eq_mul_left hd1 (by omega)
  refine ⟨-(x2 * c1) + n * y2 * w1 + v2 * t0, y2 * c2 * w1 + y1 * y2 * c1 + t0 * s, e1, e2, e3, e4, hD2, hD1, ?_, ?_, e9, e10⟩
  · have f1 : n * (x2 * s + y2 * (y1 * v2 + w1 * v1)) = n := by rw [e10, e9]; omega
    rw [hr]
    exact cm1 f1 (by rw [hns])
  · have f1 : c2 * (x2 * s + y2 * (y1 * v2 + w1 * v1)) = c2 := by rw [e10, e9]; omega
    rw [hr]
    exact cm2 f1 (by rw [hns])
/-- the third number of the composed form, and its discriminant -/
theorem comp_third {a1 b1 c1 a2 b2 c2 D d1 v1 v2 r s n t u z1 x2 y1 y2 dd : Int} (h : Comp a1 b1 c1 a2 b2 c2 D d1 v1 v2 r s n t u z1 x2 y1 y2 dd) :
    c2 * d1 + r * (b2 + v2 * r) = v1 * (d1 * u + r * t) ∧ (b2 + 2 * v2 * r) * (b2 + 2 * v2 * r) - 4 * (v1 * v2) * (d1 * u + r * t) = D := by
  obtain ⟨e1, e2, e3, e4, e5, _, e7, e8, _, _⟩ := h
  have f : c2 * d1 + r * (b2 + v2 * r) = v1 * (d1 * u + r * t) := by
    have f1 : v1 * (d1 * u + r * t) = d1 * (v1 * u) + r * (v1 * t) := by grind
    rw [f1, e7, e8, e4]; grind
  refine ⟨f, ?_⟩
  have f2 : 4 * (v1 * v2) * (d1 * u + r * t) = 4 * v2 * (v1 * (d1 * u + r * t)) := by grind
  rw [f2, ← f, e5, e2]; grind

theorem red_bounds {a b c D : Int} (h : RedF a b c) (hD : D = b * b - 4 * a * c) (hlow : -4000000000000 ≤ D) : a ≤ 1154701 ∧ a * c ≤ 1340000000000 ∧ -1154701 ≤ b ∧ b ≤ 1154701 ∧ c ≤ 1340000000000 ∧ 1 ≤ c ∧ D < 0 := by
  obtain ⟨h0, h1, h2, h3, _⟩ := h
  have e1 : b * b ≤ a * a := by
    rcases Int.lt_or_le b 0 with hb | hb
    · have := Int.mul_le_mul (show -b ≤ a by omega) (show -b ≤ a by omega) (by omega) (by omega)
      grind
    · exact Int.mul_le_mul h2 h2 hb (by omega)
  have e2 : a * a ≤ a * c := Int.mul_le_mul_of_nonneg_left h3 (by omega)
  have e3 : 4 * a * c = 4 * (a * c) := by grind
  rw [e3] at hD
  have e4 : a * a ≤ 1333333333334 := by omega
  have ha : a ≤ 1154701 := by
    rcases Int.lt_or_le 1154701 a with h | h
    · have := Int.mul_le_mul (show 1154701 ≤ a by omega) (show 1154701 ≤ a by omega) (by omega) (by omega)
      omega
    · exact h
  have e5 : a * c ≤ 1340000000000 := by
    have := sq_nn b
    omega
  have e6 : 1 * c ≤ a * c := Int.mul_le_mul_of_nonneg_right (by omega) (by omega)
  have e7 : 1 * 1 ≤ a * a := Int.mul_le_mul (by omega) (by omega) (by omega) (by omega)
  exact ⟨ha, e5, by omega, by omega, by omega, by omega, by omega⟩

/-- none is too long -/
theorem comp_bounds {b2 c2 D d1 v1 v2 r C a1 a2 : Int} (ha1 : a1 = d1 * v1) (ha2 : a2 = d1 * v2) (hd : 0 < d1) (hv1 : 0 < v1) (hv2 : 0 < v2) (k1 : a1 ≤ 1154701) (k2 : a2 ≤ 1154701) (k3 : a2 * c2 ≤ 1340000000000) (k4 : -1154701 ≤ b2 ∧ b2 ≤ 1154701) (k5 : 1 ≤ c2) (hr : 0 ≤ r ∧ r < v1) (hC : c2 * d1 + r * (b2 + v2 * r) = v1 * C) (hdisc : (b2 + 2 * v2 * r) * (b2 + 2 * v2 * r) - 4 * (v1 * v2) * C = D) (hD : D < 0) :
    (1 ≤ v1 ∧ v1 ≤ 1154701) ∧ (1 ≤ v2 ∧ v2 ≤ 1154701) ∧ (1 ≤ d1 ∧ d1 ≤ 1154701) ∧ (1 ≤ v1 * v2 ∧ v1 * v2 ≤ 1400000000000) ∧ (0 ≤ v2 * r ∧ v2 * r ≤ 1400000000000) ∧ (0 ≤ c2 * d1 ∧ c2 * d1 ≤ 1340000000000) ∧ (-1700000000000000000 ≤ r * (b2 + v2 * r) ∧ r * (b2 + v2 * r) ≤ 1700000000000000000) ∧ 1 ≤ C ∧ C ≤ 3000000000000 := by
  have q1 : 1 * v1 ≤ d1 * v1 := Int.mul_le_mul_of_nonneg_right (by omega) (by omega)
  have q2 : 1 * v2 ≤ d1 * v2 := Int.mul_le_mul_of_nonneg_right (by omega) (by omega)
  have q3 : d1 * 1 ≤ d1 * v1 := Int.mul_le_mul_of_nonneg_left (by omega) (by omega)
  have q4 : d1 * 1 ≤ d1 * v2 := Int.mul_le_mul_of_nonneg_left (by omega) (by omega)
  have q5 : v1 * v2 ≤ 1154701 * 1154701 := Int.mul_le_mul (by omega) (by omega) (by omega) (by omega)
  have q6 : 1 * 1 ≤ v1 * v2 := Int.mul_le_mul (by omega) (by omega) (by omega) (by omega)
  have q7 : v2 * r ≤ 1154701 * 1154701 := Int.mul_le_mul (by omega) (by omega) (by omega) (by omega)
  have q8 : 0 ≤ v2 * r := Int.mul_nonneg (by omega) (by omega)
  have q9 : c2 * d1 ≤ c2 * a2 := Int.mul_le_mul_of_nonneg_left (by omega) (by omega)
  have q10 : c2 * a2 = a2 * c2 := Int.mul_comm ..
  have q11 : 0 ≤ c2 * d1 := Int.mul_nonneg (by omega) (by omega)
  obtain ⟨X, hX⟩ : ∃ X, b2 + v2 * r = X := ⟨_, rfl⟩
  have hX1 : -1154701 ≤ X ∧ X ≤ 1400000000000 := by omega
  have q12 : r * X ≤ 1154701 * 1400000000000 := by
    rcases Int.lt_or_le X 0 with h | h
    · have := Int.mul_nonpos_of_nonneg_of_nonpos hr.1 (show X ≤ 0 by omega)
      omega
    · exact Int.mul_le_mul (by omega) hX1.2 h (by omega)
  have q13 : -(1154701 * 1154701) ≤ r * X := by
    have h1 : r * (-1154701) ≤ r * X := Int.mul_le_mul_of_nonneg_left hX1.1 hr.1
    have h2 : r * 1154701 ≤ 1154701 * 1154701 := Int.mul_le_mul_of_nonneg_right (by omega) (by omega)
    omega
  have hC1 : 1 ≤ C := by
    apply Classical.byContradiction
    intro h
    have h1 : 4 * (v1 * v2) * C ≤ 4 * (v1 * v2) * 0 := Int.mul_le_mul_of_nonneg_left (by omega) (by omega)
    have h2 := sq_nn (b2 + 2 * v2 * r)
    omega
  have hC2 : C ≤ 3000000000000 := by
    apply Classical.byContradiction
    intro h
    have h1 : v1 * 3000000000000 ≤ v1 * C := Int.mul_le_mul_of_nonneg_left (by omega) (by omega)
    rw [hX] at hC
    have h2 : r * X ≤ v1 * 1400000000000 := by
      rcases Int.lt_or_le X 0 with h | h
      · have := Int.mul_nonpos_of_nonneg_of_nonpos hr.1 (show X ≤ 0 by omega)
        omega
      · exact Int.mul_le_mul (by omega) hX1.2 h (by omega)
    have h3 : 1340000000000 * 1 ≤ 1340000000000 * v1 := Int.mul_le_mul_of_nonneg_left (by omega) (by omega)
    omega
  rw [hX]
  omega

/-- the first form of a discriminant: composing with it changes nothing -/
theorem first_sim {a b c D σ : Int} (hD : D = b * b - 4 * a * c) (hσ : ∃ k, b = σ + 2 * k) (c0 : Int) (hc : D = σ * σ - 4 * c0) : Sim D (Pr D (Lf a b) (Lf 1 σ)) (Lf a b) := by
  obtain ⟨k, hk⟩ := hσ
  refine ⟨(1, 0), (2, 0), by decide, by decide, ?_, ?_⟩
  · intro z hz
    induction hz with
    | @mul x y hx hy =>
      obtain ⟨x, x', rfl⟩ := hx
      obtain ⟨y, y', rfl⟩ := hy
      refine ⟨_, ⟨x * y + x * (-(k * y')) - c * (x' * y'), a * (x * y') + x' * y + (b - k) * (x' * y'), rfl⟩, ?_⟩
      unfold mulZ
      ext <;> simp only []
      · subst hk hD; grind
      · subst hk hD; grind
    | add _ _ i1 i2 =>
      obtain ⟨w1, ⟨p1, p2, rfl⟩, f1⟩ := i1
      obtain ⟨w2, ⟨q1, q2, rfl⟩, f2⟩ := i2
      refine ⟨_, ⟨p1 + q1, p2 + q2, rfl⟩, ?_⟩
      rw [mulZ_add, f1, f2]
      unfold mulZ addZ
      ext <;> simp only [] <;> grind
  · rintro w ⟨x, y, rfl⟩
    refine ⟨mulZ D (2 * a * x + b * y, y) (2, 0), .mul ⟨x, y, rfl⟩ ⟨1, 0, by simp⟩, ?_⟩
    unfold mulZ
    ext <;> simp only [] <;> grind
/-- a form and the one with -b: composed they are the first one -/
theorem back_sim {a b c D σ : Int} (hD : D = b * b - 4 * a * c) (ha : a ≠ 0) (hσ : ∃ k, b = σ + 2 * k) (hg : ∃ x y z : Int, x * a + y * b + z * c = 1) : Sim D (Pr D (Lf a b) (Lf a (-b))) (Lf 1 σ) := by
  obtain ⟨k, hk⟩ := hσ
  obtain ⟨X, Y, Z, hXYZ⟩ := hg
  have hb0 : (2 * a, 0) ≠ ((0, 0) : Z2) := by
    intro h
    injection h with h1 _
    omega
  refine ⟨(1, 0), (2 * a, 0), by decide, hb0, ?_, ?_⟩
  · intro z hz
    induction hz with
    | @mul x y hx hy =>
      obtain ⟨x, x', rfl⟩ := hx
      obtain ⟨y, y', rfl⟩ := hy
      refine ⟨_, ⟨a * (x * y) - (b - k) * (x * y') + k * (x' * y) - c * (x' * y'), x * y' + x' * y, rfl⟩, ?_⟩
      unfold mulZ
      ext <;> simp only []
      · subst hk hD; grind
      · grind
    | add _ _ i1 i2 =>
      obtain ⟨w1, ⟨p1, p2, rfl⟩, f1⟩ := i1
      obtain ⟨w2, ⟨q1, q2, rfl⟩, f2⟩ := i2
      refine ⟨_, ⟨p1 + q1, p2 + q2, rfl⟩, ?_⟩
      rw [mulZ_add, f1, f2]
      unfold mulZ addZ
      ext <;> simp only [] <;> grind
  · rintro w ⟨x, y, rfl⟩
    have g1 : ∀ m : Int, Pr D (Lf a b) (Lf a (-b)) (mulZ D (2 * a * m, 0) (2 * a, 0)) := fun m => .mul ⟨m, 0, by simp⟩ ⟨1, 0, by simp⟩
    have g2 : ∀ m : Int, Pr D (Lf a b) (Lf a (-b)) (mulZ D (2 * a * m, 0) (-b, 1)) := fun m => .mul ⟨m, 0, by simp⟩ ⟨0, 1, by simp⟩
    have g3 : ∀ m : Int, Pr D (Lf a b) (Lf a (-b)) (mulZ D (b, 1) (2 * a * m, 0)) := fun m => .mul ⟨0, 1, by simp⟩ ⟨m, 0, by simp⟩
    have g4 : ∀ m : Int, Pr D (Lf a b) (Lf a (-b)) (mulZ D (m * b, m) (-b, 1)) := fun m => .mul ⟨0, m, by ext <;> simp only [] <;> grind⟩ ⟨0, 1, by simp⟩
    obtain ⟨m, hm⟩ : ∃ m, x - k * y = m := ⟨_, rfl⟩
    refine ⟨_, .add (.add (g1 (m * X)) (g2 (-(m * Y)))) (.add (g3 (m * Y + y)) (g4 (-(m * Z)))), ?_⟩
    clear g1 g2 g3 g4 hb0
    have hx : x = m + k * y := by omega
    unfold mulZ addZ
    ext
    · simp only []
      have e : 4 * a * m * (X * a + Y * b + Z * c) = 4 * a * m := by rw [hXYZ]; omega
      clear hm hXYZ
      subst hx hD hk
      grind
    · simp only []
      grind
end Go.Proofs.Ytlchmaiflcnaoaa
namespace Go.Proofs.Ytlchmaiflcnaoaa
/-- what the walk of compose asks of two reduced forms -/
structure CompAll (a1 b1 c1 a2 b2 c2 D : Int) : Prop where
  sm : (1 ≤ a1 ∧ a1 ≤ 1154701) ∧ (1 ≤ a2 ∧ a2 ≤ 1154701) ∧ (-1154701 ≤ b1 ∧ b1 ≤ 1154701) ∧ (-1154701 ≤ b2 ∧ b2 ≤ 1154701) ∧ (1 ≤ c2 ∧ c2 ≤ 1340000000000) ∧ D < 0
  half : ∃ s0 n : Int, b1 + b2 = 2 * s0 ∧ b2 = s0 + n ∧ (-1154701 ≤ s0 ∧ s0 ≤ 1154701)
  /-- the numbers that the two greatest divisors bring -/
  nums : ∀ s0 n d y1 w1 d1 x2 y2 : Int, b1 + b2 = 2 * s0 → b2 = s0 + n → d = Int.gcd a2 a1 → y1 * a2 + w1 * a1 = d → d1 = Int.gcd s0 d → x2 * s0 + y2 * d = d1 →
    ∃ v1 v2 : Int, a1 = d1 * v1 ∧ a2 = d1 * v2 ∧ 0 < d1 ∧ 0 < v1 ∧ 0 < v2 ∧ v1 ≤ 1154701 ∧ ∀ r t0 : Int, r = -(y1 * y2 * n) - x2 * c2 + v1 * t0 → 0 ≤ r → r < v1 →
      ∃ C : Int, c2 * d1 + r * (b2 + v2 * r) = v1 * C ∧ (b2 + 2 * v2 * r) * (b2 + 2 * v2 * r) - 4 * (v1 * v2) * C = D ∧ Sim D (Pr D (Lf a1 b1) (Lf a2 b2)) (Lf (v1 * v2) (b2 + 2 * v2 * r)) ∧
        ((1 ≤ v1 ∧ v1 ≤ 1154701) ∧ (1 ≤ v2 ∧ v2 ≤ 1154701) ∧ (1 ≤ d1 ∧ d1 ≤ 1154701) ∧ (1 ≤ v1 * v2 ∧ v1 * v2 ≤ 1400000000000) ∧ (0 ≤ v2 * r ∧ v2 * r ≤ 1400000000000) ∧ (0 ≤ c2 * d1 ∧ c2 * d1 ≤ 1340000000000) ∧ (-1700000000000000000 ≤ r * (b2 + v2 * r) ∧ r * (b2 + v2 * r) ≤ 1700000000000000000) ∧ 1 ≤ C ∧ C ≤ 3000000000000)
theorem par_half {b1 b2 x y D : Int} (h1 : D = b1 * b1 - 4 * x) (h2 : D = b2 * b2 - 4 * y) : ∃ s0 : Int, b1 + b2 = 2 * s0 := by
  have e : (b1 + b2) * (b2 - b1) = 4 * (y - x) := by grind
  rcases (show (b1 + b2) % 2 = 0 ∨ (b1 + b2) % 2 = 1 by omega) with h | h
  · exact ⟨(b1 + b2) / 2, by omega⟩
  · exfalso
    obtain ⟨k, hk⟩ : ∃ k, b1 + b2 = 2 * k + 1 := ⟨(b1 + b2) / 2, by omega⟩
    obtain ⟨l, hl⟩ : ∃ l, b2 - b1 = 2 * l + 1 := ⟨(b2 - b1) / 2, by omega⟩
    rw [hk, hl] at e
    have e2 : (2 * k + 1) * (2 * l + 1) = 4 * (k * l) + 2 * k + 2 * l + 1 := by grind
    omega
theorem comp_all {a1 b1 c1 a2 b2 c2 D : Int} (r1 : RedF a1 b1 c1) (r2 : RedF a2 b2 c2) (hD1 : D = b1 * b1 - 4 * a1 * c1) (hD2 : D = b2 * b2 - 4 * a2 * c2) (hlow : -4000000000000 ≤ D) (g1 : Int.gcd a1 (Int.gcd b1 c1) = 1) : CompAll a1 b1 c1 a2 b2 c2 D := by
  have k1 := red_bounds r1 hD1 hlow
  have k2 := red_bounds r2 hD2 hlow
  have p1 := r1.pos
  have p2 := r2.pos
  refine ⟨by omega, ?_, ?_⟩
  · obtain ⟨s0, hs⟩ := par_half (D := D) (b1 := b1) (b2 := b2) (x := a1 * c1) (y := a2 * c2) (by rw [← Int.mul_assoc]; exact hD1) (by rw [← Int.mul_assoc]; exact hD2)
    exact ⟨s0, b2 - s0, hs, by omega, by omega⟩
  · intro s0 n d y1 w1 d1 x2 y2 hs hn hd e1 hd1 e2
    have hdp : 0 < d := by
      rw [hd]
      have := Int.gcd_pos_of_ne_zero_left a1 (show a2 ≠ 0 by omega)
      omega
    have hd1p : 0 < d1 := by
      rw [hd1]
      have := Int.gcd_pos_of_ne_zero_right s0 (show d ≠ 0 by omega)
      omega
    obtain ⟨s, hs'⟩ : d1 ∣ s0 := by rw [hd1]; exact Int.gcd_dvd_left ..
    obtain ⟨dd, hdd⟩ : d1 ∣ d := by rw [hd1]; exact Int.gcd_dvd_right ..
    obtain ⟨v1, hv1⟩ : d1 ∣ a1 := Int.dvd_trans ⟨dd, hdd⟩ (by rw [hd]; exact Int.gcd_dvd_right ..)
    obtain ⟨v2, hv2⟩ : d1 ∣ a2 := Int.dvd_trans ⟨dd, hdd⟩ (by rw [hd]; exact Int.gcd_dvd_left ..)
    have hv1p : 0 < v1 := by
      apply Classical.byContradiction
      intro h
      have := Int.mul_le_mul_of_nonneg_left (show v1 ≤ 0 by omega) (show 0 ≤ d1 by omega)
      omega
    have hv2p : 0 < v2 := by
      apply Classical.byContradiction
      intro h
      have := Int.mul_le_mul_of_nonneg_left (show v2 ≤ 0 by omega) (show 0 ≤ d1 by omega)
      omega
    have hv1b : 1 * v1 ≤ d1 * v1 := Int.mul_le_mul_of_nonneg_right (by omega) (by omega)
    refine ⟨v1, v2, hv1, hv2, hd1p, hv1p, hv2p, by omega, fun r t0 hr hr0 hr1 => ?_⟩
    obtain ⟨t, u, hc⟩ := comp_make (s0 := s0) (n := n) hD1 hD2 hs (by omega) hv1 hv2 hs' hdd e1 e2 (by omega) hr
    obtain ⟨f1, f2⟩ := comp_third hc
    obtain ⟨X, Y, Z, hX⟩ := ibez3 g1
    have hk : (X * v1 + Y * s) * d1 + (-Y) * n + Z * c1 + 0 * c2 = 1 := by
      rw [← hX, hv1, hc.e3]; grind
    have hsim := comp_sim hc (by omega) (by omega) hk
    exact ⟨d1 * u + r * t, f1, f2, hsim, comp_bounds hv1 hv2 hd1p hv1p hv2p k1.1 k2.1 k2.2.1 ⟨k2.2.2.1, k2.2.2.2.1⟩ k2.2.2.2.2.2.1 ⟨hr0, hr1⟩ f1 f2 k2.2.2.2.2.2.2⟩
end Go.Proofs.Ytlchmaiflcnaoaa
namespace Go.Proofs.Ytlchmaiflcnaoaa
theorem comp_r {y1 y2 v1 N x2 c2 m1 m2 m3 r : Int} (h1 : y1 * y2 % v1 = m1) (h2 : m1 * N % v1 = m2) (h3 : x2 * c2 % v1 = m3) (h4 : (-m2 - m3) % v1 = r) : ∃ t0, r = -(y1 * y2 * N) - x2 * c2 + v1 * t0 := by
  have e1 := Int.mul_ediv_add_emod (y1 * y2) v1
  have e2 := Int.mul_ediv_add_emod (m1 * N) v1
  have e3 := Int.mul_ediv_add_emod (x2 * c2) v1
  have e4 := Int.mul_ediv_add_emod (-m2 - m3) v1
  rw [h1] at e1
  rw [h2] at e2
  rw [h3] at e3
  rw [h4] at e4
  generalize y1 * y2 / v1 = q1 at e1
  generalize m1 * N / v1 = q2 at e2
  generalize x2 * c2 / v1 = q3 at e3
  generalize (-m2 - m3) / v1 = q4 at e4
  refine ⟨q1 * N + q2 + q3 - q4, ?_⟩
  have f1 : y1 * y2 * N = v1 * q1 * N + m1 * N := by rw [← e1]; grind
  rw [f1, ← e2, ← e3]
  have f2 : r = -m2 - m3 - v1 * q4 := by omega
  rw [f2]
  grind
end Go.Proofs.Ytlchmaiflcnaoaa
namespace Go.Proofs.Ytlchmaiflcnaoaa
/-! the composed form has no divisor -/
/-- the number (B + sqrt D) / T carries a lattice into itself -/
def Mult (D B T : Int) (L : Z2 → Prop) : Prop := ∀ z, L z → ∃ z', L z' ∧ mulZ D (B, 1) z = mulZ D (T, 0) z'
theorem mulZ_cancel {D : Int} (hD : D < 0) {β x y : Z2} (hβ : β ≠ (0, 0)) (h : mulZ D β x = mulZ D β y) : x = y := by
  have e : mulZ D β (x.1 - y.1, x.2 - y.2) = (0, 0) := by
    have h1 := congrArg Prod.fst h
    have h2 := congrArg Prod.snd h
    unfold mulZ at h1 h2 ⊢
    simp only at h1 h2
    ext <;> simp only [] <;> grind
  have h0 : (x.1 - y.1, x.2 - y.2) = ((0, 0) : Z2) := by
    apply Classical.byContradiction
    intro hn
    exact mulZ_ne hD hβ hn e
  injection h0 with h1 h2
  exact Prod.ext (by omega) (by omega)
theorem Mult.sim {D B T : Int} (hD : D < 0) {L M : Z2 → Prop} (S : Sim D L M) (h : Mult D B T L) : Mult D B T M := by
  obtain ⟨α, β, _, hβ, k1, k2⟩ := S
  intro w hw
  obtain ⟨z, hz, e⟩ := k2 w hw
  obtain ⟨z', hz', f⟩ := h z hz
  obtain ⟨w', hw', e'⟩ := k1 z' hz'
  refine ⟨w', hw', mulZ_cancel hD hβ ?_⟩
  rw [← mulZ_assoc, mulZ_comm D β (B, 1), mulZ_assoc, ← e, ← mulZ_assoc, mulZ_comm D (B, 1) α, mulZ_assoc, f, ← mulZ_assoc, mulZ_comm D α (T, 0), mulZ_assoc, e', ← mulZ_assoc, mulZ_comm D (T, 0) β, mulZ_assoc]
theorem Mult.prod {D B T : Int} {L : Z2 → Prop} (N : Z2 → Prop) (h : Mult D B T L) : Mult D B T (Pr D L N) := by
  intro z hz
  induction hz with
  | @mul x y hx hy =>
    obtain ⟨x', hx', e⟩ := h x hx
    exact ⟨mulZ D x' y, .mul hx' hy, by rw [← mulZ_assoc, e, mulZ_assoc]⟩
  | add _ _ i1 i2 =>
    obtain ⟨w1, h1, f1⟩ := i1
    obtain ⟨w2, h2, f2⟩ := i2
    exact ⟨addZ w1 w2, .add h1 h2, by rw [mulZ_add, mulZ_add, f1, f2]⟩
theorem mult_form {A B C D t : Int} (hD : D = B * B - 4 * A * C) (h1 : t ∣ A) (h2 : t ∣ B) (h3 : t ∣ C) : Mult D B (2 * t) (Lf A B) := by
  obtain ⟨a, ha⟩ := h1
  obtain ⟨b, hb⟩ := h2
  obtain ⟨c, hc⟩ := h3
  rintro z ⟨x, y, rfl⟩
  refine ⟨_, ⟨-(c * y), a * x + b * y, rfl⟩, ?_⟩
  unfold mulZ
  ext <;> simp only []
  · rw [hD, ha, hb, hc]; grind
  · rw [ha, hb]; grind
theorem sigma_of {a b c D : Int} (hD : D = b * b - 4 * a * c) : ∃ σ c0 : Int, (∃ k, b = σ + 2 * k) ∧ D = σ * σ - 4 * c0 := by
  rcases (show b % 2 = 0 ∨ b % 2 = 1 by omega) with h | h
  · obtain ⟨k, hk⟩ : ∃ k, b = 2 * k := ⟨b / 2, by omega⟩
    exact ⟨0, a * c - k * k, ⟨k, by omega⟩, by rw [hD, hk]; grind⟩
  · obtain ⟨k, hk⟩ : ∃ k, b = 1 + 2 * k := ⟨b / 2, by omega⟩
    exact ⟨1, a * c - k * k - k, ⟨k, by omega⟩, by rw [hD, hk]; grind⟩
theorem prim_comp {a1 b1 c1 a2 b2 c2 A B C D : Int} (hD : D < 0) (hD1 : D = b1 * b1 - 4 * a1 * c1) (hD2 : D = b2 * b2 - 4 * a2 * c2) (hD3 : D = B * B - 4 * A * C) (ha1 : a1 ≠ 0) (ha2 : a2 ≠ 0) (g1 : Int.gcd a1 (Int.gcd b1 c1) = 1) (g2 : Int.gcd a2 (Int.gcd b2 c2) = 1) (S : Sim D (Pr D (Lf a1 b1) (Lf a2 b2)) (Lf A B)) : Int.gcd A (Int.gcd B C) = 1 := by
  obtain ⟨σ, c0, ⟨k1, hk1⟩, hσ⟩ := sigma_of hD1
  have hk2 : ∃ k, b2 = σ + 2 * k := by
    obtain ⟨s0, hs⟩ := par_half (D := D) (b1 := b1) (b2 := b2) (x := a1 * c1) (y := a2 * c2) (by rw [← Int.mul_assoc]; exact hD1) (by rw [← Int.mul_assoc]; exact hD2)
    exact ⟨s0 - σ - k1, by omega⟩
  obtain ⟨t, ht⟩ : ∃ t : Nat, Int.gcd A (Int.gcd B C) = t := ⟨_, rfl⟩
  have tA : (t : Int) ∣ A := by rw [← ht]; exact Int.gcd_dvd_left ..
  have tBC : (t : Int) ∣ (Int.gcd B C : Int) := by rw [← ht]; exact Int.gcd_dvd_right ..
  have tB : (t : Int) ∣ B := Int.dvd_trans tBC (Int.gcd_dvd_left ..)
  have tC : (t : Int) ∣ C := Int.dvd_trans tBC (Int.gcd_dvd_right ..)
  have m1 := (mult_form hD3 tA tB tC).sim hD S.symm
  have m2 := m1.prod (Pr D (Lf a1 (-b1)) (Lf a2 (-b2)))
  -- ((f g) (f' g')) is (f f') (g g'): the first one
  have s1 : Sim D (Pr D (Pr D (Lf a1 b1) (Lf a2 b2)) (Pr D (Lf a1 (-b1)) (Lf a2 (-b2)))) (Pr D (Pr D (Lf a1 b1) (Lf a1 (-b1))) (Pr D (Lf a2 b2) (Lf a2 (-b2)))) := by
    refine (Sim.assoc D _ _ _).trans hD (Sim.trans hD ?_ (Sim.assoc D _ _ _).symm)
    refine Sim.prod2 hD (Sim.refl D _) ?_
    refine (Sim.assoc D _ _ _).symm.trans hD (Sim.trans hD ?_ (Sim.assoc D _ _ _))
    exact (Sim.comm D _ _).prod _
  have s2 := Sim.prod2 hD (back_sim (σ := σ) hD1 ha1 ⟨k1, hk1⟩ (ibez3 g1)) (back_sim (σ := σ) hD2 ha2 hk2 (ibez3 g2))
  have s3 := first_sim (a := 1) (b := σ) (c := c0) (D := D) (σ := σ) (by rw [hσ]; omega) ⟨0, by omega⟩ c0 hσ
  have m3 := m2.sim hD ((s1.trans hD s2).trans hD s3)
  obtain ⟨_, ⟨x, y, rfl⟩, e⟩ := m3 (2, 0) ⟨1, 0, by simp⟩
  have e2 := congrArg Prod.snd e
  unfold mulZ at e2
  simp only at e2
  have e3 : (t : Int) * y = 1 := by
    have : 2 * ((t : Int) * y) = 2 := by grind
    omega
  have h1 : (t : Int) ∣ 1 := ⟨y, e3.symm⟩
  rw [ht]
  have := Int.le_of_dvd (by omega) h1
  have : t ≠ 0 := by rintro rfl; simp at e3
  omega
end Go.Proofs.Ytlchmaiflcnaoaa

namespace Go.Proofs.Ytlchmaiflcnaoaa

theorem Sqf.cop {n a b : Nat} (h : Sqf n) (hd : a * b ∣ n) (hn : n ≠ 0) : Nat.gcd a b = 1 := by
  have h1 : Nat.gcd a b * Nat.gcd a b ∣ n := Nat.dvd_trans (Nat.mul_dvd_mul (Nat.gcd_dvd_left a b) (Nat.gcd_dvd_right a b)) hd
  have h2 : Nat.gcd a b ≠ 0 := fun e => by rw [e] at h1; simp at h1; exact hn h1
  have h3 : ¬ 2 ≤ Nat.gcd a b := fun h2 => h _ h2 h1
  omega
theorem Sqf.of_dvd {n m : Nat} (h : Sqf n) (hd : m ∣ n) : Sqf m := fun p hp hm => h p hp (Nat.dvd_trans hm hd)

/-- a divisor of x that is coprime to y -/
theorem cop_dvd {a b : Nat} {x : Int} (h : Nat.gcd a b = 1) (hd : (a : Int) ∣ b * x) : (a : Int) ∣ x := by
  rw [Int.ofNat_dvd_left] at hd ⊢
  rw [Int.natAbs_mul, Int.natAbs_natCast] at hd
  exact Nat.Coprime.dvd_of_dvd_mul_left h hd
theorem three_dvd {a b c : Nat} {x : Int} (h1 : Nat.gcd a b = 1) (h2 : Nat.gcd a c = 1) (h3 : Nat.gcd b c = 1) (d1 : (a : Int) ∣ x) (d2 : (b : Int) ∣ x) (d3 : (c : Int) ∣ x) : ((a * b * c : Nat) : Int) ∣ x := by
  have k1 : a ∣ x.natAbs := Int.ofNat_dvd_left.1 d1
  have k2 : b ∣ x.natAbs := Int.ofNat_dvd_left.1 d2
  have k3 : c ∣ x.natAbs := Int.ofNat_dvd_left.1 d3
  have k4 : a * b ∣ x.natAbs := Nat.Coprime.mul_dvd_of_dvd_of_dvd h1 k1 k2
  have k5 : Nat.gcd (a * b) c = 1 := Nat.Coprime.mul_left h2 h3
  exact Int.ofNat_dvd_left.2 (Nat.Coprime.mul_dvd_of_dvd_of_dvd k5 k4 k3)

/-- the first solution -/
theorem first_sol {a b c : Nat} {r s t : Int} (ha : 0 < a) (hb : 0 < b) (hc : 0 < c) (hq : Sqf (a * b * c)) (hr : (a : Int) ∣ r * r - b * c) (hs : (b : Int) ∣ s * s - a * c) (ht : (c : Int) ∣ t * t + a * b) :
    ∃ x y z : Int, 0 < z ∧ (a : Int) * x * x + b * y * y = c * z * z := by
  have hn : a * b * c ≠ 0 := by
    have := Nat.mul_pos (Nat.mul_pos ha hb) hc
    omega
  have gab : Nat.gcd a b = 1 := hq.cop ⟨c, rfl⟩ hn
  have gac : Nat.gcd a c = 1 := hq.cop ⟨b, by grind⟩ hn
  have gbc : Nat.gcd b c = 1 := hq.cop ⟨a, by grind⟩ hn
  by_cases h1 : a = 1 ∧ b = 1 ∧ c = 1
  · obtain ⟨rfl, rfl, rfl⟩ := h1
    exact ⟨1, 0, 1, by omega, by omega⟩
  obtain ⟨X, X1, X2, X3⟩ := ceil_root (b * c) (Nat.mul_pos hb hc)
  obtain ⟨Y, Y1, Y2, Y3⟩ := ceil_root (a * c) (Nat.mul_pos ha hc)
  obtain ⟨Z, Z1, Z2, Z3⟩ := ceil_root (a * b) (Nat.mul_pos ha hb)
  have hmany : a * b * c < X * Y * Z := by
    refine Classical.byContradiction fun hle => ?_
    have hle : X * Y * Z ≤ a * b * c := by omega
    have m1 : X * X * (Y * Y) * (Z * Z) ≤ b * c * (a * c) * (a * b) := by
      have e1 : X * X * (Y * Y) * (Z * Z) = X * Y * Z * (X * Y * Z) := by grind
      have e2 : b * c * (a * c) * (a * b) = a * b * c * (a * b * c) := by grind
      rw [e1, e2]
      exact Nat.mul_le_mul hle hle
    have p1 : 0 < b * c := Nat.mul_pos hb hc
    have p2 : 0 < a * c := Nat.mul_pos ha hc
    have p3 : 0 < a * b := Nat.mul_pos ha hb
    -- all three are equal
    have q1 : X * X = b * c := by
      refine Classical.byContradiction fun hne => ?_
      have h2 : b * c + 1 ≤ X * X := by omega
      have h3 := Nat.mul_le_mul (Nat.mul_le_mul h2 Y2) Z2
      have h4 : (b * c + 1) * (a * c) * (a * b) = b * c * (a * c) * (a * b) + a * c * (a * b) := by grind
      have h5 := Nat.mul_pos p2 p3
      omega
    have q2 : Y * Y = a * c := by
      refine Classical.byContradiction fun hne => ?_
      have h2 : a * c + 1 ≤ Y * Y := by omega
      have h3 := Nat.mul_le_mul (Nat.mul_le_mul X2 h2) Z2
      have h4 : b * c * (a * c + 1) * (a * b) = b * c * (a * c) * (a * b) + b * c * (a * b) := by grind
      have h5 := Nat.mul_pos p1 p3
      omega
    have sX : ¬ 2 ≤ X := fun h2 => hq X h2 (by rw [q1]; exact ⟨a, by grind⟩)
    have sY : ¬ 2 ≤ Y := fun h2 => hq Y h2 (by rw [q2]; exact ⟨b, by grind⟩)
    have x1 : X = 1 := by omega
    have y1 : Y = 1 := by omega
    rw [x1] at q1
    rw [y1] at q2
    have := Nat.eq_one_of_mul_eq_one_right (show b * c = 1 by omega)
    have := Nat.eq_one_of_mul_eq_one_left (show b * c = 1 by omega)
    have := Nat.eq_one_of_mul_eq_one_right (show a * c = 1 by omega)
    omega
  obtain ⟨x, y, z, hne, hx, hy, hz, d1, d2, d3⟩ := drawers a b c X Y Z r s t ha hb hc hmany
  obtain ⟨f, hf⟩ : ∃ f, (a : Int) * x * x + b * y * y - c * z * z = f := ⟨_, rfl⟩
  have da : (a : Int) ∣ f := by
    refine cop_dvd gab ?_
    have e : (b : Int) * f = a * (b * (x * x)) + (b * y - r * z) * (b * y + r * z) + (r * r - b * c) * (z * z) := by rw [← hf]; grind
    rw [e]
    exact Int.dvd_add (Int.dvd_add (Int.dvd_mul_right _ _) (Int.dvd_mul_of_dvd_left d1)) (Int.dvd_mul_of_dvd_left hr)
  have db : (b : Int) ∣ f := by
    refine cop_dvd (by rw [Nat.gcd_comm]; exact gab) ?_
    have e : (a : Int) * f = b * (a * (y * y)) + (a * x - s * z) * (a * x + s * z) + (s * s - a * c) * (z * z) := by rw [← hf]; grind
    rw [e]
    exact Int.dvd_add (Int.dvd_add (Int.dvd_mul_right _ _) (Int.dvd_mul_of_dvd_left d2)) (Int.dvd_mul_of_dvd_left hs)
  have dc : (c : Int) ∣ f := by
    refine cop_dvd (by rw [Nat.gcd_comm]; exact gac) ?_
    have e : (a : Int) * f = c * (-(a * (z * z))) + (a * x - t * y) * (a * x + t * y) + (t * t + a * b) * (y * y) := by rw [← hf]; grind
    rw [e]
    exact Int.dvd_add (Int.dvd_add (Int.dvd_mul_right _ _) (Int.dvd_mul_of_dvd_left d3)) (Int.dvd_mul_of_dvd_left ht)
  have dd := three_dvd gab gac gbc da db dc
  -- how great f is
  have sq : ∀ (u : Int) (U : Nat), -(U : Int) < u → u < U → u * u ≤ ((U - 1) * (U - 1) : Nat) := fun u U h1 h2 => by
    have k1 : u.natAbs ≤ U - 1 := by omega
    have k2 := Nat.mul_le_mul k1 k1
    have k3 : ((u.natAbs * u.natAbs : Nat) : Int) = u * u := by rw [Int.natAbs_mul_self]
    omega
  have xx := sq x X hx.1 hx.2
  have yy := sq y Y hy.1 hy.2
  have zz := sq z Z hz.1 hz.2
  have xl : x * x + 1 ≤ ((b * c : Nat) : Int) := by omega
  have yl : y * y + 1 ≤ ((a * c : Nat) : Int) := by omega
  have zl : z * z + 1 ≤ ((a * b : Nat) : Int) := by omega
  have ax := Int.mul_le_mul_of_nonneg_left xl (show (0 : Int) ≤ a by omega)
  have bx := Int.mul_le_mul_of_nonneg_left yl (show (0 : Int) ≤ b by omega)
  have cx := Int.mul_le_mul_of_nonneg_left zl (show (0 : Int) ≤ c by omega)
  obtain ⟨N, hN⟩ : ∃ N, a * b * c = N := ⟨_, rfl⟩
  have ea : (a : Int) * ((b * c : Nat) : Int) = (N : Int) := by rw [← hN]; simp; grind
  have eb : (b : Int) * ((a * c : Nat) : Int) = (N : Int) := by rw [← hN]; simp; grind
  have ec : (c : Int) * ((a * b : Nat) : Int) = (N : Int) := by rw [← hN]; simp; grind
  rw [ea, Int.mul_add, Int.mul_one] at ax
  rw [eb, Int.mul_add, Int.mul_one] at bx
  rw [ec, Int.mul_add, Int.mul_one] at cx
  have nx := Int.mul_nonneg (show (0 : Int) ≤ a by omega) (sq_nn x)
  have ny := Int.mul_nonneg (show (0 : Int) ≤ b by omega) (sq_nn y)
  have nz := Int.mul_nonneg (show (0 : Int) ≤ c by omega) (sq_nn z)
  have hfe : (a : Int) * (x * x) + b * (y * y) - c * (z * z) = f := by rw [← hf]; grind
  rw [hN] at dd
  obtain ⟨k, hk⟩ := dd
  have hNp : (0 : Int) < N := by rw [← hN]; have := Nat.mul_pos (Nat.mul_pos ha hb) hc; omega
  have hk1 : k = 0 ∨ k = 1 := by
    have u1 : -(N : Int) < N * k := by omega
    have u2 : (N : Int) * k < 2 * N := by omega
    have v1 : -1 < k := by
      refine Classical.byContradiction fun hh => ?_
      have := Int.mul_le_mul_of_nonneg_left (show k ≤ -1 by omega) (show (0 : Int) ≤ N by omega)
      omega
    have v2 : k < 2 := by
      refine Classical.byContradiction fun hh => ?_
      have := Int.mul_le_mul_of_nonneg_left (show 2 ≤ k by omega) (show (0 : Int) ≤ N by omega)
      omega
    omega
  rcases hk1 with rfl | rfl
  · -- f = 0
    rw [Int.mul_zero] at hk
    have hzne : z ≠ 0 := by
      rintro rfl
      have e1 : (a : Int) * (x * x) = 0 := by simp at hfe; omega
      have e2 : (b : Int) * (y * y) = 0 := by simp at hfe; omega
      have x0 : x = 0 := by
        rcases Int.mul_eq_zero.1 e1 with h | h
        · omega
        · rcases Int.mul_eq_zero.1 h with h | h <;> exact h
      have y0 : y = 0 := by
        rcases Int.mul_eq_zero.1 e2 with h | h
        · omega
        · rcases Int.mul_eq_zero.1 h with h | h <;> exact h
      omega
    refine ⟨x, y, (z.natAbs : Int), by omega, ?_⟩
    have e : (z.natAbs : Int) * (z.natAbs : Int) = z * z := by rw [← Int.natCast_mul, Int.natAbs_mul_self]
    have e2 : (c : Int) * z.natAbs * z.natAbs = c * (z * z) := by rw [Int.mul_assoc, e]
    rw [e2]
    grind
  · -- f = a b c
    rw [Int.mul_one] at hk
    have hab : (0 : Int) < (a : Int) * b := Int.mul_pos (by omega) (by omega)
    have := sq_nn z
    refine ⟨x * z + b * y, y * z - a * x, z * z + a * b, by omega, ?_⟩
    have e1 : (a : Int) * x * x + b * y * y = c * (z * z + a * b) := by
      have e2 : (N : Int) = a * b * c := by rw [← hN]; simp
      rw [hk, e2] at hf
      grind
    have e3 : (a : Int) * (x * z + b * y) * (x * z + b * y) + b * (y * z - a * x) * (y * z - a * x) = (a * x * x + b * y * y) * (z * z + a * b) := by grind
    rw [e3, e1]

/-- d d divides c z z, and c has no square: d divides z -/
theorem sq_dvd {c d : Nat} {z : Nat} (hc : Sqf c) (hd : 0 < d) (h : d * d ∣ c * (z * z)) : d ∣ z := by
  obtain ⟨g, hg⟩ : ∃ g, Nat.gcd d z = g := ⟨_, rfl⟩
  have gp : 0 < g := by rw [← hg]; exact Nat.gcd_pos_of_pos_left _ hd
  obtain ⟨d', hd'⟩ : g ∣ d := by rw [← hg]; exact Nat.gcd_dvd_left _ _
  obtain ⟨z', hz'⟩ : g ∣ z := by rw [← hg]; exact Nat.gcd_dvd_right _ _
  have hcop : Nat.gcd d' z' = 1 := by
    have : Nat.gcd (g * d') (g * z') = g * Nat.gcd d' z' := Nat.gcd_mul_left _ _ _
    rw [← hd', ← hz', hg] at this
    exact Nat.eq_of_mul_eq_mul_left gp (by omega)
  obtain ⟨k, hk⟩ := h
  rw [hd', hz'] at hk
  have hk2 : c * (z' * z') = d' * d' * k := by
    have e : g * g * (c * (z' * z')) = g * g * (d' * d' * k) := by
      have e1 : c * (g * z' * (g * z')) = g * g * (c * (z' * z')) := by grind
      have e2 : g * d' * (g * d') * k = g * g * (d' * d' * k) := by grind
      rw [← e1, ← e2]
      exact hk
    exact Nat.eq_of_mul_eq_mul_left (Nat.mul_pos gp gp) e
  have c1 : Nat.Coprime (d' * d') (z' * z') := Nat.Coprime.mul_left (Nat.Coprime.mul_right hcop hcop) (Nat.Coprime.mul_right hcop hcop)
  have c2 : d' * d' ∣ c := c1.dvd_of_dvd_mul_right ⟨k, hk2⟩
  have c3 : ¬ 2 ≤ d' := fun h2 => hc d' h2 c2
  have c4 : d' ≠ 0 := fun e => by rw [e] at hd'; omega
  have c5 : d' = 1 := by omega
  rw [hd', hz', c5]
  exact ⟨z', by grind⟩

/-- Holzer's bound by Mordell's descent -/
theorem descend {a b c : Nat} (ha : 0 < a) (hb : 0 < b) (hc : 0 < c) (hq : Sqf (a * b * c)) : ∀ (N : Nat) (x y z : Int), z.toNat ≤ N → 0 < z → (a : Int) * x * x + b * y * y = c * z * z →
    ∃ x' y' z' : Int, 0 < z' ∧ z' * z' ≤ (a : Int) * b ∧ (a : Int) * x' * x' + b * y' * y' = c * z' * z' := by
  intro N
  induction N with
  | zero => intro x y z h1 h2 _; omega
  | succ N ih =>
    intro x y z hN hz h
    by_cases hs : z * z ≤ (a : Int) * b
    · exact ⟨x, y, z, hz, hs, h⟩
    obtain ⟨d, hd⟩ : ∃ d, Int.gcd x y = d := ⟨_, rfl⟩
    by_cases hd1 : d = 1
    · obtain ⟨u, v, huv⟩ : ∃ u v : Int, u * x + v * y = 1 := by
        obtain ⟨u, v, e⟩ := ibez x y
        rw [hd, hd1] at e
        exact ⟨u, v, e⟩
      obtain ⟨x', y', z', k1, k2, k3⟩ := mordell (by omega) (by omega) hz h huv (by omega)
      exact ih x' y' z' (by omega) k1 k3
    · have hd0 : d ≠ 0 := by
        intro e
        rw [e] at hd
        obtain ⟨hx, hy⟩ := Int.gcd_eq_zero_iff.1 hd
        subst hx hy
        have := Int.mul_pos (Int.mul_pos (show (0 : Int) < c by omega) hz) hz
        simp at h
        omega
      obtain ⟨x1, hx1⟩ : (d : Int) ∣ x := by rw [← hd]; exact Int.gcd_dvd_left _ _
      obtain ⟨y1, hy1⟩ : (d : Int) ∣ y := by rw [← hd]; exact Int.gcd_dvd_right _ _
      obtain ⟨zn, hzn⟩ : ∃ zn : Nat, z = zn := ⟨z.toNat, by omega⟩
      have hdd : d * d ∣ c * (zn * zn) := by
        have : ((d * d : Nat) : Int) ∣ ((c * (zn * zn) : Nat) : Int) := by
          refine ⟨a * x1 * x1 + b * y1 * y1, ?_⟩
          have e : ((c * (zn * zn) : Nat) : Int) = c * z * z := by rw [hzn]; simp; grind
          rw [e, ← h, hx1, hy1]
          simp
          grind
        exact Int.natCast_dvd_natCast.1 this
      obtain ⟨z1, hz1⟩ := sq_dvd (hq.of_dvd ⟨a * b, by grind⟩) (by omega) hdd
      have hzz : z = d * (z1 : Int) := by rw [hzn, hz1]; simp
      have hz1p : (0 : Int) < z1 := by
        rcases Nat.eq_zero_or_pos z1 with e | e
        · rw [e] at hzz; simp at hzz; omega
        · omega
      refine ih x1 y1 z1 ?_ hz1p ?_
      · have : 2 * z1 ≤ d * z1 := Nat.mul_le_mul_right z1 (by omega)
        omega
      · have e : (d : Int) * d * (a * x1 * x1 + b * y1 * y1) = d * d * (c * z1 * z1) := by
          have e1 : (d : Int) * d * (a * x1 * x1 + b * y1 * y1) = a * (d * x1) * (d * x1) + b * (d * y1) * (d * y1) := by grind
          have e2 : (d : Int) * d * (c * z1 * z1) = c * (d * z1) * (d * z1) := by grind
          rw [e1, e2, ← hx1, ← hy1, ← hzz]
          exact h
        exact Int.eq_of_mul_eq_mul_left (show (d : Int) * d ≠ 0 by have : (d : Int) ≠ 0 := (by omega); exact fun e0 => by rcases Int.mul_eq_zero.1 e0 with e1 | e1 <;> exact this e1) e
end Go.Proofs.Ytlchmaiflcnaoaa

namespace Go.Proofs.Ytlchmaiflcnaoaa

/-- a solution within Holzer's bounds -/
def HZ (a b c : Int) : Prop := ∃ x y z : Nat, (x ≠ 0 ∨ y ≠ 0 ∨ z ≠ 0) ∧ a * x * x + b * y * y + c * z * z = 0 ∧ x * x ≤ (b * c).natAbs ∧ y * y ≤ (a * c).natAbs ∧ z * z ≤ (a * b).natAbs
theorem HZ.swap {a b c : Int} (h : HZ a b c) : HZ a c b := by
  obtain ⟨x, y, z, h0, h1, h2, h3, h4⟩ := h
  exact ⟨x, z, y, by omega, by omega, by rw [Int.mul_comm c b]; exact h2, h4, h3⟩
theorem HZ.rot {a b c : Int} (h : HZ a b c) : HZ b a c := by
  obtain ⟨x, y, z, h0, h1, h2, h3, h4⟩ := h
  exact ⟨y, x, z, by omega, by omega, h3, h2, by rw [Int.mul_comm b a]; exact h4⟩
theorem HZ.neg {a b c : Int} (h : HZ (-a) (-b) (-c)) : HZ a b c := by
  obtain ⟨x, y, z, h0, h1, h2, h3, h4⟩ := h
  rw [Int.neg_mul_neg] at h2 h3 h4
  refine ⟨x, y, z, h0, ?_, h2, h3, h4⟩
  have e : -a * x * x + -b * y * y + -c * z * z = -(a * x * x + b * y * y + c * z * z) := by grind
  omega

theorem nat_sq_le {x : Int} {n : Int} (h : x * x ≤ n) : x.natAbs * x.natAbs ≤ n.natAbs := by
  have e : ((x.natAbs * x.natAbs : Nat) : Int) = x * x := Int.natAbs_mul_self
  have := sq_nn x
  omega
theorem abs_sq (a : Int) (x : Int) : a * (x.natAbs : Int) * (x.natAbs : Int) = a * x * x := by
  have e : (x.natAbs : Int) * (x.natAbs : Int) = x * x := by rw [← Int.natCast_mul, Int.natAbs_mul_self]
  rw [Int.mul_assoc, e, ← Int.mul_assoc]

theorem hz_pp {a b c : Int} (ha : 0 < a) (hb : 0 < b) (hc : c < 0) (hq : Sqf (a * b * c).natAbs) (ra : ∃ x, a ∣ x * x + b * c) (rb : ∃ x, b ∣ x * x + a * c) (rc : ∃ x, c ∣ x * x + a * b) : HZ a b c := by
  obtain ⟨A, rfl⟩ : ∃ A : Nat, a = A := ⟨a.toNat, by omega⟩
  obtain ⟨B, rfl⟩ : ∃ B : Nat, b = B := ⟨b.toNat, by omega⟩
  obtain ⟨C, rfl⟩ : ∃ C : Nat, c = -(C : Int) := ⟨(-c).toNat, by omega⟩
  have hq' : Sqf (A * B * C) := by
    have e : ((A : Int) * B * -(C : Int)).natAbs = A * B * C := by rw [Int.mul_neg, Int.natAbs_neg, Int.natAbs_mul, Int.natAbs_mul]; simp
    rwa [e] at hq
  obtain ⟨r, hr⟩ := ra
  obtain ⟨s, hs⟩ := rb
  obtain ⟨t, ht⟩ := rc
  have hr' : (A : Int) ∣ r * r - B * C := by rw [Int.mul_neg] at hr; exact hr
  have hs' : (B : Int) ∣ s * s - A * C := by rw [Int.mul_neg] at hs; exact hs
  have ht' : (C : Int) ∣ t * t + A * B := Int.neg_dvd.1 ht
  obtain ⟨x, y, z, k1, k2⟩ := first_sol (by omega) (by omega) (by omega) hq' hr' hs' ht'
  obtain ⟨x', y', z', m1, m2, m3⟩ := descend (by omega) (by omega) (by omega) hq' z.toNat x y z (Nat.le_refl _) k1 k2
  have nx := Int.mul_nonneg (show (0 : Int) ≤ A by omega) (sq_nn x')
  have ny := Int.mul_nonneg (show (0 : Int) ≤ B by omega) (sq_nn y')
  have mz := Int.mul_le_mul_of_nonneg_left m2 (show (0 : Int) ≤ C by omega)
  have e3 : (A : Int) * (x' * x') + B * (y' * y') = C * (z' * z') := by grind
  refine ⟨x'.natAbs, y'.natAbs, z'.natAbs, by omega, ?_, ?_, ?_, nat_sq_le m2⟩
  · rw [abs_sq, abs_sq, abs_sq]
    grind
  · rw [Int.mul_neg, Int.natAbs_neg]
    refine nat_sq_le ?_
    refine Int.le_of_mul_le_mul_left (a := (A : Int)) ?_ (by omega)
    have e : (A : Int) * (B * C) = C * (A * B) := by grind
    omega
  · rw [Int.mul_neg, Int.natAbs_neg]
    refine nat_sq_le ?_
    refine Int.le_of_mul_le_mul_left (a := (B : Int)) ?_ (by omega)
    have e : (B : Int) * (A * C) = C * (A * B) := by grind
    omega
theorem hz_c {a b c : Int} (h : (0 < a ∧ 0 < b ∧ c < 0) ∨ (a < 0 ∧ b < 0 ∧ 0 < c)) (hq : Sqf (a * b * c).natAbs) (ra : ∃ x, a ∣ x * x + b * c) (rb : ∃ x, b ∣ x * x + a * c) (rc : ∃ x, c ∣ x * x + a * b) : HZ a b c := by
  rcases h with ⟨h1, h2, h3⟩ | ⟨h1, h2, h3⟩
  · exact hz_pp h1 h2 h3 hq ra rb rc
  · refine HZ.neg (hz_pp (by omega) (by omega) (by omega) ?_ ?_ ?_ ?_)
    · have e : -a * -b * -c = -(a * b * c) := by grind
      rwa [e, Int.natAbs_neg]
    · obtain ⟨x, hx⟩ := ra; exact ⟨x, by rw [Int.neg_mul_neg]; exact Int.neg_dvd.2 hx⟩
    · obtain ⟨x, hx⟩ := rb; exact ⟨x, by rw [Int.neg_mul_neg]; exact Int.neg_dvd.2 hx⟩
    · obtain ⟨x, hx⟩ := rc; exact ⟨x, by rw [Int.neg_mul_neg]; exact Int.neg_dvd.2 hx⟩

/-- Legendre's condition -/
def LgCond (a b c : Int) : Prop := ¬ ((0 < a ∧ 0 < b ∧ 0 < c) ∨ (a < 0 ∧ b < 0 ∧ c < 0)) ∧ (∃ x, a ∣ x * x + b * c) ∧ (∃ x, b ∣ x * x + a * c) ∧ ∃ x, c ∣ x * x + a * b
theorem holzer {a b c : Int} (ha : a ≠ 0) (hb : b ≠ 0) (hc : c ≠ 0) (hq : Sqf (a * b * c).natAbs) (h : LgCond a b c) : HZ a b c := by
  obtain ⟨hs, ra, rb, rc⟩ := h
  by_cases h1 : (0 < a ∧ 0 < b ∧ c < 0) ∨ (a < 0 ∧ b < 0 ∧ 0 < c)
  · exact hz_c h1 hq ra rb rc
  by_cases h2 : (0 < a ∧ 0 < c ∧ b < 0) ∨ (a < 0 ∧ c < 0 ∧ 0 < b)
  · refine HZ.swap (hz_c h2 ?_ ?_ rc rb)
    · rw [show a * c * b = a * b * c by grind]; exact hq
    · obtain ⟨x, hx⟩ := ra; exact ⟨x, by rw [Int.mul_comm c b]; exact hx⟩
  · have h3 : (0 < b ∧ 0 < c ∧ a < 0) ∨ (b < 0 ∧ c < 0 ∧ 0 < a) := by omega
    refine HZ.rot (HZ.swap (hz_c h3 ?_ ?_ ?_ ra))
    · rw [show b * c * a = a * b * c by grind]; exact hq
    · obtain ⟨x, hx⟩ := rb; exact ⟨x, by rw [Int.mul_comm c a]; exact hx⟩
    · obtain ⟨x, hx⟩ := rc; exact ⟨x, by rw [Int.mul_comm b a]; exact hx⟩

/-- a number without squares that divides y y divides y -/
theorem sqf_dvd {g y : Nat} (hg : Sqf g) (h0 : 0 < g) (h : g ∣ y * y) : g ∣ y := by
  obtain ⟨d, hd⟩ : ∃ d, Nat.gcd g y = d := ⟨_, rfl⟩
  have dp : 0 < d := by rw [← hd]; exact Nat.gcd_pos_of_pos_left _ h0
  obtain ⟨g', hg'⟩ : d ∣ g := by rw [← hd]; exact Nat.gcd_dvd_left _ _
  obtain ⟨y', hy'⟩ : d ∣ y := by rw [← hd]; exact Nat.gcd_dvd_right _ _
  have hcop : Nat.gcd g' y' = 1 := by
    have : Nat.gcd (d * g') (d * y') = d * Nat.gcd g' y' := Nat.gcd_mul_left _ _ _
    rw [← hg', ← hy', hd] at this
    exact Nat.eq_of_mul_eq_mul_left dp (by omega)
  have h1 : g' ∣ d * (y' * y') := by
    obtain ⟨k, hk⟩ := h
    rw [hg', hy'] at hk
    refine ⟨k, Nat.eq_of_mul_eq_mul_left dp ?_⟩
    have e1 : d * y' * (d * y') = d * (d * (y' * y')) := by grind
    have e2 : d * g' * k = d * (g' * k) := by grind
    rw [← e1, ← e2]
    exact hk
  have h2 : g' ∣ d := Nat.Coprime.dvd_of_dvd_mul_right (Nat.Coprime.mul_right hcop hcop) h1
  have h3 : ¬ 2 ≤ g' := fun h2' => hg g' h2' (by rw [hg']; exact Nat.mul_dvd_mul h2 (Nat.dvd_refl g'))
  have h4 : g' ≠ 0 := fun e => by rw [e] at hg'; omega
  have h5 : g' = 1 := by omega
  rw [hg', h5, hy']
  exact ⟨y', by grind⟩

/-- out of a solution: a square by a -/
theorem need_a {a b c x y z : Int} (ha : a ≠ 0) (hb : b ≠ 0) (hc : c ≠ 0) (hq : Sqf (a * b * c).natAbs) (hg : Int.gcd x (Int.gcd y z) = 1) (h : a * x * x + b * y * y + c * z * z = 0) : ∃ t, a ∣ t * t + b * c := by
  have hn : (a * b * c).natAbs ≠ 0 := by
    intro e
    have := Int.natAbs_eq_zero.1 e
    rcases Int.mul_eq_zero.1 this with e1 | e1
    · rcases Int.mul_eq_zero.1 e1 with e2 | e2
      · exact ha e2
      · exact hb e2
    · exact hc e1
  obtain ⟨A, hA⟩ : ∃ A, a.natAbs = A := ⟨_, rfl⟩
  have hN : (a * b * c).natAbs = A * b.natAbs * c.natAbs := by rw [Int.natAbs_mul, Int.natAbs_mul, hA]
  rw [hN] at hq hn
  have gab : Nat.gcd A b.natAbs = 1 := hq.cop ⟨c.natAbs, rfl⟩ hn
  have Ap : 0 < A := by omega
  obtain ⟨g, hgg⟩ : ∃ g, Nat.gcd A z.natAbs = g := ⟨_, rfl⟩
  have gp : 0 < g := by rw [← hgg]; exact Nat.gcd_pos_of_pos_left _ Ap
  have gA : g ∣ A := by rw [← hgg]; exact Nat.gcd_dvd_left _ _
  have gz : (g : Int) ∣ z := Int.ofNat_dvd_left.2 (by rw [← hgg]; exact Nat.gcd_dvd_right _ _)
  have ga : (g : Int) ∣ a := Int.ofNat_dvd_left.2 (by rw [hA]; exact gA)
  have sg : Sqf g := hq.of_dvd (Nat.dvd_trans gA ⟨b.natAbs * c.natAbs, by grind⟩)
  have gb : Nat.gcd g b.natAbs = 1 := by
    have : Nat.gcd g b.natAbs ∣ Nat.gcd A b.natAbs := Nat.gcd_dvd_gcd_of_dvd_left _ gA
    rw [gab] at this
    exact Nat.dvd_one.1 this
  -- g divides y
  have gy : (g : Int) ∣ y := by
    have h1 : (g : Int) ∣ b * (y * y) := by
      have e : b * (y * y) = a * (-(x * x)) + z * (-(c * z)) := by grind
      rw [e]
      exact Int.dvd_add (Int.dvd_mul_of_dvd_left ga) (Int.dvd_mul_of_dvd_left gz)
    have h2 : g ∣ b.natAbs * (y.natAbs * y.natAbs) := by
      have := Int.ofNat_dvd_left.1 h1
      rwa [Int.natAbs_mul, Int.natAbs_mul] at this
    exact Int.ofNat_dvd_left.2 (sqf_dvd sg gp (Nat.Coprime.dvd_of_dvd_mul_left gb h2))
  -- g divides x
  have gx : (g : Int) ∣ x := by
    obtain ⟨a', ha'⟩ := gA
    obtain ⟨y1, hy1⟩ := gy
    obtain ⟨z1, hz1⟩ := gz
    have hcop : Nat.gcd g a' = 1 := by
      have h2 : Nat.gcd g a' * Nat.gcd g a' ∣ A := by rw [ha']; exact Nat.mul_dvd_mul (Nat.gcd_dvd_left _ _) (Nat.gcd_dvd_right _ _)
      have h3 : ¬ 2 ≤ Nat.gcd g a' := fun h => hq _ h (Nat.dvd_trans h2 ⟨b.natAbs * c.natAbs, by grind⟩)
      have := Nat.gcd_pos_of_pos_left a' gp
      omega
    have h1 : ((g * g : Nat) : Int) ∣ a * (x * x) := by
      refine ⟨-(b * (y1 * y1) + c * (z1 * z1)), ?_⟩
      have e : a * (x * x) = -(b * (y * y) + c * (z * z)) := by grind
      rw [e, hy1, hz1]
      simp
      grind
    have h2 : g * g ∣ A * (x.natAbs * x.natAbs) := by
      have := Int.ofNat_dvd_left.1 h1
      rwa [Int.natAbs_mul, Int.natAbs_mul, hA] at this
    have h3 : g ∣ a' * (x.natAbs * x.natAbs) := by
      obtain ⟨k, hk⟩ := h2
      refine ⟨k, Nat.eq_of_mul_eq_mul_left gp ?_⟩
      rw [ha'] at hk
      have e1 : g * a' * (x.natAbs * x.natAbs) = g * (a' * (x.natAbs * x.natAbs)) := by grind
      have e2 : g * g * k = g * (g * k) := by grind
      rw [← e1, ← e2]
      exact hk
    exact Int.ofNat_dvd_left.2 (sqf_dvd sg gp (Nat.Coprime.dvd_of_dvd_mul_left hcop h3))
  have g1 : g = 1 := by
    have : (g : Int) ∣ (Int.gcd x (Int.gcd y z) : Int) := Int.dvd_coe_gcd gx (Int.dvd_coe_gcd gy gz)
    rw [hg] at this
    have h2 : g ∣ 1 := by exact_mod_cast this
    exact Nat.dvd_one.1 h2
  -- z has an inverse
  obtain ⟨v, u, huv⟩ := ibez a z
  have e1 : Int.gcd a z = 1 := by
    show Nat.gcd a.natAbs z.natAbs = 1
    rw [hA, hgg, g1]
  rw [e1] at huv
  refine ⟨b * y * u, ?_⟩
  have e : b * y * u * (b * y * u) + b * c = a * (-(b * (x * x) * (u * u)) + b * c * v * (1 + u * z)) := by
    have k1 : b * (b * y * y) * (u * u) = b * (-(a * x * x) - c * z * z) * (u * u) := by
      rw [show b * y * y = -(a * x * x) - c * z * z by omega]
    have k2 : v * a = 1 - u * z := by
      have : ((1 : Nat) : Int) = 1 := rfl
      omega
    have k3 : a * (b * c * v * (1 + u * z)) = b * c * (v * a) * (1 + u * z) := by grind
    have k4 : a * (-(b * (x * x) * (u * u)) + b * c * v * (1 + u * z)) = a * (-(b * (x * x) * (u * u))) + a * (b * c * v * (1 + u * z)) := by grind
    rw [k4, k3, k2]
    grind
  rw [e]
  exact Int.dvd_mul_right _ _

/-- the way back -/
theorem legendre_back {a b c x y z : Int} (ha : a ≠ 0) (hb : b ≠ 0) (hc : c ≠ 0) (hq : Sqf (a * b * c).natAbs) (hne : x ≠ 0 ∨ y ≠ 0 ∨ z ≠ 0) (h : a * x * x + b * y * y + c * z * z = 0) : LgCond a b c := by
  obtain ⟨d, hd⟩ : ∃ d, Int.gcd x (Int.gcd y z) = d := ⟨_, rfl⟩
  have d0 : d ≠ 0 := by
    intro e
    rw [e] at hd
    obtain ⟨h1, h2⟩ := Int.gcd_eq_zero_iff.1 hd
    have h2' : Int.gcd y z = 0 := by omega
    obtain ⟨h3, h4⟩ := Int.gcd_eq_zero_iff.1 h2'
    omega
  obtain ⟨x1, hx1⟩ : (d : Int) ∣ x := by rw [← hd]; exact Int.gcd_dvd_left _ _
  have hyz : (d : Int) ∣ (Int.gcd y z : Int) := by rw [← hd]; exact Int.gcd_dvd_right _ _
  obtain ⟨y1, hy1⟩ : (d : Int) ∣ y := Int.dvd_trans hyz (Int.gcd_dvd_left _ _)
  obtain ⟨z1, hz1⟩ : (d : Int) ∣ z := Int.dvd_trans hyz (Int.gcd_dvd_right _ _)
  have hg1 : Int.gcd x1 (Int.gcd y1 z1) = 1 := by
    obtain ⟨e, he⟩ : ∃ e, Int.gcd x1 (Int.gcd y1 z1) = e := ⟨_, rfl⟩
    have k1 : (e : Int) ∣ x1 := by rw [← he]; exact Int.gcd_dvd_left _ _
    have k2 : (e : Int) ∣ (Int.gcd y1 z1 : Int) := by rw [← he]; exact Int.gcd_dvd_right _ _
    have k3 : (e : Int) ∣ y1 := Int.dvd_trans k2 (Int.gcd_dvd_left _ _)
    have k4 : (e : Int) ∣ z1 := Int.dvd_trans k2 (Int.gcd_dvd_right _ _)
    have k5 : ((d * e : Nat) : Int) ∣ (Int.gcd x (Int.gcd y z) : Int) := by
      rw [Int.natCast_mul]
      refine Int.dvd_coe_gcd (by rw [hx1]; exact Int.mul_dvd_mul (Int.dvd_refl _) k1) (Int.dvd_coe_gcd (by rw [hy1]; exact Int.mul_dvd_mul (Int.dvd_refl _) k3) (by rw [hz1]; exact Int.mul_dvd_mul (Int.dvd_refl _) k4))
    rw [hd] at k5
    have k6 : d * e ∣ d := Int.natCast_dvd_natCast.1 k5
    have k7 := Nat.le_of_dvd (by omega) k6
    have k8 : e ≠ 0 := fun h0 => by rw [h0] at k6; simp at k6; omega
    have k9 : ¬ 2 ≤ e := fun h2 => by
      have := Nat.mul_le_mul_left d h2
      omega
    omega
  have hd2 : (d : Int) * d ≠ 0 := fun e0 => by
    rcases Int.mul_eq_zero.1 e0 with e1 | e1 <;> omega
  have h1 : a * x1 * x1 + b * y1 * y1 + c * z1 * z1 = 0 := by
    have e : (d : Int) * d * (a * x1 * x1 + b * y1 * y1 + c * z1 * z1) = 0 := by
      have e1 : (d : Int) * d * (a * x1 * x1 + b * y1 * y1 + c * z1 * z1) = a * (d * x1) * (d * x1) + b * (d * y1) * (d * y1) + c * (d * z1) * (d * z1) := by grind
      rw [e1, ← hx1, ← hy1, ← hz1]
      exact h
    rcases Int.mul_eq_zero.1 e with e0 | e0
    · exact absurd e0 hd2
    · exact e0
  refine ⟨?_, need_a ha hb hc hq hg1 h1, ?_, ?_⟩
  · rintro (⟨p1, p2, p3⟩ | ⟨p1, p2, p3⟩)
    · have n1 := Int.mul_nonneg (show 0 ≤ a by omega) (sq_nn x)
      have n2 := Int.mul_nonneg (show 0 ≤ b by omega) (sq_nn y)
      have n3 := Int.mul_nonneg (show 0 ≤ c by omega) (sq_nn z)
      rw [Int.mul_assoc a, Int.mul_assoc b, Int.mul_assoc c] at h
      have zero : ∀ (k v : Int), 0 < k → k * (v * v) = 0 → v = 0 := fun k v hk e => by
        rcases Int.mul_eq_zero.1 e with e1 | e1
        · omega
        · rcases Int.mul_eq_zero.1 e1 with e2 | e2 <;> exact e2
      have := zero a x p1 (by omega)
      have := zero b y p2 (by omega)
      have := zero c z p3 (by omega)
      omega
    · have n1 := Int.mul_nonneg (show 0 ≤ -a by omega) (sq_nn x)
      have n2 := Int.mul_nonneg (show 0 ≤ -b by omega) (sq_nn y)
      have n3 := Int.mul_nonneg (show 0 ≤ -c by omega) (sq_nn z)
      rw [Int.mul_assoc a, Int.mul_assoc b, Int.mul_assoc c] at h
      rw [Int.neg_mul] at n1 n2 n3
      have zero : ∀ (k v : Int), k < 0 → k * (v * v) = 0 → v = 0 := fun k v hk e => by
        rcases Int.mul_eq_zero.1 e with e1 | e1
        · omega
        · rcases Int.mul_eq_zero.1 e1 with e2 | e2 <;> exact e2
      have := zero a x p1 (by omega)
      have := zero b y p2 (by omega)
      have := zero c z p3 (by omega)
      omega
  · have hq2 : Sqf (b * a * c).natAbs := by rw [show b * a * c = a * b * c by grind]; exact hq
    have hg2 : Int.gcd y1 (Int.gcd x1 z1) = 1 := by
      show Nat.gcd y1.natAbs (Nat.gcd x1.natAbs z1.natAbs) = 1
      have : Nat.gcd x1.natAbs (Nat.gcd y1.natAbs z1.natAbs) = 1 := hg1
      rw [← Nat.gcd_assoc, Nat.gcd_comm y1.natAbs, Nat.gcd_assoc]
      exact this
    exact need_a hb ha hc hq2 hg2 (by omega)
  · have hq2 : Sqf (c * a * b).natAbs := by rw [show c * a * b = a * b * c by grind]; exact hq
    have hg2 : Int.gcd z1 (Int.gcd x1 y1) = 1 := by
      show Nat.gcd z1.natAbs (Nat.gcd x1.natAbs y1.natAbs) = 1
      have : Nat.gcd x1.natAbs (Nat.gcd y1.natAbs z1.natAbs) = 1 := hg1
      rw [Nat.gcd_comm, Nat.gcd_assoc]
      exact this
    exact need_a hc ha hb hq2 hg2 (by omega)
end Go.Proofs.Ytlchmaiflcnaoaa

namespace Go.Proofs.Ytlchmaiflcnaoaa
open Go.RowKit

set_option maxRecDepth 100000 in
set_option maxHeartbeats 400000 in
theorem left_lg (a m : Int) (w : World) (hm : 0 < m) (hm2 : m ≤ 9223372036854775807) (_ha : -9223372036854775808 ≤ a) (_ha2 : a ≤ 9223372036854775807) :
    Calls Try.prog 52 #[.int .i64 a, .int .i64 m] w fun e w' => e = .returned (.int .i64 (a % m)) ∧ w = w' := by
  have h1 := Int.lt_tmod_of_pos a hm
  have h2 := Int.tmod_lt_of_pos a hm
  go_enter Try.func52, Try.ntmps52
  go_wp2
  · go_ret
    exact ⟨ret_int (tmod_neg_fix hm (by assumption)), rfl⟩
  · go_ret
    exact ⟨ret_int (tmod_pos_fix hm (by assumption)), rfl⟩

def lsB (a : Int) (m : Nat) : Bool := (List.range m).any fun y => (((y : Int) * (y : Int) - a) % (m : Int) == 0)
theorem ls_iff {a : Int} {m : Nat} (hm : 0 < m) : lsB a m = true ↔ ∃ x : Int, (m : Int) ∣ x * x - a := by
  unfold lsB
  rw [List.any_eq_true]
  constructor
  · rintro ⟨y, _, h⟩
    exact ⟨y, Int.dvd_of_emod_eq_zero (by simpa using h)⟩
  · rintro ⟨x, h⟩
    have h1 := Int.emod_nonneg x (b := (m : Int)) (by omega)
    have h2 := Int.emod_lt_of_pos x (b := (m : Int)) (by omega)
    refine ⟨(x % m).toNat, List.mem_range.2 (by omega), ?_⟩
    have e : (((x % m).toNat : Nat) : Int) = x % m := by omega
    rw [e, beq_iff_eq]
    rw [← Int.emod_eq_zero_of_dvd h, Int.sub_emod, Int.mul_emod (x % m), Int.emod_emod, ← Int.mul_emod, ← Int.sub_emod]
theorem ls_hit {a : Int} {m y : Nat} (hy : y < m) (h : ((y : Int) * (y : Int) - a) % (m : Int) = 0) : lsB a m = true := by
  unfold lsB
  rw [List.any_eq_true]
  exact ⟨y, List.mem_range.2 hy, by simpa using h⟩
theorem ls_end {a : Int} {m : Nat} (h : ∀ y : Nat, y < m → ¬ ((y : Int) * (y : Int) - a) % (m : Int) = 0) : lsB a m = false := by
  unfold lsB
  rw [List.any_eq_false]
  intro y hy
  simpa using h y (List.mem_range.1 hy)

set_option maxRecDepth 100000 in
set_option maxHeartbeats 800000 in
theorem leaves_any (a : Int) (m : Nat) (w : World) (hm : 0 < m) (hm2 : m ≤ 1000) (ha : a.natAbs ≤ 1000000) :
    Calls Try.prog 57 #[.int .i64 a, .int .i64 m] w fun e w' => e = .returned (.bool (lsB a m)) ∧ w' = w := by
  have HA := hide ha
  clear ha
  go_enter Try.func57, Try.ntmps57
  go_wp2_with fail
  go_loopw [5] (fun x wr => ∃ n : Nat, x = .int .i64 n ∧ n ≤ m ∧ Hid (∀ y : Nat, y < n → ¬ ((y : Int) * (y : Int) - a) % (m : Int) = 0) ∧ wr = w) (fun x _ => m - (intOf x).toNat)
  case atStart => exact ⟨0, rfl, by omega, hide (fun y hy => absurd hy (by omega)), rfl⟩
  case round =>
    obtain ⟨n, rfl, hn, HN, rfl⟩ := hrel
    by_cases hlt : n < m
    · have e0 := Nat.mul_le_mul (show n ≤ 1000 by omega) (show n ≤ 1000 by omega)
      have e1 : ((n * n : Nat) : Int) = (n : Int) * n := by simp
      have w1 : IntKind.i64.wrap ((n : Int) * (n : Int)) = (n : Int) * n := by rw [IntKind.wrap_i64]; omega
      have hA := HA.out
      have w2 : IntKind.i64.wrap ((n : Int) * (n : Int) - a) = (n : Int) * n - a := by rw [IntKind.wrap_i64]; omega
      have C := fun W => hide (left_lg ((n : Int) * n - a) (m : Int) W (by omega) (by omega) (by omega) (by omega))
      clear hA e0 e1
      obtain ⟨r, hr⟩ : ∃ r, ((n : Int) * (n : Int) - a) % (m : Int) = r := ⟨_, rfl⟩
      rw [hr] at C
      by_cases h0 : r = 0
      · have HF := hide (ls_hit hlt (hr.trans h0))
        clear hr
        subst h0
        go_wp2_with fail
        refine (C _).out.mono ?_
        rintro e w1 ⟨rfl, rfl⟩
        go_wp2_with fail
        go_ret
        exact ⟨by rw [HF.out]; rfl, rfl⟩
      · have HN2 : Hid (∀ y : Nat, y < n + 1 → ¬ ((y : Int) * (y : Int) - a) % (m : Int) = 0) := by
          refine hide (fun y hy => ?_)
          rcases Nat.lt_succ_iff_lt_or_eq.1 hy with h | rfl
          · exact HN.out y h
          · rw [hr]; exact h0
        clear hr
        go_wp2_with fail
        refine (C _).out.mono ?_
        rintro e w1 ⟨rfl, rfl⟩
        go_wp2_with fail
        exact ⟨⟨n + 1, by simp, by omega, HN2, trivial⟩, by simp [intOf]; omega⟩
    · obtain rfl : n = m := by omega
      have HF := hide (ls_end HN.out)
      go_wp2_with fail
      go_ret
      exact ⟨by rw [HF.out]; rfl, rfl⟩

/-- Legendre's condition as the answers reckon it -/
def lgB (a b c : Int) : Bool := !(decide ((0 < a ∧ 0 < b ∧ 0 < c) ∨ (a < 0 ∧ b < 0 ∧ c < 0))) && (lsB (-b * c) a.natAbs && lsB (-a * c) b.natAbs && lsB (-a * b) c.natAbs)
theorem ls_abs {a n : Int} (ha : a ≠ 0) : lsB (-n) a.natAbs = true ↔ ∃ x, a ∣ x * x + n := by
  rw [ls_iff (by omega)]
  constructor
  · rintro ⟨x, h⟩; exact ⟨x, by rw [Int.natAbs_dvd, Int.sub_neg] at h; exact h⟩
  · rintro ⟨x, h⟩; exact ⟨x, by rw [Int.natAbs_dvd, Int.sub_neg]; exact h⟩
theorem lgB_iff {a b c : Int} (ha : a ≠ 0) (hb : b ≠ 0) (hc : c ≠ 0) : lgB a b c = true ↔ LgCond a b c := by
  unfold lgB LgCond
  rw [Bool.and_eq_true, Bool.and_eq_true, Bool.and_eq_true, Int.neg_mul, Int.neg_mul, Int.neg_mul, ls_abs ha, ls_abs hb, ls_abs hc, Bool.not_eq_true', decide_eq_false_iff_not, and_assoc]

set_option maxRecDepth 100000 in
set_option maxHeartbeats 3200000 in
theorem legHas_any (a b c : Int) (w : World) (ha : a ≠ 0) (hb : b ≠ 0) (hc : c ≠ 0) (a1 : a.natAbs ≤ 1000) (b1 : b.natAbs ≤ 1000) (c1 : c.natAbs ≤ 1000) :
    Calls Try.prog 24 #[.int .i64 a, .int .i64 b, .int .i64 c] w fun e w' => e = .returned (.bool (lgB a b c)) ∧ w' = w := by
  have e1 := abs_mul_le (x := -b) (y := c) (p := 1000) (q := 1000) (by omega) (by omega)
  have e2 := abs_mul_le (x := -a) (y := c) (p := 1000) (q := 1000) (by omega) (by omega)
  have e3 := abs_mul_le (x := -a) (y := b) (p := 1000) (q := 1000) (by omega) (by omega)
  have CA := fun W => hide (size_any a W (by omega) (by omega))
  have CB := fun W => hide (size_any b W (by omega) (by omega))
  have CC := fun W => hide (size_any c W (by omega) (by omega))
  have LA := fun W => hide (leaves_any (-b * c) a.natAbs W (by omega) a1 (by omega))
  have LB := fun W => hide (leaves_any (-a * c) b.natAbs W (by omega) b1 (by omega))
  have LC := fun W => hide (leaves_any (-a * b) c.natAbs W (by omega) c1 (by omega))
  have v1 : IntKind.i64.wrap (-a) = -a := by rw [IntKind.wrap_i64]; omega
  have v2 : IntKind.i64.wrap (-b) = -b := by rw [IntKind.wrap_i64]; omega
  have w1 : IntKind.i64.wrap (-b * c) = -b * c := by rw [IntKind.wrap_i64]; omega
  have w2 : IntKind.i64.wrap (-a * c) = -a * c := by rw [IntKind.wrap_i64]; omega
  have w3 : IntKind.i64.wrap (-a * b) = -a * b := by rw [IntKind.wrap_i64]; omega
  clear e1 e2 e3
  obtain ⟨P, hP⟩ : ∃ P, decide ((0 < a ∧ 0 < b ∧ 0 < c) ∨ (a < 0 ∧ b < 0 ∧ c < 0)) = P := ⟨_, rfl⟩
  obtain ⟨s1, h1⟩ : ∃ s, lsB (-b * c) a.natAbs = s := ⟨_, rfl⟩
  obtain ⟨s2, h2⟩ : ∃ s, lsB (-a * c) b.natAbs = s := ⟨_, rfl⟩
  obtain ⟨s3, h3⟩ : ∃ s, lsB (-a * b) c.natAbs = s := ⟨_, rfl⟩
  unfold lgB
  rw [hP, h1, h2, h3]
  rw [h1] at LA
  rw [h2] at LB
  rw [h3] at LC
  clear h1 h2 h3
  have ga : (decide (0 < a) = true ∧ decide (a < 0) = false) ∨ (decide (0 < a) = false ∧ decide (a < 0) = true) := by simp only [decide_eq_true_eq, decide_eq_false_iff_not]; omega
  have gb : (decide (0 < b) = true ∧ decide (b < 0) = false) ∨ (decide (0 < b) = false ∧ decide (b < 0) = true) := by simp only [decide_eq_true_eq, decide_eq_false_iff_not]; omega
  have gc : (decide (0 < c) = true ∧ decide (c < 0) = false) ∨ (decide (0 < c) = false ∧ decide (c < 0) = true) := by simp only [decide_eq_true_eq, decide_eq_false_iff_not]; omega
  have HP : Hid (P = ((decide (0 < a) && decide (0 < b) && decide (0 < c)) || (decide (a < 0) && decide (b < 0) && decide (c < 0)))) := hide (by rw [← hP]; simp [Bool.decide_or, Bool.decide_and, Bool.and_assoc])
  clear hP ha hb hc a1 b1 c1
  rcases ga with ⟨p1, p2⟩ | ⟨p1, p2⟩ <;> rcases gb with ⟨q1, q2⟩ | ⟨q1, q2⟩ <;> rcases gc with ⟨r1, r2⟩ | ⟨r1, r2⟩ <;>
    (obtain rfl := HP.out; simp only [p1, p2, q1, q2, r1, r2, Bool.and_true, Bool.and_false, Bool.or_false, Bool.or_true, Bool.true_and, Bool.false_and, Bool.not_true, Bool.not_false]; clear HP)
  all_goals
    go_enter Try.func24, Try.ntmps24
    go_wp2_with fail
    all_goals first
      | (go_ret; exact ⟨rfl, rfl⟩)
      | (refine (CA _).out.mono ?_
         rintro e w1 ⟨rfl, rfl⟩
         go_wp2_with fail
         refine (LA _).out.mono ?_
         rintro e w1 ⟨rfl, rfl⟩
         cases s1
         · go_wp2_with fail
           go_ret
           exact ⟨rfl, rfl⟩
         · go_wp2_with fail
           refine (CB _).out.mono ?_
           rintro e w1 ⟨rfl, rfl⟩
           go_wp2_with fail
           refine (LB _).out.mono ?_
           rintro e w1 ⟨rfl, rfl⟩
           cases s2
           · go_wp2_with fail
             go_ret
             exact ⟨rfl, rfl⟩
           · go_wp2_with fail
             refine (CC _).out.mono ?_
             rintro e w1 ⟨rfl, rfl⟩
             go_wp2_with fail
             refine (LC _).out.mono ?_
             rintro e w1 ⟨rfl, rfl⟩
             cases s3
             all_goals
               go_wp2_with fail
               go_ret
               exact ⟨rfl, rfl⟩)
end Go.Proofs.Ytlchmaiflcnaoaa

namespace Go.Proofs.Ytlchmaiflcnaoaa
open Go.RowKit

theorem pow_mono {a b : Nat} (k : Nat) (h : a ≤ b) : a ^ k ≤ b ^ k := Nat.pow_le_pow_left h k

set_option maxRecDepth 100000 in
set_option maxHeartbeats 800000 in
theorem above_any (r k n : Nat) (w : World) (hr : r ≤ 1000000000000000000) (hk : k ≤ 60) (hn : n ≤ 1000000000000000000) :
    Calls Try.prog 75 #[.int .i64 r, .int .i64 k, .int .i64 n] w fun e w' => e = .returned (.bool (decide (n < r ^ k))) ∧ w = w' := by
  have R0 : Hid ((1 : Nat) = r ^ 0) := by unfold Hid; simp
  go_enter Try.func75, Try.ntmps75
  go_wp2_with fail
  go_loopw [7, 9] (fun x y wr => ∃ p j : Nat, x = .int .i64 p ∧ y = .int .i64 j ∧ j ≤ k ∧ p ≤ 1000000000000000000 ∧ Hid (p = r ^ j) ∧ wr = w) (fun _ y _ => k - (intOf y).toNat)
  case atStart => exact ⟨1, 0, rfl, rfl, by omega, by omega, R0, rfl⟩
  case round =>
    clear R0
    obtain ⟨p, j, rfl, rfl, hj, hp, HP, rfl⟩ := hrel
    by_cases hjk : j < k
    · by_cases hr0 : r = 0
      · subst hr0
        have HP2 : Hid (0 = 0 ^ (j + 1)) := by unfold Hid; simp
        go_wp2_with fail
        exact ⟨⟨0, j + 1, by simp, by simp, by omega, by omega, HP2, trivial⟩, by simp [intOf]; omega⟩
      · have hrp : 0 < r := by omega
        have hq1 : decide (0 < r) = true := by simp; omega
        have e1 : (n : Int) / (r : Int) = ((n / r : Nat) : Int) := rfl
        have hle := Nat.le_div_iff_mul_le (x := p) (y := n) (k := r) (by omega)
        have hdl : n / r ≤ n := Nat.div_le_self _ _
        obtain ⟨z, hz⟩ : ∃ z, n / r = z := ⟨_, rfl⟩
        rw [hz] at e1 hle hdl
        by_cases hgt : z < p
        · have HE : Hid (decide (n < r ^ k) = true) := by
            unfold Hid
            rw [decide_eq_true_eq]
            have h1 : n < p * r := by
              rcases Nat.lt_or_ge n (p * r) with h | h
              · exact h
              · have := hle.2 h; omega
            rw [HP.out, ← Nat.pow_succ] at h1
            exact Nat.lt_of_lt_of_le h1 (Nat.pow_le_pow_right (by omega) hjk)
          have q2 : decide (z < p) = true := by simpa using hgt
          have q3 : decide ((z : Int) < (p : Int)) = true := by rw [decide_eq_true_eq]; omega
          clear hle hz hr0 hgt
          go_wp2_with fail
          go_ret
          exact ⟨by rw [HE.out]; rfl, rfl⟩
        · have hpr : p * r ≤ n := hle.1 (by omega)
          have HP2 : Hid (p * r = r ^ (j + 1)) := by unfold Hid; rw [Nat.pow_succ, ← HP.out]
          have q2 : decide (z < p) = false := by simpa using hgt
          have e2 : IntKind.i64.wrap ((p : Int) * (r : Int)) = ((p * r : Nat) : Int) := by rw [IntKind.wrap_i64, ← Int.natCast_mul]; omega
          have e3 : wrap64 ((p : Int) * (r : Int)) = ((p * r : Nat) : Int) := by unfold wrap64; rw [← Int.natCast_mul]; omega
          obtain ⟨t, ht⟩ : ∃ t, p * r = t := ⟨_, rfl⟩
          rw [ht] at hpr HP2 e2 e3
          clear hle hz hr0 hgt ht
          go_wp2_with fail
          exact ⟨⟨t, j + 1, rfl, by simp, by omega, by omega, HP2, trivial⟩, by simp [intOf]; omega⟩
    · obtain rfl : j = k := by omega
      have HE : Hid (decide (n < r ^ j) = decide (n < p)) := by unfold Hid; rw [← HP.out]
      go_wp2_with fail
      all_goals
        go_ret
        exact ⟨by rw [HE.out]; first | rfl | simp, rfl⟩

set_option maxRecDepth 100000 in
set_option maxHeartbeats 800000 in
theorem floor_any (n k : Nat) (w : World) (hk1 : 1 ≤ k) (hk : k ≤ 60) (hn : n ≤ 1000000000000000000) :
    Calls Try.prog 40 #[.int .i64 n, .int .i64 k] w fun e w' => ∃ r : Nat, e = .returned (.int .i64 r) ∧ r ≤ n ∧ r ^ k ≤ n ∧ n < (r + 1) ^ k ∧ w = w' := by
  have R0 : Hid (0 ^ k ≤ n ∧ n < (n + 1) ^ k) := by
    unfold Hid
    refine ⟨by rw [Nat.zero_pow (by omega)]; omega, ?_⟩
    have := Nat.pow_le_pow_right (n := n + 1) (by omega) hk1
    rw [Nat.pow_one] at this
    omega
  go_enter Try.func40, Try.ntmps40
  go_wp2_with fail
  go_loopw [5, 6] (fun x y wr => ∃ lo hi : Nat, x = .int .i64 lo ∧ y = .int .i64 hi ∧ lo ≤ hi ∧ hi ≤ n ∧ Hid (lo ^ k ≤ n ∧ n < (hi + 1) ^ k) ∧ wr = w) (fun x y _ => (intOf y).toNat - (intOf x).toNat)
  case atStart => exact ⟨0, n, rfl, rfl, by omega, by omega, R0, rfl⟩
  case round =>
    clear R0
    obtain ⟨lo, hi, rfl, rfl, hlh, hhn, HI, rfl⟩ := hrel
    by_cases hlt : lo < hi
    · obtain ⟨mid, hm⟩ : ∃ mid, lo + (hi - lo + 1) / 2 = mid := ⟨_, rfl⟩
      have e1 : (lo : Int) + ((hi : Int) - (lo : Int) + 1) / 2 = (mid : Int) := by omega
      have hm1 : lo < mid := by omega
      have hm2 : mid ≤ hi := by omega
      have C := fun W => hide (above_any mid k n W (by omega) hk hn)
      clear hm
      by_cases hab : n < mid ^ k
      · have HI2 : Hid (lo ^ k ≤ n ∧ n < (mid - 1 + 1) ^ k) := ⟨HI.out.1, by rw [show mid - 1 + 1 = mid from by omega]; exact hab⟩
        rw [show decide (n < mid ^ k) = true from by simpa using hab] at C
        obtain ⟨m', rfl⟩ : ∃ m', mid = m' + 1 := ⟨mid - 1, by omega⟩
        rw [show m' + 1 - 1 = m' from by omega] at HI2
        clear hab
        go_wp2_with fail
        refine (C _).out.mono ?_
        rintro e w1 ⟨rfl, rfl⟩
        go_wp2_with fail
        exact ⟨⟨lo, m', rfl, by simp, by omega, by omega, HI2, trivial⟩, by simp [intOf]; omega⟩
      · have HI2 : Hid (mid ^ k ≤ n ∧ n < (hi + 1) ^ k) := ⟨by omega, HI.out.2⟩
        rw [show decide (n < mid ^ k) = false from by simpa using hab] at C
        clear hab
        go_wp2_with fail
        refine (C _).out.mono ?_
        rintro e w1 ⟨rfl, rfl⟩
        go_wp2_with fail
        exact ⟨⟨mid, hi, rfl, rfl, by omega, by omega, HI2, trivial⟩, by simp [intOf]; omega⟩
    · obtain rfl : lo = hi := by omega
      go_wp2_with fail
      go_ret
      exact ⟨lo, rfl, hhn, HI.out.1, HI.out.2, rfl⟩
end Go.Proofs.Ytlchmaiflcnaoaa

namespace Go.Proofs.Ytlchmaiflcnaoaa
open Go.RowKit

/-- a block of cells -/
def OB (W : World) (g : Nat) (vs : Array Value) (T : TypeId) : Prop := W.heap[g]? = some (.cells vs T (0, 0))
theorem OB.made (w : World) (vs : Array Value) (T : TypeId) : OB (w.alloc (.cells vs T)) w.heap.size vs T := by
  show (w.heap.push _)[w.heap.size]? = _
  simp
theorem OB.lt {w : World} {g : Nat} {vs : Array Value} {T : TypeId} (h : OB w g vs T) : g < w.heap.size := heap_lt h
theorem OB.below {w w' : World} {g : Nat} {vs : Array Value} {T : TypeId} (h : OB w g vs T) (k : Below w.heap.size w w') : OB w' g vs T := (k.block g h.lt).trans h
theorem OB.cell {w : World} {g : Nat} {vs : Array Value} {T : TypeId} (h : OB w g vs T) {i : Nat} {v : Value} (hv : vs[i]? = some v) : w.cell? ⟨g, i, none⟩ = some v := by
  unfold OB at h
  simp [World.cell?, h, hv]
theorem OB.frozen {w : World} {g : Nat} {vs : Array Value} {T : TypeId} (h : OB w g vs T) (k : Nat) : w.frozen? ⟨g, k, none⟩ = false := by
  unfold OB at h
  simp [World.frozen?, h]
theorem OB.far {w : World} {g : Nat} {vs : Array Value} {T : TypeId} (h : OB w g vs T) {p : Addr} (hp : g ≠ p.block) (v : Value) : OB (w.setCell p v) g vs T := (Below.heap_setCell _ _ _ _ hp).trans h
theorem OB.set {w : World} {g : Nat} {vs : Array Value} {T : TypeId} (h : OB w g vs T) (i : Nat) (v : Value) : OB (w.setCell ⟨g, i, none⟩ v) g (vs.setIfInBounds i v) T := by
  unfold OB at h ⊢
  simp [World.setCell, Array.getElem?_modify, h]

def tri (a b c : Int) (i : Nat) : Int := if i = 0 then a else if i = 1 then b else c
/-- Legendre's numbers in memory -/
structure LgM (W : World) (s l n : Nat) (a b c : Int) (N : Nat) (T : TypeId) : Prop where
  hs : OB W s #[.int .i64 a, .int .i64 b, .int .i64 c] T
  hl : OB W l #[.slice (some ⟨s, 0, none⟩) 3 3] 53
  hn : OB W n #[.int .i64 (N : Int)] 3
theorem LgM.below {W W' : World} {s l n : Nat} {a b c : Int} {N : Nat} {T : TypeId} (h : LgM W s l n a b c N T) (k : Below W.heap.size W W') : LgM W' s l n a b c N T := ⟨h.hs.below k, h.hl.below k, h.hn.below k⟩
theorem LgM.at {W : World} {s l n : Nat} {a b c : Int} {N : Nat} {T : TypeId} (h : LgM W s l n a b c N T) {i : Nat} (hi : i < 3) : W.cell? ⟨s, i, none⟩ = some (.int .i64 (tri a b c i)) := by
  refine h.hs.cell ?_
  rcases (by omega : i = 0 ∨ i = 1 ∨ i = 2) with rfl | rfl | rfl <;> rfl
theorem LgM.cells {W : World} {s l n : Nat} {a b c : Int} {N : Nat} {T : TypeId} (h : LgM W s l n a b c N T) : W.cell? ⟨l, 0, none⟩ = some (.slice (some ⟨s, 0, none⟩) 3 3) ∧ W.cell? ⟨n, 0, none⟩ = some (.int .i64 (N : Int)) := ⟨h.hl.cell rfl, h.hn.cell rfl⟩

set_option maxRecDepth 100000 in
theorem eabs_any (x : Int) (w : World) (hx : x.natAbs ≤ 1000000000000000000) :
    Calls Try.prog 54 #[.int .i64 x] w fun e w' => e = .returned (.int .i64 (x.natAbs : Int)) ∧ w' = w := by
  have h1 : IntKind.i64.wrap (-x) = -x := by rw [IntKind.wrap_i64]; omega
  have h2 : max x (-x) = (x.natAbs : Int) := by omega
  clear hx
  go_enter Try.func54, Try.ntmps54
  go_wp2_with fail
  all_goals
    go_ret
    exact ⟨by first | rfl | (rw [h2]; rfl) | exact congrArg (fun z => Ending.returned (Value.int .i64 z)) (show _ = (x.natAbs : Int) by omega), rfl⟩

theorem root_ex : ∀ q : Nat, ∃ r : Nat, r * r ≤ q ∧ q < (r + 1) * (r + 1)
  | 0 => ⟨0, by omega, by omega⟩
  | q + 1 => by
    obtain ⟨r, h1, h2⟩ := root_ex q
    by_cases h : q + 1 < (r + 1) * (r + 1)
    · exact ⟨r, by omega, h⟩
    · refine ⟨r + 1, by omega, ?_⟩
      have : (r + 1 + 1) * (r + 1 + 1) = (r + 1) * (r + 1) + 2 * (r + 1) + 1 := by grind
      omega
theorem root_one {q r t : Nat} (h1 : r * r ≤ q) (h2 : q < (r + 1) * (r + 1)) (k1 : t * t ≤ q) (k2 : q < (t + 1) * (t + 1)) : r = t := by
  rcases Nat.lt_trichotomy r t with h | h | h
  · have := Nat.mul_le_mul (show r + 1 ≤ t by omega) (show r + 1 ≤ t by omega); omega
  · exact h
  · have := Nat.mul_le_mul (show t + 1 ≤ r by omega) (show t + 1 ≤ r by omega); omega
theorem floor2 (q r : Nat) (w : World) (hq : q ≤ 1000000000000000000) (h1 : r * r ≤ q) (h2 : q < (r + 1) * (r + 1)) :
    Calls Try.prog 40 #[.int .i64 (q : Int), .int .i64 2] w fun e w' => e = .returned (.int .i64 (r : Int)) ∧ w' = w := by
  refine (floor_any q 2 w (by omega) (by omega) hq).mono ?_
  rintro e w' ⟨t, rfl, _, k1, k2, rfl⟩
  rw [Nat.pow_two] at k1 k2
  rw [root_one h1 h2 k1 k2]
  exact ⟨rfl, rfl⟩

set_option maxRecDepth 100000 in
set_option maxHeartbeats 800000 in
theorem most_any (s l n : Nat) (a b c : Int) (N i r : Nat) (T : TypeId) (w : World) (h : LgM w s l n a b c N T) (hi : i < 3) (hN : N ≤ 1000000000) (h0 : tri a b c i ≠ 0) (h1 : r * r ≤ N / (tri a b c i).natAbs) (h2 : N / (tri a b c i).natAbs < (r + 1) * (r + 1)) :
    Calls Try.prog 55 #[.int .i64 (i : Int), .pointer (some ⟨n, 0, none⟩), .pointer (some ⟨l, 0, none⟩)] w fun e w' => e = .returned (.int .i64 (r : Int)) ∧ ∃ m, w' = w.drewN m := by
  obtain ⟨c1, c2⟩ := h.cells
  have c3 := h.at hi
  obtain ⟨v, hv⟩ : ∃ v, tri a b c i = v := ⟨_, rfl⟩
  rw [hv] at c3 h0 h1 h2
  have d0 := Nat.div_le_self N v.natAbs
  have e1 : ((N : Int).tdiv v).natAbs = N / v.natAbs := by rw [Int.natAbs_tdiv]; rfl
  have hq : ((N : Int).tdiv v).natAbs ≤ 1000000000 := by omega
  rw [← e1] at h1 h2
  obtain ⟨Q, hQ⟩ : ∃ Q, (N : Int).tdiv v = Q := ⟨_, rfl⟩
  rw [hQ] at h1 h2 hq
  have W1 : IntKind.i64.wrap Q = Q := by rw [IntKind.wrap_i64]; omega
  have CA := fun W => hide (eabs_any Q W (by omega))
  have CF := fun W => hide (floor2 Q.natAbs r W (by omega) h1 h2)
  have z : decide (v = 0) = false := by simpa using h0
  have hi3 : (i : Int) < 3 := by omega
  clear h1 h2 d0 e1 hq hv hN h
  go_enter Try.func55, Try.ntmps55
  go_wp2_with fail
  go_quiet (first | (go_at_call 54; exact Calls.quiet_of_same (CA _).out) | (go_at_call 40; exact Calls.quiet_of_same (CF _).out))
  go_wp2_with fail
  go_ret
  exact ⟨rfl, _, rfl⟩
end Go.Proofs.Ytlchmaiflcnaoaa

namespace Go.Proofs.Ytlchmaiflcnaoaa
open Go.RowKit

/-- extended's word -/
def RetExt (w : World) (A B : Int) : Ending → World → Prop := fun e w' => ∃ u : Int, e = .returned (.tuple #[.int .i64 (Int.gcd A B), .int .i64 u]) ∧ B ∣ (Int.gcd A B : Int) - u * A ∧ u.natAbs ≤ max 1 B.natAbs ∧ (B = 0 → u = if A < 0 then -1 else 1) ∧ w' = w

set_option maxRecDepth 100000 in
set_option maxHeartbeats 800000 in
theorem extended_any (A B : Int) (w : World) (hA : A.natAbs ≤ 1000000000000000000) (hB : B.natAbs ≤ 1000000000000000000) :
    Calls Try.prog 148 #[.int .i64 A, .int .i64 B] w (RetExt w A B) := by
  have E0 := hide (Ar.Ext.start A B)
  have HA := hide hA
  have HB := hide hB
  clear hA hB
  go_enter Try.func148, Try.ntmps148
  go_wp2
  go_loopw [0, 1, 6, 7] (fun x y s t wr => ∃ p q u v : Int, x = .int .i64 p ∧ y = .int .i64 q ∧ s = .int .i64 u ∧ t = .int .i64 v ∧ Hid (Ar.Ext A B p q u v ∧ (B = 0 → p = A ∧ q = 0 ∧ u = 1)) ∧ wr = w) (fun _ y _ _ _ => (intOf y).natAbs)
  case atStart => exact ⟨A, B, 1, 0, rfl, rfl, rfl, rfl, ⟨E0.out, fun h => ⟨rfl, h, rfl⟩⟩, rfl⟩
  case round =>
    obtain ⟨p, q, u, v, rfl, rfl, rfl, rfl, HE, rfl⟩ := hrel
    have h1 := HA.out
    have h2 := HB.out
    by_cases hq : q = 0
    · subst hq
      obtain ⟨hE, h0⟩ := HE.out
      have hf := hE.fin
      have hu := hE.ule
      by_cases hp : p < 0
      · have e1 : IntKind.i64.wrap (-p) = -p := by have := hE.ale; rw [IntKind.wrap_i64]; omega
        have e2 : IntKind.i64.wrap (-u) = -u := by rw [IntKind.wrap_i64]; omega
        have HR : Hid (RetExt wr A B (.returned (.tuple #[.int .i64 (-p), .int .i64 (-u)])) wr) := by
          refine ⟨-u, by rw [show -p = (Int.gcd A B : Int) from by omega], ?_, by omega, fun h => ?_, rfl⟩
          · have e : (Int.gcd A B : Int) - -u * A = -(p - u * A) := by rw [← hf.1]; rw [show (p.natAbs : Int) = -p from by omega]; grind
            rw [e]; exact Int.dvd_neg.2 hf.2
          · obtain ⟨a1, _, a3⟩ := h0 h
            rw [if_pos (by omega), a3]
        clear h1 h2 hE h0 hf hu HA HB HE
        go_wp2
        go_ret2
        exact HR.out
      · have HR : Hid (RetExt wr A B (.returned (.tuple #[.int .i64 p, .int .i64 u])) wr) := by
          refine ⟨u, by rw [show p = (Int.gcd A B : Int) from by omega], ?_, by omega, fun h => ?_, rfl⟩
          · have e : (Int.gcd A B : Int) - u * A = p - u * A := by rw [← hf.1]; omega
            rw [e]; exact hf.2
          · obtain ⟨a1, _, a3⟩ := h0 h
            rw [if_neg (by omega), a3]
        clear h1 h2 hE h0 hf hu HA HB HE
        go_wp2
        go_ret2
        exact HR.out
    · have hq' : (q != 0) = true := by simpa using hq
      obtain ⟨hE, h0⟩ := HE.out
      obtain ⟨hS, hlt, hb1, hb2⟩ := hE.step hq
      have h0' : B = 0 → False := fun h => hq (h0 h).2.1
      have HS := hide hS
      have HL := hide hlt
      have HB0 := hide h0'
      have e1 : IntKind.i64.wrap (p.tdiv q) = p.tdiv q := by
        have : (p.tdiv q).natAbs = p.natAbs / q.natAbs := Int.natAbs_tdiv p q
        have h3 := Nat.div_le_self p.natAbs q.natAbs
        generalize p.natAbs / q.natAbs = z at this h3
        have := hE.ale
        rw [IntKind.wrap_i64]; omega
      have e2 : IntKind.i64.wrap (p.tdiv q * q) = p.tdiv q * q := by have := hE.ale; rw [IntKind.wrap_i64]; omega
      have e3 : IntKind.i64.wrap (p - p.tdiv q * q) = p - p.tdiv q * q := by have := hE.ble; rw [IntKind.wrap_i64]; omega
      have e4 : IntKind.i64.wrap (p.tdiv q * v) = p.tdiv q * v := by rw [IntKind.wrap_i64]; omega
      have e5 : IntKind.i64.wrap (u - p.tdiv q * v) = u - p.tdiv q * v := by have := hS.vle; rw [IntKind.wrap_i64]; omega
      clear h1 h2 hE h0 hS hlt hb1 hb2 h0' HE
      go_wp2
      go_roundw
      case rel => exact ⟨q, p - p.tdiv q * q, v, u - p.tdiv q * v, rfl, rfl, rfl, rfl, ⟨HS.out, fun h => (HB0.out h).elim⟩, trivial⟩
      case measure => simpa [intOf] using HL.out
end Go.Proofs.Ytlchmaiflcnaoaa

namespace Go.Proofs.Ytlchmaiflcnaoaa
open Go.RowKit

theorem sub64_run (x y : Nat) (w : World) :
    (callFunc 149 #[.int .u64 x, .int .u64 y, .int .u64 0]).run Try.prog w =
      .ok (.value (.tuple #[.int .u64 (((x + 18446744073709551616 - y) % 18446744073709551616 : Nat) : Int), .int .u64 ((if x < y then 1 else 0 : Nat) : Int)])) w := by
  rw [run_callFunc_extern Try.func149 (by kernel_rfl) (by kernel_rfl) (by kernel_rfl) (e := sub64Entry) (by kernel_rfl), show (0 : Int) = ((0 : Nat) : Int) from rfl, run_sub64 x y 0 (by omega)]
  rfl
theorem add64_run (x y : Nat) (w : World) :
    (callFunc 150 #[.int .u64 x, .int .u64 y, .int .u64 0]).run Try.prog w =
      .ok (.value (.tuple #[.int .u64 (((x + y) % 18446744073709551616 : Nat) : Int), .int .u64 (((x + y) / 18446744073709551616 : Nat) : Int)])) w := by
  rw [run_callFunc_extern Try.func150 (by kernel_rfl) (by kernel_rfl) (by kernel_rfl) (e := add64Entry) (by kernel_rfl), run_add64 x y 0 (by omega) (by omega) (by omega) (by omega)]
  simp only [Result.andThen]
  congr 5 <;> omega
end Go.Proofs.Ytlchmaiflcnaoaa

namespace Go.Proofs.Ytlchmaiflcnaoaa

inductive Sum (l : List Nat) : Nat → Prop
  | zero : Sum l 0
  | add {s n : Nat} : n ∈ l → Sum l s → Sum l (s + n)
theorem Sum.plus {l : List Nat} {a b : Nat} (ha : Sum l a) (hb : Sum l b) : Sum l (a + b) := by
  induction hb with
  | zero => exact ha
  | add hn _ ih => rw [← Nat.add_assoc]; exact .add hn ih
theorem Sum.one {l : List Nat} {n : Nat} (h : n ∈ l) : Sum l n := by
  have := Sum.add h (Sum.zero (l := l)); rwa [Nat.zero_add] at this
theorem Sum.mul {l : List Nat} {a : Nat} (h : Sum l a) : ∀ k, Sum l (k * a)
  | 0 => by rw [Nat.zero_mul]; exact .zero
  | k + 1 => by rw [Nat.succ_mul]; exact (h.mul k).plus h

theorem dvd_sub_mod {v n m : Nat} (h : v % m = n % m) : m ∣ n - v := Nat.dvd_of_mod_eq_zero (Nat.sub_mod_eq_zero_of_mod_eq h.symm)
theorem bez (a b : Nat) : ∃ x y : Int, x * a + y * b = Nat.gcd a b := by
  induction a, b using Nat.gcd.induction with
  | H0 n => exact ⟨0, 1, by simp⟩
  | H1 m n hm ih =>
    obtain ⟨x, y, h⟩ := ih
    refine ⟨y - x * ((n / m : Nat) : Int), x, ?_⟩
    rw [Nat.gcd_rec, ← h]
    have e : ((n % m : Nat) : Int) = (n : Int) - (m : Int) * ((n / m : Nat) : Int) := by
      rw [Int.natCast_emod, Int.natCast_ediv]; exact Int.emod_def ..
    rw [e, Int.sub_mul, Int.mul_sub, Int.mul_comm (m : Int) ((n / m : Nat) : Int), ← Int.mul_assoc]
    omega
/-- an integer's residue, from 0 on -/
theorem lift_mod (x : Int) (m : Nat) (hm : 0 < m) : ∃ k : Nat, ∃ t : Int, (k : Int) = x + t * m := by
  refine ⟨(x % (m : Int)).toNat, -(x / (m : Int)), ?_⟩
  have h1 := Int.emod_nonneg x (show (m : Int) ≠ 0 by omega)
  have h2 := Int.emod_add_mul_ediv x m
  rw [Int.toNat_of_nonneg h1, Int.neg_mul, Int.mul_comm (x / (m : Int))]
  omega
/-- some sum leaves what the numbers' greatest divisor leaves -/
theorem reach_gcd {l : List Nat} {m : Nat} (hm : 0 < m) : ∀ (r : List Nat) (g : Nat), (∀ n ∈ r, n ∈ l) → (∃ s, Sum l s ∧ ∃ t : Int, (s : Int) = g + t * m) → ∃ s, Sum l s ∧ ∃ t : Int, (s : Int) = (r.foldl Nat.gcd g : Nat) + t * m
  | [], g, _, h => h
  | n :: r, g, hr, ⟨s, hs, t, ht⟩ => by
    refine reach_gcd hm r (Nat.gcd g n) (fun k hk => hr k (List.mem_cons_of_mem _ hk)) ?_
    obtain ⟨x, y, hxy⟩ := bez g n
    obtain ⟨a, ta, ha⟩ := lift_mod x m hm
    obtain ⟨b, tb, hb⟩ := lift_mod y m hm
    refine ⟨a * s + b * n, (hs.mul a).plus ((Sum.one (hr n (List.mem_cons_self ..))).mul b), ta * g + a * t + tb * n, ?_⟩
    push_cast
    rw [ht, ← hxy, ha, hb]
    simp only [Int.add_mul, Int.mul_add, Int.mul_assoc, Int.mul_comm, Int.mul_left_comm]
    omega
theorem reach_all {l : List Nat} {m : Nat} (hm : 0 < m) (hg : l.foldl Nat.gcd 0 = 1) (r : Nat) : ∃ s, Sum l s ∧ s % m = r % m := by
  obtain ⟨s, hs, t, ht⟩ := reach_gcd (l := l) hm l 0 (fun _ h => h) ⟨0, .zero, 0, by simp⟩
  rw [hg] at ht
  refine ⟨r * s, hs.mul r, ?_⟩
  have : ((r * s : Nat) : Int) % m = (r : Int) % m := by
    rw [Int.natCast_mul, ht, Int.natCast_one, Int.mul_add, Int.mul_one, ← Int.mul_assoc, Int.add_mul_emod_self_right]
  have h2 : ((r * s % m : Nat) : Int) = ((r % m : Nat) : Int) := by push_cast; exact this
  exact Int.ofNat.inj h2

def gi (L : List Int) (i : Nat) : Int := L.getD i (-1)
def gb (D : List Bool) (i : Nat) : Bool := D.getD i false
theorem gi_set {L : List Int} {i : Nat} (h : i < L.length) (v : Int) (j : Nat) : gi (L.set i v) j = if j = i then v else gi L j := by
  unfold gi
  rw [List.getD_eq_getElem?_getD, List.getD_eq_getElem?_getD, List.getElem?_set]
  by_cases e : j = i
  · subst e; simp [h]
  · rw [if_neg (fun f => e f.symm), if_neg e]
theorem gb_set {D : List Bool} {i : Nat} (h : i < D.length) (v : Bool) (j : Nat) : gb (D.set i v) j = if j = i then v else gb D j := by
  unfold gb
  rw [List.getD_eq_getElem?_getD, List.getD_eq_getElem?_getD, List.getElem?_set]
  by_cases e : j = i
  · subst e; simp [h]
  · rw [if_neg (fun f => e f.symm), if_neg e]
theorem count_set : ∀ {D : List Bool} {i : Nat}, i < D.length → gb D i = false → (D.set i true).count true = D.count true + 1
  | [], i, h, _ => by simp at h
  | x :: r, 0, _, hx => by
    have : x = false := hx
    subst this; simp
  | x :: r, i + 1, h, hx => by
    have := count_set (D := r) (i := i) (by simpa using h) hx
    rw [List.set_cons_succ, List.count_cons, List.count_cons, this]; omega

/-- the numbers told so far, and which of them are done (c of them) -/
structure DInv (l : List Nat) (m hi : Nat) (L : List Int) (D : List Bool) (c : Nat) : Prop where
  lenL : L.length = m
  lenD : D.length = m
  sum : ∀ i, i < m → ∀ v : Nat, gi L i = v → Sum l v ∧ v % m = i
  neg : ∀ i, 0 ≤ gi L i ∨ gi L i = -1
  zero : gi L 0 = 0
  pos : ∀ i, gb D i = true → 0 ≤ gi L i
  ord : ∀ i j, gb D i = true → gb D j = false → 0 ≤ gi L j → gi L i ≤ gi L j
  near : ∀ i, gb D i = true → ∀ n ∈ l, 0 ≤ gi L (((gi L i).toNat + n) % m) ∧ gi L (((gi L i).toNat + n) % m) ≤ gi L i + n
  bnd : ∀ i, gi L i ≤ ((c * hi : Nat) : Int)
  cnt : D.count true = c
theorem gb_lt {D : List Bool} {i : Nat} (h : gb D i = true) : i < D.length := by
  unfold gb at h
  rw [List.getD_eq_getElem?_getD] at h
  by_cases e : i < D.length
  · exact e
  · rw [List.getElem?_eq_none (by omega)] at h; cases h
theorem gi_lt {L : List Int} {i : Nat} (h : 0 ≤ gi L i) : i < L.length := by
  unfold gi at h
  rw [List.getD_eq_getElem?_getD] at h
  by_cases e : i < L.length
  · exact e
  · rw [List.getElem?_eq_none (by omega)] at h; simp at h
theorem gi_rep (m : Nat) (i : Nat) : gi (List.replicate m (-1)) i = -1 := by
  unfold gi
  rw [List.getD_eq_getElem?_getD, List.getElem?_replicate]
  split <;> rfl
theorem gb_rep (m : Nat) (i : Nat) : gb (List.replicate m false) i = false := by
  unfold gb
  rw [List.getD_eq_getElem?_getD, List.getElem?_replicate]
  split <;> rfl
theorem DInv.start {l : List Nat} {m hi : Nat} (hm : 0 < m) : DInv l m hi ((List.replicate m (-1)).set 0 0) (List.replicate m false) 0 := by
  have h0 : ∀ i, gi ((List.replicate m (-1)).set 0 0) i = if i = 0 then 0 else -1 := fun i => by
    rw [gi_set (by simpa using hm), gi_rep]
  refine ⟨by simp, by simp, fun i hi v hv => ?_, fun i => ?_, by rw [h0]; rfl, fun i h => ?_, fun i j h => ?_, fun i h => ?_, fun i => ?_, ?_⟩
  · rw [h0] at hv
    split at hv
    · have : v = 0 := by omega
      subst this; rename_i e; subst e; exact ⟨.zero, Nat.zero_mod _⟩
    · omega
  · rw [h0]; split <;> simp
  · rw [gb_rep] at h; cases h
  · rw [gb_rep] at h; cases h
  · rw [gb_rep] at h; cases h
  · rw [h0]; split <;> omega
  · rw [List.count_replicate]; rfl

/-- the next one: of those that are not done the least -/
structure Cand (m : Nat) (L : List Int) (D : List Bool) (k : Nat) : Prop where
  lt : k < m
  und : gb D k = false
  pos : 0 ≤ gi L k
  least : ∀ j, gb D j = false → 0 ≤ gi L j → gi L k ≤ gi L j

/-- behind some coins: L' out of L -/
structure CInv (l : List Nat) (m hi : Nat) (L : List Int) (D : List Bool) (c k j : Nat) (L' : List Int) : Prop where
  len : L'.length = m
  sum : ∀ i, i < m → ∀ v : Nat, gi L' i = v → Sum l v ∧ v % m = i
  neg : ∀ i, 0 ≤ gi L' i ∨ gi L' i = -1
  same : ∀ i, gb D i = true ∨ i = k → gi L' i = gi L i
  low : ∀ i, 0 ≤ gi L' i → gb D i = false → gi L k ≤ gi L' i
  mono : ∀ i, 0 ≤ gi L i → 0 ≤ gi L' i ∧ gi L' i ≤ gi L i
  near : ∀ n ∈ l.take j, 0 ≤ gi L' (((gi L k).toNat + n) % m) ∧ gi L' (((gi L k).toNat + n) % m) ≤ gi L k + n
  bnd : ∀ i, gi L' i ≤ (((c + 1) * hi : Nat) : Int)
theorem CInv.start {l : List Nat} {m hi : Nat} {L : List Int} {D : List Bool} {c k : Nat} (h : DInv l m hi L D c) (hk : Cand m L D k) : CInv l m hi L D c k 0 L :=
  ⟨h.lenL, h.sum, h.neg, fun _ _ => rfl, fun i hp hd => hk.least i hd hp, fun _ hp => ⟨hp, Int.le_refl _⟩, by simp, fun i => by have := h.bnd i; rw [Nat.succ_mul]; omega⟩
theorem CInv.step_keep {l : List Nat} {m hi : Nat} {L L' : List Int} {D : List Bool} {c k j n : Nat} (h : CInv l m hi L D c k j L') (hn : l[j]? = some n) (h1 : 0 ≤ gi L' (((gi L k).toNat + n) % m)) (h2 : gi L' (((gi L k).toNat + n) % m) ≤ gi L k + n) : CInv l m hi L D c k (j + 1) L' := by
  refine ⟨h.len, h.sum, h.neg, h.same, h.low, h.mono, fun x hx => ?_, h.bnd⟩
  rw [List.take_add_one, hn] at hx
  rcases List.mem_append.1 hx with hx | hx
  · exact h.near x hx
  · have : x = n := by simpa using hx
    subst this; exact ⟨h1, h2⟩
theorem CInv.step_set {l : List Nat} {m hi : Nat} {L L' : List Int} {D : List Bool} {c k j n : Nat} (hD : DInv l m hi L D c) (hk : Cand m L D k) (h : CInv l m hi L D c k j L') (hn : l[j]? = some n) (hn1 : 1 ≤ n) (hhi : n ≤ hi) (h1 : gi L' (((gi L k).toNat + n) % m) < 0 ∨ gi L k + n < gi L' (((gi L k).toNat + n) % m)) :
    CInv l m hi L D c k (j + 1) (L'.set (((gi L k).toNat + n) % m) (gi L k + n)) := by
  have hm : 0 < m := Nat.lt_of_le_of_lt (Nat.zero_le _) hk.lt
  have hlt : ((gi L k).toNat + n) % m < m := Nat.mod_lt _ hm
  obtain ⟨a, ha⟩ : ∃ a : Nat, gi L k = a := ⟨(gi L k).toNat, by have := hk.pos; omega⟩
  have hto : (gi L k).toNat = a := by rw [ha]; rfl
  have hka := hD.sum k hk.lt a ha
  have hnl : n ∈ l := List.mem_of_getElem? hn
  rw [hto] at hlt h1 ⊢
  have hset : ∀ i, gi (L'.set ((a + n) % m) (gi L k + n)) i = if i = (a + n) % m then gi L k + n else gi L' i := gi_set (by rw [h.len]; exact hlt) _
  have hnk : ∀ i, gb D i = true ∨ i = k → i ≠ (a + n) % m := by
    rintro i hi rfl
    have e := h.same _ hi
    rcases hi with hd | e2
    · have h3 := hD.pos _ hd
      have h4 := hD.ord _ k hd hk.und hk.pos
      omega
    · rw [e2] at e h1
      have := hk.pos
      omega
  refine ⟨by rw [List.length_set]; exact h.len, fun i hi v hv => ?_, fun i => ?_, fun i hi => ?_, fun i hp hd => ?_, fun i hp => ?_, fun x hx => ?_, fun i => ?_⟩
  · rw [hset] at hv
    split at hv
    · rename_i e
      have : v = a + n := by omega
      subst this
      exact ⟨.add hnl hka.1, e.symm⟩
    · exact h.sum i hi v hv
  · rw [hset]
    split
    · omega
    · exact h.neg i
  · rw [hset, if_neg (hnk i hi)]; exact h.same i hi
  · rw [hset] at hp ⊢
    split
    · omega
    · rename_i e; rw [if_neg e] at hp; exact h.low i hp hd
  · rw [hset]
    have h5 := h.mono i hp
    split
    · rename_i e; rw [← e] at h1; omega
    · exact h5
  · rw [hto, hset]
    rw [List.take_add_one, hn] at hx
    rcases List.mem_append.1 hx with hx | hx
    · have h6 := h.near x hx
      rw [hto] at h6
      split
      · rename_i e; rw [e] at h6; omega
      · exact h6
    · have : x = n := by simpa using hx
      subst this
      rw [if_pos rfl]; omega
  · rw [hset]
    split
    · have := hD.bnd k
      rw [Nat.succ_mul]; omega
    · exact h.bnd i
theorem CInv.done {l : List Nat} {m hi : Nat} {L L' : List Int} {D : List Bool} {c k : Nat} (hD : DInv l m hi L D c) (hk : Cand m L D k) (h : CInv l m hi L D c k l.length L') : DInv l m hi L' (D.set k true) (c + 1) := by
  have hkl : k < D.length := by rw [hD.lenD]; exact hk.lt
  have hg : ∀ i, gb (D.set k true) i = if i = k then true else gb D i := gb_set hkl true
  have hor : ∀ i, gb (D.set k true) i = true → gb D i = true ∨ i = k := fun i hi => by
    rw [hg] at hi
    split at hi
    · rename_i e; exact .inr e
    · exact .inl hi
  refine ⟨h.len, by rw [List.length_set]; exact hD.lenD, h.sum, h.neg, ?_, fun i hi => ?_, fun i j hi hj hp => ?_, fun i hi n hn => ?_, h.bnd, ?_⟩
  · have := h.mono 0 (by rw [hD.zero]; exact Int.le_refl _)
    rw [hD.zero] at this; omega
  · rw [h.same i (hor i hi)]
    rcases hor i hi with e | rfl
    · exact hD.pos i e
    · exact hk.pos
  · rw [h.same i (hor i hi)]
    rw [hg] at hj
    split at hj
    · cases hj
    · have h3 := h.low j hp hj
      rcases hor i hi with e | rfl
      · exact Int.le_trans (hD.ord i k e hk.und hk.pos) h3
      · exact h3
  · rw [h.same i (hor i hi)]
    rcases hor i hi with e | rfl
    · have h4 := hD.near i e n hn
      have h5 := h.mono _ h4.1
      exact ⟨h5.1, Int.le_trans h5.2 h4.2⟩
    · exact h.near n (by rw [List.take_length]; exact hn)
  · rw [count_set hkl hk.und, hD.cnt]

/-- the least sum that leaves each number -/
structure Least (l : List Nat) (m hi : Nat) (L : List Int) : Prop where
  len : L.length = m
  val : ∀ r, r < m → ∃ v : Nat, gi L r = v ∧ Sum l v ∧ v % m = r ∧ v ≤ m * hi ∧ ∀ s, Sum l s → s % m = r → v ≤ s
theorem count_le_len (D : List Bool) : D.count true ≤ D.length := List.count_le_length ..
theorem DInv.final {l : List Nat} {m hi : Nat} {L : List Int} {D : List Bool} {c : Nat} (hm : 0 < m) (hg : l.foldl Nat.gcd 0 = 1) (h : DInv l m hi L D c) (hn : ∀ i, i < m → gb D i = false → gi L i < 0) : Least l m hi L := by
  have hd : ∀ i, 0 ≤ gi L i → gb D i = true := fun i hp => by
    have hl := gi_lt hp
    rw [h.lenL] at hl
    cases e : gb D i with
    | true => rfl
    | false => exact absurd (hn i hl e) (by omega)
  have key : ∀ s, Sum l s → 0 ≤ gi L (s % m) ∧ gi L (s % m) ≤ s := by
    intro s hs
    induction hs with
    | zero => rw [Nat.zero_mod, h.zero]; omega
    | @add s n hn hs ih =>
      have h1 := h.near _ (hd _ ih.1) n hn
      obtain ⟨v, hv⟩ : ∃ v : Nat, gi L (s % m) = v := ⟨(gi L (s % m)).toNat, by omega⟩
      have h2 := h.sum (s % m) (Nat.mod_lt _ hm) v hv
      have e : (v + n) % m = (s + n) % m := by rw [Nat.add_mod, h2.2, ← Nat.add_mod]
      rw [hv, show ((v : Int)).toNat = v from rfl, e] at h1
      omega
  refine ⟨h.lenL, fun r hr => ?_⟩
  obtain ⟨s, hs, e⟩ := reach_all hm hg r
  rw [Nat.mod_eq_of_lt hr] at e
  have h1 := key s hs
  rw [e] at h1
  obtain ⟨v, hv⟩ : ∃ v : Nat, gi L r = v := ⟨(gi L r).toNat, by omega⟩
  have h2 := h.sum r hr v hv
  refine ⟨v, hv, h2.1, h2.2, ?_, fun s hs hr2 => ?_⟩
  · have h3 := h.bnd r
    have h4 : c ≤ m := by rw [← h.cnt, ← h.lenD]; exact count_le_len D
    have h5 : c * hi ≤ m * hi := Nat.mul_le_mul_right _ h4
    omega
  · have := key s hs
    rw [hr2] at this; omega
theorem Least.gap {l : List Nat} {m hi : Nat} {L : List Int} (h : Least l m hi L) (hm : m ∈ l) (n : Nat) (h0 : 0 < m) : Sum l n ↔ gi L (n % m) ≤ n := by
  obtain ⟨v, hv, hs, hr, _, hmin⟩ := h.val (n % m) (Nat.mod_lt _ h0)
  rw [hv]
  constructor
  · intro hn; have := hmin n hn rfl; omega
  · intro hle
    have hle : v ≤ n := by omega
    have e : n = v + (n - v) / m * m := by
      have h1 : m ∣ n - v := dvd_sub_mod hr
      rw [Nat.div_mul_cancel h1]; omega
    rw [e]
    exact hs.plus ((Sum.one hm).mul _)
end Go.Proofs.Ytlchmaiflcnaoaa

namespace Go.Proofs.Ytlchmaiflcnaoaa

/-- the last gap below N; how many gaps there are below N -/
def gapL (m : Nat) (L : List Int) : Nat → Int
  | 0 => -1
  | n + 1 => if gi L (n % m) ≤ n then gapL m L n else n
def gapN (m : Nat) (L : List Int) : Nat → Nat
  | 0 => 0
  | n + 1 => if gi L (n % m) ≤ n then gapN m L n else gapN m L n + 1
/-- what the program reckons behind i numbers -/
def lastK (m : Nat) (L : List Int) : Nat → Int
  | 0 => -1
  | i + 1 => max (lastK m L i) (gi L i - m)
def manyK (m : Nat) (L : List Int) : Nat → Int
  | 0 => 0
  | i + 1 => manyK m L i + (gi L i - i) / m

theorem gapL_is (m : Nat) (L : List Int) : ∀ N, (∀ n, n < N → ¬ gi L (n % m) ≤ n → (n : Int) ≤ gapL m L N) ∧ (gapL m L N = -1 ∨ ∃ n, n < N ∧ ¬ gi L (n % m) ≤ n ∧ gapL m L N = n)
  | 0 => ⟨fun n h => by omega, .inl rfl⟩
  | N + 1 => by
    have ih := gapL_is m L N
    rw [gapL]
    by_cases h : gi L (N % m) ≤ N
    · rw [if_pos h]
      refine ⟨fun n hn hg => ih.1 n ?_ hg, ?_⟩
      · rcases Nat.lt_succ_iff_lt_or_eq.1 hn with h1 | h1
        · exact h1
        · subst h1; exact absurd h hg
      · rcases ih.2 with h1 | ⟨n, h1, h2, h3⟩
        · exact .inl h1
        · exact .inr ⟨n, by omega, h2, h3⟩
    · rw [if_neg h]
      exact ⟨fun n hn _ => by omega, .inr ⟨N, by omega, h, rfl⟩⟩
theorem lastK_is (m : Nat) (L : List Int) : ∀ i, (∀ r, r < i → gi L r - m ≤ lastK m L i) ∧ -1 ≤ lastK m L i ∧ (lastK m L i = -1 ∨ ∃ r, r < i ∧ lastK m L i = gi L r - m)
  | 0 => ⟨fun n h => by omega, by simp [lastK], .inl rfl⟩
  | i + 1 => by
    have ih := lastK_is m L i
    rw [lastK]
    refine ⟨fun r hr => ?_, by omega, ?_⟩
    · rcases Nat.lt_succ_iff_lt_or_eq.1 hr with h1 | h1
      · have := ih.1 r h1; omega
      · subst h1; omega
    · by_cases h : lastK m L i ≤ gi L i - m
      · exact .inr ⟨i, by omega, by omega⟩
      · rcases ih.2.2 with h1 | ⟨r, h1, h2⟩
        · exact .inl (by omega)
        · exact .inr ⟨r, by omega, by omega⟩
theorem sub_mod_m {v n m : Nat} (h : v % m = n % m) (hl : n < v) : n + m ≤ v := by
  have h1 : m ∣ v - n := dvd_sub_mod h.symm
  have := Nat.le_of_dvd (by omega) h1
  omega
theorem last_eq {l : List Nat} {m hi : Nat} {L : List Int} (h : Least l m hi L) (hm : 0 < m) (N : Nat) (hN : m * hi ≤ N) : gapL m L N = lastK m L m := by
  have g := gapL_is m L N
  have k := lastK_is m L m
  have h1 : gapL m L N ≤ lastK m L m := by
    rcases g.2 with e | ⟨n, _, hg, e⟩
    · rw [e]; exact k.2.1
    · rw [e]
      obtain ⟨v, hv, _, hr, _, _⟩ := h.val (n % m) (Nat.mod_lt _ hm)
      have := sub_mod_m (v := v) (n := n) hr (by rw [hv] at hg; omega)
      have h2 := k.1 (n % m) (Nat.mod_lt _ hm)
      rw [hv] at h2; omega
  have h2 : lastK m L m ≤ gapL m L N := by
    rcases k.2.2 with e | ⟨r, hr, e⟩
    · rw [e]
      rcases g.2 with f | ⟨n, _, _, f⟩ <;> omega
    · obtain ⟨v, hv, _, hvr, hvb, _⟩ := h.val r hr
      rw [e, hv]
      by_cases hvm : v < m
      · have : -1 ≤ gapL m L N := by rcases g.2 with f | ⟨n, _, _, f⟩ <;> omega
        omega
      · have e2 : (v - m) % m = r := by rw [← Nat.mod_eq_sub_mod (by omega)]; exact hvr
        have := g.1 (v - m) (by omega) (by rw [e2, hv]; omega)
        omega
  omega

def sumR : Nat → (Nat → Nat) → Nat
  | 0, _ => 0
  | n + 1, f => sumR n f + f n
theorem sumR_congr {f g : Nat → Nat} : ∀ n, (∀ r, r < n → f r = g r) → sumR n f = sumR n g
  | 0, _ => rfl
  | n + 1, h => by rw [sumR, sumR, sumR_congr n (fun r hr => h r (by omega)), h n (by omega)]
theorem sumR_one {f g : Nat → Nat} {r0 : Nat} : ∀ n, r0 < n → (∀ r, r < n → r ≠ r0 → f r = g r) → f r0 = g r0 + 1 → sumR n f = sumR n g + 1
  | n + 1, h, h1, h2 => by
    rw [sumR, sumR]
    by_cases e : r0 = n
    · subst e
      rw [h2, sumR_congr r0 (fun r hr => h1 r (by omega) (by omega))]; omega
    · rw [sumR_one n (by omega) (fun r hr => h1 r (by omega)) h2, h1 n (by omega) (fun f => e f.symm)]; omega
/-- below N: how many numbers that leave r are gaps -/
def fr (m : Nat) (L : List Int) (N r : Nat) : Nat := (min N (gi L r).toNat + m - 1 - r) / m
theorem fr_other {m N r v : Nat} (hm : 0 < m) (hr : r < m) (hv : v % m = r) (hne : N % m ≠ r ∨ v ≤ N) : (min (N + 1) v + m - 1 - r) / m = (min N v + m - 1 - r) / m := by
  by_cases hvN : v ≤ N
  · rw [Nat.min_eq_right (by omega), Nat.min_eq_right hvN]
  · rw [Nat.min_eq_left (by omega), Nat.min_eq_left (by omega)]
    have hne : N % m ≠ r := hne.resolve_right hvN
    have e : N + 1 + m - 1 - r = (N + m - 1 - r) + 1 := by omega
    rw [e, Nat.succ_div, if_neg, Nat.add_zero]
    intro hd
    have h1 : (N + m - r) % m = 0 := by
      have := Nat.mod_eq_zero_of_dvd hd
      rwa [show N + m - 1 - r + 1 = N + m - r by omega] at this
    have h2 : (N + m - r) % m = (N % m + m - r) % m := by
      have := Nat.div_add_mod N m
      conv => lhs; rw [← this]
      rw [show m * (N / m) + N % m + m - r = (N % m + m - r) + m * (N / m) by omega, Nat.add_mul_mod_self_left]
    rw [h2] at h1
    have h3 := Nat.mod_lt N hm
    by_cases h4 : N % m < r
    · rw [Nat.mod_eq_of_lt (by omega)] at h1; omega
    · rw [show N % m + m - r = (N % m - r) + m by omega, Nat.add_mod_right, Nat.mod_eq_of_lt (by omega)] at h1; omega
theorem fr_hit {m N v : Nat} (hm : 0 < m) (hv : N < v) : (min (N + 1) v + m - 1 - N % m) / m = (min N v + m - 1 - N % m) / m + 1 := by
  rw [Nat.min_eq_left (by omega), Nat.min_eq_left (by omega)]
  have h := Nat.div_add_mod N m
  have h3 := Nat.mod_lt N hm
  have e1 : N + 1 + m - 1 - N % m = m * (N / m) + m := by omega
  have e2 : N + m - 1 - N % m = m * (N / m) + (m - 1) := by omega
  rw [e1, e2, Nat.mul_add_div hm, Nat.mul_add_div hm, Nat.div_self hm, Nat.div_eq_of_lt (show m - 1 < m by omega)]
theorem gapN_sum {l : List Nat} {m hi : Nat} {L : List Int} (h : Least l m hi L) (hm : 0 < m) : ∀ N, gapN m L N = sumR m (fr m L N)
  | 0 => by
    rw [gapN]
    have : ∀ n, n ≤ m → sumR n (fr m L 0) = 0 := by
      intro n
      induction n with
      | zero => intro _; rfl
      | succ n ih =>
        intro hn
        rw [sumR, ih (by omega)]
        unfold fr
        rw [Nat.zero_min, Nat.div_eq_of_lt (by omega)]
    rw [this m (Nat.le_refl _)]
  | N + 1 => by
    have ih := gapN_sum h hm N
    have hN := Nat.mod_lt N hm
    have oth : ∀ r, r < m → (N % m ≠ r ∨ (gi L r).toNat ≤ N) → fr m L (N + 1) r = fr m L N r := fun r hr hne => by
      obtain ⟨v, hv, _, hvr, _, _⟩ := h.val r hr
      unfold fr
      rw [hv] at hne ⊢
      exact fr_other hm hr hvr hne
    rw [gapN]
    by_cases hg : gi L (N % m) ≤ N
    · rw [if_pos hg, ih]
      exact (sumR_congr m fun r hr => oth r hr (by
        by_cases e : N % m = r
        · subst e; right; omega
        · exact .inl e)).symm
    · rw [if_neg hg, ih]
      refine (sumR_one (r0 := N % m) m hN (fun r hr hne => oth r hr (.inl fun e => hne e.symm)) ?_).symm
      obtain ⟨v, hv, _, _, _, _⟩ := h.val (N % m) hN
      unfold fr
      rw [hv] at hg ⊢
      exact fr_hit hm (by simp at hg ⊢; omega)
theorem manyK_sum {m : Nat} {L : List Int} (f : Nat → Nat) : ∀ n, (∀ r, r < n → (gi L r - r) / m = ((f r : Nat) : Int)) → manyK m L n = sumR n f
  | 0, _ => rfl
  | n + 1, h => by
    rw [manyK, sumR, manyK_sum f n (fun r hr => h r (by omega)), h n (by omega)]; push_cast; rfl
theorem fin_val {m r v : Nat} (hm : 0 < m) (hr : r < m) (hv : v % m = r) : (v + m - 1 - r) / m = (v - r) / m := by
  have h := Nat.div_add_mod v m
  rw [hv] at h
  have e1 : v + m - 1 - r = m * (v / m) + (m - 1) := by omega
  have e2 : v - r = m * (v / m) := by omega
  rw [e1, e2, Nat.mul_add_div hm, Nat.div_eq_of_lt (show m - 1 < m by omega), Nat.mul_div_cancel_left _ hm, Nat.add_zero]
theorem many_val {l : List Nat} {m hi : Nat} {L : List Int} (h : Least l m hi L) : manyK m L m = sumR m (fun r => ((gi L r).toNat - r) / m) := by
  refine manyK_sum _ m fun r hr => ?_
  obtain ⟨v, hv, _, hvr, _, _⟩ := h.val r hr
  rw [hv]
  have : r ≤ v := by rw [← hvr]; exact Nat.mod_le _ _
  rw [show ((v : Int) - (r : Int)) = ((v - r : Nat) : Int) by omega, ← Int.natCast_ediv]
  rfl
theorem many_eq {l : List Nat} {m hi : Nat} {L : List Int} (h : Least l m hi L) (hm : 0 < m) (N : Nat) (hN : m * hi ≤ N) : ((gapN m L N : Nat) : Int) = manyK m L m := by
  rw [many_val h, gapN_sum h hm]
  congr 1
  refine sumR_congr m fun r hr => ?_
  obtain ⟨v, hv, _, hvr, hvb, _⟩ := h.val r hr
  unfold fr
  rw [hv, show ((v : Int)).toNat = v from rfl, Nat.min_eq_right (by omega)]
  exact fin_val hm hr hvr
theorem lastK_bound {l : List Nat} {m hi : Nat} {L : List Int} (h : Least l m hi L) : ∀ i, i ≤ m → lastK m L i ≤ ((m * hi : Nat) : Int)
  | 0, _ => by rw [lastK]; omega
  | i + 1, hi' => by
    have ih := lastK_bound h i (by omega)
    obtain ⟨v, hv, _, _, hvb, _⟩ := h.val i (by omega)
    rw [lastK, hv]; omega
theorem manyK_bound {l : List Nat} {m hi : Nat} {L : List Int} (h : Least l m hi L) (hm : 0 < m) : ∀ i, i ≤ m → 0 ≤ manyK m L i ∧ manyK m L i ≤ ((i * (m * hi) : Nat) : Int)
  | 0, _ => by rw [manyK]; omega
  | i + 1, hi' => by
    have ih := manyK_bound h hm i (by omega)
    obtain ⟨v, hv, _, hvr, hvb, _⟩ := h.val i (by omega)
    have h1 : i ≤ v := by
      have := Nat.mod_le v m; omega
    have h2 : ((v : Int) - (i : Int)) / m = (((v - i) / m : Nat) : Int) := by
      rw [show ((v : Int) - (i : Int)) = ((v - i : Nat) : Int) by omega, ← Int.natCast_ediv]
    have h3 : (v - i) / m ≤ v - i := Nat.div_le_self ..
    obtain ⟨q, hq⟩ : ∃ q, (v - i) / m = q := ⟨_, rfl⟩
    rw [hq] at h2 h3
    rw [manyK, hv, h2, Nat.succ_mul]; omega

/-! two coins -/
theorem two_sum {l : List Nat} {m h : Nat} (hl : ∀ x, x ∈ l ↔ x = m ∨ x = h) (s : Nat) : Sum l s ↔ ∃ x y, s = x * m + y * h := by
  constructor
  · intro hs
    induction hs with
    | zero => exact ⟨0, 0, by simp⟩
    | add hn _ ih =>
      obtain ⟨x, y, rfl⟩ := ih
      rcases (hl _).1 hn with rfl | rfl
      · exact ⟨x + 1, y, by rw [Nat.succ_mul]; omega⟩
      · exact ⟨x, y + 1, by rw [Nat.succ_mul]; omega⟩
  · rintro ⟨x, y, rfl⟩
    exact ((Sum.one ((hl _).2 (.inl rfl))).mul x).plus ((Sum.one ((hl _).2 (.inr rfl))).mul y)
theorem mod_inj {m h a b : Nat} (hg : Nat.gcd m h = 1) (he : a * h % m = b * h % m) : m ∣ b - a := by
  have h1 : m ∣ b * h - a * h := dvd_sub_mod he
  rw [← Nat.sub_mul] at h1
  exact (Nat.Coprime.dvd_of_dvd_mul_right hg h1)
theorem two_val {l : List Nat} {m h hi : Nat} {L : List Int} (hL : Least l m hi L) (hl : ∀ x, x ∈ l ↔ x = m ∨ x = h) (hg : Nat.gcd m h = 1) (hm : 0 < m) {k : Nat} (hk : k < m) : gi L (k * h % m) = ((k * h : Nat) : Int) := by
  obtain ⟨v, hv, hs, hr, _, hmin⟩ := hL.val (k * h % m) (Nat.mod_lt _ hm)
  have h1 := hmin (k * h) ((two_sum hl _).2 ⟨0, k, by simp⟩) rfl
  obtain ⟨x, y, e⟩ := (two_sum hl v).1 hs
  have h2 : y * h % m = k * h % m := by
    rw [← hr, e, Nat.add_mod, Nat.mul_mod_left, Nat.zero_add, Nat.mod_mod]
  have h3 : k ≤ y := by
    by_cases hy : y < k
    · have := mod_inj hg h2
      have := Nat.le_of_dvd (by omega) this
      omega
    · omega
  have h4 : k * h ≤ y * h := Nat.mul_le_mul_right _ h3
  rw [hv]
  omega
theorem perm_of_sub : ∀ {l m : List Nat}, l.Nodup → (∀ x ∈ l, x ∈ m) → m.length ≤ l.length → l.Perm m
  | [], m, _, _, h => by rw [List.eq_nil_of_length_eq_zero (l := m) (by simpa using h)]
  | x :: r, m, h, hs, hl => by
    rw [List.nodup_cons] at h
    have hx := hs x (List.mem_cons_self ..)
    refine List.Perm.trans (List.Perm.cons x (perm_of_sub (m := m.erase x) h.2 (fun y hy => (List.mem_erase_of_ne (fun e : y = x => h.1 (by rw [← e]; exact hy))).2 (hs y (List.mem_cons_of_mem _ hy))) ?_)) (List.perm_cons_erase hx).symm
    rw [List.length_erase_of_mem hx]
    rw [List.length_cons] at hl
    omega
theorem perm_mul {m h : Nat} (hg : Nat.gcd m h = 1) (hm : 0 < m) : ((List.range m).map fun k => k * h % m).Perm (List.range m) := by
  have hn : ((List.range m).map fun k => k * h % m).Nodup := by
    refine List.Pairwise.map _ (fun _ _ h => h) (List.Pairwise.imp_of_mem (R := fun a b => a < b) (fun {a b} ha hb hab e => ?_) List.pairwise_lt_range)
    have := mod_inj hg e
    have := Nat.le_of_dvd (by omega) this
    rw [List.mem_range] at hb
    omega
  refine perm_of_sub hn (fun x hx => ?_) (by simp)
  obtain ⟨k, _, rfl⟩ := List.mem_map.1 hx
  exact List.mem_range.2 (Nat.mod_lt _ hm)
theorem sumR_list (f : Nat → Nat) : ∀ n, sumR n f = ((List.range n).map f).sum
  | 0 => rfl
  | n + 1 => by rw [sumR, sumR_list f n, List.range_succ, List.map_append, List.sum_append]; simp
theorem sum_sub {m : Nat} (f g : Nat → Nat) (hm : 0 < m) : ∀ n, (∀ r, r < n → g r ≤ f r ∧ m ∣ f r - g r) → m * sumR n (fun r => (f r - g r) / m) + sumR n g = sumR n f
  | 0, _ => by simp [sumR]
  | n + 1, h => by
    have ih := sum_sub f g hm n (fun r hr => h r (by omega))
    obtain ⟨h1, h2⟩ := h n (by omega)
    have h3 := Nat.mul_div_cancel' h2
    simp only [sumR, Nat.mul_add]
    omega
theorem sum_range2 : ∀ n, 2 * sumR n (fun r => r) + n = n * n
  | 0 => rfl
  | n + 1 => by
    have := sum_range2 n
    have e : (n + 1) * (n + 1) = n * n + 2 * n + 1 := by rw [Nat.succ_mul, Nat.mul_succ]; omega
    rw [sumR, e]; omega
theorem sum_mulR (h : Nat) : ∀ n, sumR n (fun r => r * h) = sumR n (fun r => r) * h
  | 0 => by simp [sumR]
  | n + 1 => by rw [sumR, sumR, sum_mulR h n, Nat.add_mul]
theorem sylv_last {l : List Nat} {m h hi : Nat} {L : List Int} (hL : Least l m hi L) (hl : ∀ x, x ∈ l ↔ x = m ∨ x = h) (hg : Nat.gcd m h = 1) (hm : 1 < m) (hmh : m < h) : lastK m L m = (m : Int) * h - m - h := by
  have k := lastK_is m L m
  have e1 : ((m : Int) * h - m - h) = (((m - 1) * h : Nat) : Int) - m := by
    obtain ⟨p, rfl⟩ : ∃ p, m = p + 1 := ⟨m - 1, by omega⟩
    rw [Nat.add_sub_cancel]; push_cast; rw [Int.add_mul]; omega
  rw [e1]
  have h1 := k.1 ((m - 1) * h % m) (Nat.mod_lt _ (by omega))
  rw [two_val hL hl hg (by omega) (show m - 1 < m by omega)] at h1
  have h0 : 1 * h ≤ (m - 1) * h := Nat.mul_le_mul_right _ (by omega)
  rcases k.2.2 with e | ⟨r, hr, e⟩
  · omega
  · have hp := (perm_mul hg (show 0 < m by omega)).mem_iff.2 (List.mem_range.2 hr)
    obtain ⟨j, hj, rfl⟩ := List.mem_map.1 hp
    rw [List.mem_range] at hj
    rw [two_val hL hl hg (by omega) hj] at e
    have h2 : j * h ≤ (m - 1) * h := Nat.mul_le_mul_right _ (by omega)
    omega
theorem sylv_many {l : List Nat} {m h hi : Nat} {L : List Int} (hL : Least l m hi L) (hl : ∀ x, x ∈ l ↔ x = m ∨ x = h) (hg : Nat.gcd m h = 1) (hm : 1 < m) (hmh : m < h) : 2 * manyK m L m = (m : Int) * h - m - h + 1 := by
  rw [many_val hL]
  have hs := sum_sub (m := m) (fun r => (gi L r).toNat) (fun r => r) (by omega) m (fun r hr => by
    obtain ⟨v, hv, _, hvr, _, _⟩ := hL.val r hr
    have h1 : r ≤ v := by have := Nat.mod_le v m; omega
    rw [hv]
    exact ⟨h1, dvd_sub_mod (show r % m = v % m by rw [hvr, Nat.mod_eq_of_lt hr])⟩)
  have e : sumR m (fun r => (gi L r).toNat) = sumR m (fun r => r) * h := by
    rw [← sum_mulR, sumR_list, sumR_list]
    have hp := ((perm_mul hg (show 0 < m by omega)).map fun r => (gi L r).toNat).sum_nat
    rw [← hp, List.map_map]
    congr 1
    refine List.map_congr_left fun k hk => ?_
    rw [List.mem_range] at hk
    show (gi L (k * h % m)).toNat = k * h
    rw [two_val hL hl hg (by omega) hk]; rfl
  rw [e] at hs
  have h2 := sum_range2 m
  generalize sumR m (fun r => ((gi L r).toNat - r) / m) = M at hs ⊢
  generalize sumR m (fun r => r) = S at hs h2
  obtain ⟨p, rfl⟩ : ∃ p, m = p + 1 := ⟨m - 1, by omega⟩
  obtain ⟨q, rfl⟩ : ∃ q, h = q + 1 := ⟨h - 1, by omega⟩
  have h3 : (p + 1) * M = S * q := by rw [Nat.mul_succ] at hs; omega
  have h4 : 2 * S = (p + 1) * p := by rw [Nat.mul_succ] at h2; omega
  have h5 : (p + 1) * (2 * M) = (p + 1) * (p * q) := by
    rw [Nat.mul_left_comm, h3, ← Nat.mul_assoc, h4, Nat.mul_assoc]
  have h6 : 2 * M = p * q := Nat.eq_of_mul_eq_mul_left (by omega) h5
  have h7 : (2 : Int) * (M : Int) = (p : Int) * (q : Int) := by exact_mod_cast h6
  rw [h7]; push_cast; rw [Int.add_mul, Int.mul_add]; omega
end Go.Proofs.Ytlchmaiflcnaoaa

namespace Go.Proofs.Ytlchmaiflcnaoaa
open Go.RowKit

/-- what the walk is told of a slice of integers that came in -/
def IsRow (k : IntKind) (w : World) (a : Option Addr) (len cap : Nat) (zs : List Int) : Prop :=
  (a = none ∧ len = 0 ∧ cap = 0 ∧ zs = []) ∨
  ∃ x, a = some x ∧ len ≤ cap ∧ cap * 8 ≤ 140737488351232 ∧ zs.length = cap ∧ (∀ i, i < zs.length → w.cell? (x.add i) = some (.int k (zs.getD i 0))) ∧ ∀ n ∈ zs, (Lit.int k n).wf = true

theorem cell_lt {w : World} {p : Addr} {v : Value} (h : w.cell? p = some v) : p.block < w.heap.size := by
  rcases Nat.lt_or_ge p.block w.heap.size with hlt | hge
  · exact hlt
  · simp [World.cell?, Array.getElem?_eq_none hge] at h
theorem IsRow.ints {w : World} {a : Option Addr} {len cap : Nat} {zs : List Int} (h : IsRow .i64 w a len cap zs) : Ints w w.heap.size a (zs.take len) ∧ (zs.take len).length = len ∧ len * 8 ≤ 140737488351232 ∧ (a = none → len = 0 ∧ cap = 0) ∧ ∀ n ∈ zs.take len, -9223372036854775808 ≤ n ∧ n ≤ 9223372036854775807 := by
  rcases h with ⟨rfl, rfl, rfl, rfl⟩ | ⟨x, rfl, hl, hr, hz, hc, hwf⟩
  · exact ⟨⟨fun j v h => by simp at h⟩, rfl, by omega, fun _ => ⟨rfl, rfl⟩, fun n h => by simp at h⟩
  · refine ⟨⟨fun j v h => ?_⟩, by rw [List.length_take]; omega, by omega, (fun h => by cases h), fun n hn => ?_⟩
    · rw [List.getElem?_take] at h
      split at h
      · have hj : j < zs.length := (List.getElem?_eq_some_iff.1 h).1
        have hcj := hc j hj
        refine ⟨x, rfl, ?_, ?_⟩
        · have := cell_lt hcj
          rwa [add_block] at this
        · rw [hcj]
          simp [h]
      · cases h
    · have := hwf n (List.mem_of_mem_take hn)
      have h1 : IntKind.i64.min = -9223372036854775808 := rfl
      have h2 : IntKind.i64.max = 9223372036854775807 := rfl
      simp only [Lit.wf, Bool.and_eq_true, decide_eq_true_eq] at this
      omega

theorem iinfo : (Try.prog.info? 3).map (fun i => (i.zero, i.size, i.bytes)) = some (some (.int .i64 0), 1, 8) := by kernel_rfl

/-- what an owned row of ints is -/
theorem Ints.of_own {w : World} {base n : Nat} {v : Value} {l : List Int} (h : w.ownsRow base 3 1 v n (l.map (Value.int .i64))) (hn : l.length = n) :
    ∃ (A : Option Addr) (c : Nat), v = .slice A n c ∧ Ints w w.heap.size A l := by
  obtain ⟨_, h⟩ := h
  rcases h with ⟨rfl, h0⟩ | ⟨g, cap, cur, rfl, hg, hh, h1, h2, h3, h4⟩
  · subst h0
    have : l = [] := List.eq_nil_of_length_eq_zero hn
    subst this
    exact ⟨none, 0, rfl, ⟨fun j v h => by simp at h⟩⟩
  · refine ⟨_, _, rfl, ⟨fun j v hv => ⟨_, rfl, heap_lt hh, ?_⟩⟩⟩
    have e : (⟨g, 0, none⟩ : Addr).add j = ⟨g, j, none⟩ := by
      unfold Addr.add
      split
      · rename_i h0; subst h0; rfl
      · simp
    have hj : (cur.toList.take (n * 1))[j]? = some (.int .i64 v) := by
      rw [h4, List.getElem?_map, hv]; rfl
    rw [List.getElem?_take] at hj
    split at hj
    · rw [Array.getElem?_toList] at hj
      rw [e]
      simp [World.cell?, hh, hj]
    · cases hj

set_option maxRecDepth 100000 in
/-- append([]int(nil), l...) -/
theorem wpList_copy_ints {w : World} {ops : Array Oper} {rest : List Oper} {o : Oper} {a : Act} {Q : Exit → Act → World → Prop} (hgd : o.guard = none) (s x : Operand)
    (ho : o.op = .call { callee := .builtin .append, args := #[s, x], argTypes := #[53, 53] }) (hs : a.eval s = .slice none 0 0)
    (B : Nat) (A : Option Addr) (n c : Nat) (l : List Int) (hx : a.eval x = .slice A n c) (hl : l.length = n) (hI : Ints w B A l) (hnone : A = none → n = 0 ∧ c = 0) (hr : n * 8 ≤ 140737488355328)
    (h : ∀ (A' : Option Addr) (c' : Nat) (w' : World), Ints w' w'.heap.size A' l → Below w.heap.size w w' → wpList Try.prog ops Q rest (a.put o.dst (.slice A' n c')) w') : wpList Try.prog ops Q (o :: rest) a w := by
  obtain ⟨i0, hi, hz0, hz1, hz2⟩ := info_parts iinfo
  cases A with
  | none =>
    obtain ⟨rfl, rfl⟩ := hnone rfl
    have : l = [] := List.eq_nil_of_length_eq_zero hl
    subst this
    exact wpList_append_own_none hgd s x _ ho w.heap.size 3 i0 1 Try.underlying53 hi (.slice none 0 0) 0 [] hs ⟨rfl, .inl ⟨rfl, rfl⟩⟩ hx (h none 0 w ⟨fun j v h => by simp at h⟩ (Below.refl _ _))
  | some ad =>
    refine wpList_append_own _ hgd s x _ ho w.heap.size 3 i0 (.int .i64 0) 1 8 Try.underlying53 hi hz0 hz1 hz2 rfl (by decide) (.slice none 0 0) 0 [] hs ⟨rfl, .inl ⟨rfl, rfl⟩⟩ ad n c (l.map (Value.int .i64)) hx (by simp [hl]) ?_ ?_ (by simp only [maxLen]; omega) (by omega) (Nat.le_refl _) ?_
    · intro j u hu
      rw [List.getElem?_map] at hu
      cases hd : l[j]? with
      | none => rw [hd] at hu; cases hu
      | some d =>
        rw [hd] at hu
        obtain ⟨ad', e, hb, hc⟩ := hI.cell j d hd
        injection e with e
        subst e
        injection hu with hu
        rw [← hu]; exact hc
    · intro u hu
      obtain ⟨d, _, rfl⟩ := List.mem_map.1 hu
      rfl
    · intro v' w' hown hg _
      rw [List.nil_append, Nat.zero_add] at hown
      obtain ⟨A', c', rfl, hI'⟩ := Ints.of_own hown hl
      refine h A' c' w' hI' ((Below.refl _ _).grown hg (Nat.le_refl _) ?_)
      intro k hk
      cases hk

end Go.Proofs.Ytlchmaiflcnaoaa

namespace Go.Proofs.Ytlchmaiflcnaoaa

abbrev T3 := Nat × Nat × Nat
/-- the neighbour over the first and the last number, and the one over the second and the last, where they are not too great -/
def kid1 (t : T3) : List T3 := if 1000000000000000000 / t.2.2 / 3 < t.1 then [] else [(t.1, t.2.2, 3 * t.1 * t.2.2 - t.2.1)]
def kid2 (t : T3) : List T3 := if 1000000000000000000 / t.2.2 / 3 < t.2.1 then [] else [(t.2.1, t.2.2, 3 * t.2.1 * t.2.2 - t.1)]
def kids (t : T3) : List T3 := kid1 t ++ kid2 t
/-- the search: what is too great or was there is passed over -/
def dfs (most : Nat) : Nat → T3 → List T3 → List T3
  | 0, _, acc => acc
  | f + 1, t, acc => if most < t.2.2 ∨ t ∈ acc then acc else (kids t).foldl (fun a k => dfs most f k a) (acc ++ [t])

def TT : List T3 := [
  (1, 1, 1), (1, 1, 2), (1, 2, 5), (1, 5, 13),
  (2, 5, 29), (1, 13, 34), (1, 34, 89), (2, 29, 169),
  (5, 13, 194), (1, 89, 233), (5, 29, 433), (1, 233, 610),
  (2, 169, 985), (13, 34, 1325), (1, 610, 1597), (5, 194, 2897),
  (1, 1597, 4181), (2, 985, 5741), (5, 433, 6466), (13, 194, 7561),
  (34, 89, 9077), (1, 4181, 10946), (29, 169, 14701), (1, 10946, 28657),
  (2, 5741, 33461), (29, 433, 37666), (5, 2897, 43261), (13, 1325, 51641),
  (89, 233, 62210), (1, 28657, 75025), (5, 6466, 96557), (34, 1325, 135137),
  (2, 33461, 195025), (1, 75025, 196418), (13, 7561, 294685), (233, 610, 426389),
  (169, 985, 499393), (1, 196418, 514229), (5, 43261, 646018), (34, 9077, 925765),
  (2, 195025, 1136689), (29, 14701, 1278818), (1, 514229, 1346269), (5, 96557, 1441889),
  (194, 2897, 1686049), (13, 51641, 2012674), (89, 9077, 2423525), (610, 1597, 2922509),
  (29, 37666, 3276509), (1, 1346269, 3524578), (194, 7561, 4400489), (2, 1136689, 6625109),
  (169, 14701, 7453378), (433, 6466, 8399329), (1, 3524578, 9227465), (5, 646018, 9647009),
  (13, 294685, 11485154), (34, 135137, 13782649), (89, 62210, 16609837), (985, 5741, 16964653),
  (1597, 4181, 20031170), (5, 1441889, 21531778), (1, 9227465, 24157817), (2, 6625109, 38613965),
  (233, 62210, 43484701), (433, 37666, 48928105), (1, 24157817, 63245986), (13, 2012674, 78442645),
  (34, 925765, 94418953), (29, 1278818, 111242465), (4181, 10946, 137295677), (5, 9647009, 144059117),
  (1, 63245986, 165580141), (1325, 51641, 205272962), (2, 38613965, 225058681), (169, 499393, 253191266),
  (29, 3276509, 285018617), (233, 426389, 298045301), (5, 21531778, 321534781), (2897, 43261, 375981346),
  (1, 165580141, 433494437), (13, 11485154, 447626321), (1325, 135137, 537169541), (5741, 33461, 576298801),
  (89, 2423525, 647072098), (610, 426389, 780291637), (10946, 28657, 941038565), (194, 1686049, 981277621),
  (1, 433494437, 1134903170), (2, 225058681, 1311738121), (34, 13782649, 1405695061), (985, 499393, 1475706146),
  (6466, 96557, 1873012681), (5, 144059117, 2151239746), (194, 4400489, 2561077037), (1, 1134903170, 2971215073),
  (13, 78442645, 3057250481), (169, 7453378, 3778847945), (89, 16609837, 4434764269), (5, 321534781, 4801489937),
  (610, 2922509, 5348189873), (28657, 75025, 6449974274), (7561, 294685, 6684339842), (2, 1311738121, 7645370045),
  (1, 2971215073, 7778742049), (34, 94418953, 9629807441), (29, 111242465, 9676815637), (433, 8399329, 10910721905),
  (1597, 2922509, 14001740009), (2897, 1686049, 14653451665), (13, 447626321, 17445941365), (33461, 195025, 19577194573),
  (1, 7778742049, 20365011074), (29, 285018617, 24793343170), (9077, 925765, 25209506681), (233, 43484701, 30395743789),
  (5, 2151239746, 32124537073), (75025, 196418, 44208781349), (2, 7645370045, 44560482149), (985, 16964653, 50130543874),
  (1, 20365011074, 53316291173), (14701, 1278818, 56399710225), (433, 48928105, 63557570729), (9077, 2423525, 65995009186),
  (5, 4801489937, 71700814274), (43261, 646018, 83842154089), (1597, 20031170, 95969331289), (7561, 4400489, 99816291793),
  (13, 3057250481, 119154326114), (169, 253191266, 128367472469), (1, 53316291173, 139583862445), (34, 1405695061, 143367113573),
  (6466, 8399329, 162930183509), (89, 647072098, 172765826641), (233, 298045301, 208333239010), (4181, 20031170, 251250963713),
  (2, 44560482149, 259717522849), (5741, 16964653, 292182217634), (196418, 514229, 303011495165), (51641, 2012674, 311809494089),
  (14701, 7453378, 328716329765), (1, 139583862445, 365435296162), (37666, 3276509, 370238963953), (96557, 1441889, 417673428514),
  (5, 32124537073, 479716816349), (194, 981277621, 571101889373), (195025, 1136689, 665048316673), (13, 17445941365, 679944086914),
  (1325, 205272962, 815959972309), (29, 9676815637, 841771717954), (1, 365435296162, 956722026041), (34, 9629807441, 982145940029),
  (5, 71700814274, 1070710724173), (89, 4434764269, 1184065449986), (610, 780291637, 1427933269321), (194, 2561077037, 1490542435045),
  (2, 259717522849, 1513744654945), (4181, 137295677, 1722099665665), (169, 3778847945, 1915868454737), (514229, 1346269, 2076871684802),
  (1325, 537169541, 2135248790338), (29, 24793343170, 2156735837173), (1, 956722026041, 2504730781961), (62210, 16609837, 3099893879221),
  (2897, 375981346, 3267653834825), (985, 1475706146, 4360711162037), (10946, 137295677, 4508515437145), (13, 119154326114, 4643961467965),
  (37666, 48928105, 5528778008357), (135137, 13782649, 5587637513705), (1, 2504730781961, 6557470319842), (5, 479716816349, 7163627708162),
  (62210, 43484701, 8115549747397), (2, 1513744654945, 8822750406821), (610, 5348189873, 9787184545081), (5741, 576298801, 9925594216162),
  (294685, 11485154, 10153507819457), (433, 10910721905, 14173019355266), (1346269, 3524578, 14235090298445), (34, 143367113573, 14622039889385),
  (5, 1070710724173, 15988960048321), (1, 6557470319842, 17167680177565), (646018, 9647009, 18696424380481), (233, 30395743789, 21246581423810),
  (1136689, 6625109, 22592065572301), (13, 679944086914, 26500373448281), (10946, 941038565, 30901824368813), (51641, 205272962, 31801503090601),
  (6466, 1873012681, 36332699889481), (1, 17167680177565, 44945570212853), (89, 172765826641, 46127828641049), (43261, 375981346, 48795987025021),
  (2, 8822750406821, 51422757785981), (33461, 576298801, 57850602535042), (169, 128367472469, 65082055350517), (1597, 14001740009, 67082333460610),
  (29, 841771717954, 73224462646361), (28657, 941038565, 80902026460669), (433, 63557570729, 82561235448866), (1441889, 21531778, 93139301545921),
  (3524578, 9227465, 97568760404309), (34, 982145940029, 100169256075517), (5, 7163627708162, 106974698806081), (1, 44945570212853, 117669030460994),
  (2897, 14653451665, 127353146734466), (233, 208333239010, 145624636022689), (985, 50130543874, 148135740183017), (7561, 6684339842, 151620880341401),
  (13, 4643961467965, 180995342924521), (29, 2156735837173, 187611224490881), (135137, 537169541, 217774440785026), (5, 15988960048321, 238763690000642),
  (925765, 94418953, 262229286072101), (2, 51422757785981, 299713796309065), (1, 117669030460994, 308061521170129), (89, 1184065449986, 316141040381993),
  (194, 571101889373, 332380318337465), (499393, 253191266, 379325837704445), (426389, 298045301, 381249713544034), (1278818, 111242465, 426776599819081),
  (1597, 95969331289, 459789046174429), (2012674, 78442645, 473638416248177), (96557, 1873012681, 542557456311485), (28657, 6449974274, 554510738235029),
  (9227465, 24157817, 668746232531714), (9077, 25209506681, 686480075504546), (6625109, 38613965, 767465181141553), (1, 308061521170129, 806515533049393),
  (194, 1490542435045, 867493136119153), (169, 1915868454737, 971341527703714), (426389, 780291637, 998123312425769), (13, 26500373448281, 1032834620396045),
  (75025, 6449974274, 1451727959691893), (34, 14622039889385, 1491304701603697), (5, 106974698806081, 1597456854383053), (2, 299713796309065, 1746860020068409),
  (9077, 65995009186, 1797110092720441), (33461, 19577194573, 1965217522626434), (1, 806515533049393, 2111485077978050), (499393, 1475706146, 2210871958107149),
  (7561, 99816291793, 2264132942340130), (14701, 56399710225, 2487396418774357), (610, 1427933269321, 2613117102565793), (3276509, 285018617, 2801598191304130),
  (4181, 251250963713, 3151440817820989), (6466, 162930183509, 3160519691308253), (1325, 815959972309, 3243440684655313), (5, 238763690000642, 3565466389961309),
  (9647009, 144059117, 4169218794693154), (24157817, 63245986, 4583654867317685), (2423525, 647072098, 4704586218916261), (1686049, 981277621, 4963446454828093),
  (5741, 292182217634, 5032254317345729), (1, 2111485077978050, 5527939700884757), (294685, 6684339842, 5909324059011749), (29, 73224462646361, 6369686478515453),
  (13, 180995342924521, 7054174412588354), (1325, 2135248790338, 8487613404424009), (75025, 44208781349, 9950291461929757), (2, 1746860020068409, 10181446324101389),
  (34, 100169256075517, 10216281973762705), (43261, 83842154089, 10881286283486669), (195025, 19577194573, 11454127114764514), (89, 46127828641049, 12315957481333442),
  (985, 4360711162037, 12885900008113189), (1, 5527939700884757, 14472334024676221), (14701, 328716329765, 14497376284172417), (233, 21246581423810, 14851330019499401),
  (11485154, 447626321, 15423171693415289), (29, 187611224490881, 16320019794869474), (610, 9787184545081, 17910542369308357), (433, 14173019355266, 18410741231768629),
  (21531778, 321534781, 20769646571311849), (4181, 1722099665665, 21600295969140418), (5, 1597456854383053, 23854878116939714), (196418, 44208781349, 26050201244948621),
  (38613965, 225058681, 26071224093240493), (2897, 3267653834825, 28399179102482729), (63245986, 165580141, 31416837838692077), (169, 65082055350517, 32996473695239650),
  (4400489, 2561077037, 33809973988413085), (1, 14472334024676221, 37889062373143906), (13, 1032834620396045, 40254049821997474), (37666, 370238963953, 41836262445484585),
  (2922509, 5348189873, 46890399112653461), (51641, 311809494089, 48306462250737473), (5, 3565466389961309, 53243232159418993), (13782649, 1405695061, 58122604880389733),
  (2, 10181446324101389, 59341817924539925), (925765, 25209506681, 70014236857598818), (1686049, 14653451665, 74119312578961858), (89, 316141040381993, 84408473716542145),
  (7453378, 3778847945, 84495546415824461), (1, 37889062373143906, 99194853094755497), (233, 145624636022689, 101791412246620601), (433, 82561235448866, 107246981290506205),
  (96557, 417673428514, 120987879709637005), (2922509, 14001740009, 122760633575886146), (10946, 4508515437145, 148050629787671833), (34, 1491304701603697, 152098457523687709),
  (646018, 83842154089, 162490622100759545), (5741, 9925594216162, 170948508608659325), (196418, 303011495165, 178550735571442681), (194, 332380318337465, 193444774170515257),
  (165580141, 433494437, 215334210003526850), (1278818, 56399710225, 216374893891527449), (16609837, 4434764269, 220982134924542370), (1, 99194853094755497, 259695496911122585),
  (8399329, 10910721905, 274928228722804802), (13, 7054174412588354, 274931806748021285), (1597, 67082333460610, 321391445608042501), (2, 59341817924539925, 345869461223138161),
  (5, 23854878116939714, 356225714899712657), (195025, 665048316673, 389103143876318786), (985, 148135740183017, 437741062110271361), (514229, 303011495165, 467451894441411937),
  (2423525, 65995009186, 479821663912492873), (169, 971341527703714, 492468238677328261), (194, 867493136119153, 504879514678912001), (29, 6369686478515453, 554089499168198050),
  (62210, 3099893879221, 578533194662405393), (37666, 5528778008357, 624740857339396181), (1, 259695496911122585, 679891637638612258), (6466, 36332699889481, 704781710583139757),
  (78442645, 3057250481, 719456442471486722), (5, 53243232159418993, 795083016001323586), (225058681, 1311738121, 885654153989035201), (144059117, 2151239746, 929717094792192841)]

def okT (t : T3) : Bool := decide (1 ≤ t.1) && decide (t.1 ≤ t.2.1) && decide (t.2.1 ≤ t.2.2) && decide (t.2.2 ≤ 1000000000000000000) && decide (t.1 * t.1 + t.2.1 * t.2.1 + t.2.2 * t.2.2 = 3 * t.1 * t.2.1 * t.2.2) && (kids t).all (fun k => TT.contains k && decide (2 * t.2.2 ≤ k.2.2))
theorem tt_chk : TT.all okT = true := by decide +kernel
def parT (x : T3) : Bool := x == (1, 1, 1) || TT.any (fun y => (kids y).contains x)
theorem tt_par : TT.all parT = true := by decide +kernel
def rising : List T3 → Bool
  | x :: y :: r => decide (x.2.2 < y.2.2) && rising (y :: r)
  | _ => true
theorem tt_rise : rising TT = true := by decide +kernel
def nearT (t : T3) : Bool := (decide (1000000000000000000 < 3 * t.1 * t.2.2 - t.2.1) || TT.contains (t.1, t.2.2, 3 * t.1 * t.2.2 - t.2.1)) && (decide (1000000000000000000 < 3 * t.2.1 * t.2.2 - t.1) || TT.contains (t.2.1, t.2.2, 3 * t.2.1 * t.2.2 - t.1))
theorem tt_near : TT.all nearT = true := by decide +kernel

structure OkT (t : T3) : Prop where
  a : 1 ≤ t.1
  b : t.1 ≤ t.2.1
  c : t.2.1 ≤ t.2.2
  d : t.2.2 ≤ 1000000000000000000
  eq : t.1 * t.1 + t.2.1 * t.2.1 + t.2.2 * t.2.2 = 3 * t.1 * t.2.1 * t.2.2
  kid : ∀ k ∈ kids t, k ∈ TT ∧ 2 * t.2.2 ≤ k.2.2
theorem ok_of {t : T3} (h : t ∈ TT) : OkT t := by
  have := List.all_eq_true.1 tt_chk t h
  simp only [okT, Bool.and_eq_true, decide_eq_true_eq, List.all_eq_true, List.contains_iff_mem] at this
  obtain ⟨⟨⟨⟨⟨a, b⟩, c⟩, d⟩, e⟩, f⟩ := this
  exact ⟨a, b, c, d, e, f⟩
theorem par_of {t : T3} (h : t ∈ TT) : t = (1, 1, 1) ∨ ∃ y ∈ TT, t ∈ kids y := by
  have := List.all_eq_true.1 tt_par t h
  simpa only [parT, Bool.or_eq_true, beq_iff_eq, List.any_eq_true, List.contains_iff_mem] using this
theorem near_of {t : T3} (h : t ∈ TT) : (3 * t.1 * t.2.2 - t.2.1 ≤ 1000000000000000000 → (t.1, t.2.2, 3 * t.1 * t.2.2 - t.2.1) ∈ TT) ∧ (3 * t.2.1 * t.2.2 - t.1 ≤ 1000000000000000000 → (t.2.1, t.2.2, 3 * t.2.1 * t.2.2 - t.1) ∈ TT) := by
  have := List.all_eq_true.1 tt_near t h
  simp only [nearT, Bool.and_eq_true, Bool.or_eq_true, decide_eq_true_eq, List.contains_iff_mem] at this
  exact ⟨fun h => this.1.resolve_left (by omega), fun h => this.2.resolve_left (by omega)⟩
/-- the order by the last number -/
def LtT (x y : T3) : Prop := x.2.2 < y.2.2
theorem rising_pair : ∀ {l : List T3}, rising l = true → l.Pairwise LtT
  | [], _ => .nil
  | [x], _ => List.pairwise_singleton ..
  | x :: y :: r, h => by
    simp only [rising, Bool.and_eq_true, decide_eq_true_eq] at h
    have ih := rising_pair h.2
    refine List.pairwise_cons.2 ⟨fun z hz => ?_, ih⟩
    rcases List.mem_cons.1 hz with rfl | hz
    · exact h.1
    · exact Nat.lt_trans h.1 ((List.pairwise_cons.1 ih).1 z hz)
theorem tt_pair : TT.Pairwise LtT := rising_pair tt_rise
theorem pair_ext : ∀ {l m : List T3}, l.Pairwise LtT → m.Pairwise LtT → (∀ x, x ∈ l ↔ x ∈ m) → l = m
  | [], [], _, _, _ => rfl
  | [], y :: s, _, _, h => by simpa using h y
  | x :: r, [], _, _, h => by simpa using h x
  | x :: r, y :: s, hl, hm, h => by
    rw [List.pairwise_cons] at hl hm
    have hxy : x = y := by
      rcases List.mem_cons.1 ((h x).1 (List.mem_cons_self ..)) with e | e
      · exact e
      · rcases List.mem_cons.1 ((h y).2 (List.mem_cons_self ..)) with f | f
        · exact f.symm
        · exact absurd (Nat.lt_trans (hm.1 x e) (hl.1 y f)) (Nat.lt_irrefl _)
    subst hxy
    refine congrArg (x :: ·) (pair_ext hl.2 hm.2 fun z => ?_)
    constructor
    · intro hz
      rcases List.mem_cons.1 ((h z).1 (List.mem_cons_of_mem _ hz)) with e | e
      · subst e; exact absurd (hl.1 _ hz) (Nat.lt_irrefl _)
      · exact e
    · intro hz
      rcases List.mem_cons.1 ((h z).2 (List.mem_cons_of_mem _ hz)) with e | e
      · subst e; exact absurd (hm.1 _ hz) (Nat.lt_irrefl _)
      · exact e
theorem lt_apart : ∀ {l : List T3}, l.Pairwise LtT → ∀ {x y : T3}, x ∈ l → y ∈ l → x.2.2 = y.2.2 → x = y
  | z :: r, hl, x, y, hx, hy, h => by
    rw [List.pairwise_cons] at hl
    rcases List.mem_cons.1 hx with e1 | h1 <;> rcases List.mem_cons.1 hy with e2 | h2
    · rw [e1, e2]
    · subst e1; exact absurd (hl.1 y h2) (by unfold LtT; omega)
    · subst e2; exact absurd (hl.1 x h1) (by unfold LtT; omega)
    · exact lt_apart hl.2 h1 h2 h

/-- what has been found so far -/
structure Inv (most : Nat) (acc : List T3) : Prop where
  nodup : acc.Nodup
  mem : ∀ x ∈ acc, x ∈ TT ∧ x.2.2 ≤ most
theorem nodup_lenT : ∀ {l m : List T3}, l.Nodup → (∀ x ∈ l, x ∈ m) → l.length ≤ m.length
  | [], _, _, _ => Nat.zero_le _
  | x :: r, m, h, hs => by
    rw [List.nodup_cons] at h
    have hx := hs x (List.mem_cons_self ..)
    have ih := nodup_lenT (m := m.erase x) h.2 fun y hy => (List.mem_erase_of_ne (fun e : y = x => h.1 (by rw [← e]; exact hy))).2 (hs y (List.mem_cons_of_mem _ hy))
    rw [List.length_erase_of_mem hx] at ih
    have := List.length_pos_of_mem hx
    rw [List.length_cons]; omega
theorem Inv.len {most : Nat} {acc : List T3} (h : Inv most acc) : acc.length ≤ 328 := by
  have := nodup_lenT h.nodup (fun x hx => (h.mem x hx).1)
  exact Nat.le_trans this (by decide +kernel)
theorem Inv.push {most : Nat} {acc : List T3} (h : Inv most acc) {t : T3} (ht : t ∈ TT) (hm : t.2.2 ≤ most) (hn : t ∉ acc) : Inv most (acc ++ [t]) := by
  refine ⟨List.nodup_append.2 ⟨h.nodup, List.nodup_cons.2 ⟨by simp, List.nodup_nil⟩, fun a ha b hb => ?_⟩, fun x hx => ?_⟩
  · rw [List.mem_singleton.1 hb]; rintro rfl; exact hn ha
  · rcases List.mem_append.1 hx with h1 | h1
    · exact h.mem x h1
    · rw [List.mem_singleton.1 h1]; exact ⟨ht, hm⟩
theorem foldl_inv {most f : Nat} (ih : ∀ {t : T3} {acc : List T3}, t ∈ TT → Inv most acc → Inv most (dfs most f t acc) ∧ ∀ x ∈ acc, x ∈ dfs most f t acc) : ∀ (ks : List T3) (acc : List T3), (∀ k ∈ ks, k ∈ TT) → Inv most acc → Inv most (ks.foldl (fun a k => dfs most f k a) acc) ∧ ∀ x ∈ acc, x ∈ ks.foldl (fun a k => dfs most f k a) acc
  | [], acc, _, h => ⟨h, fun _ hx => hx⟩
  | k :: r, acc, hk, h => by
    have h1 := ih (hk k (List.mem_cons_self ..)) h
    have h2 := foldl_inv ih r _ (fun x hx => hk x (List.mem_cons_of_mem _ hx)) h1.1
    exact ⟨h2.1, fun x hx => h2.2 x (h1.2 x hx)⟩
theorem dfs_inv {most : Nat} : ∀ (f : Nat) {t : T3} {acc : List T3}, t ∈ TT → Inv most acc → Inv most (dfs most f t acc) ∧ ∀ x ∈ acc, x ∈ dfs most f t acc
  | 0, _, _, _, h => ⟨h, fun _ hx => hx⟩
  | f + 1, t, acc, ht, h => by
    rw [dfs]
    split
    · exact ⟨h, fun _ hx => hx⟩
    · rename_i hn
      have hp := h.push ht (by omega) (fun e => hn (.inr e))
      have := foldl_inv (fun {t acc} => dfs_inv f (t := t) (acc := acc)) (kids t) _ (fun k hk => ((ok_of ht).kid k hk).1) hp
      exact ⟨this.1, fun x hx => this.2 x (List.mem_append_left _ hx)⟩
/-- the neighbours of what is new are there -/
def Closed (most : Nat) (acc out : List T3) : Prop := ∀ x ∈ out, x ∈ acc ∨ ∀ k ∈ kids x, k.2.2 ≤ most → k ∈ out
theorem foldl_closed {most f : Nat} (ih : ∀ {t : T3} {acc : List T3}, t ∈ TT → Inv most acc → most < t.2.2 * 2 ^ f → (t.2.2 ≤ most → t ∈ dfs most f t acc) ∧ Closed most acc (dfs most f t acc)) : ∀ (ks : List T3) (acc : List T3), (∀ k ∈ ks, k ∈ TT ∧ most < k.2.2 * 2 ^ f) → Inv most acc →
    (∀ k ∈ ks, k.2.2 ≤ most → k ∈ ks.foldl (fun a k => dfs most f k a) acc) ∧ Closed most acc (ks.foldl (fun a k => dfs most f k a) acc)
  | [], acc, _, h => ⟨by simp, fun x hx => .inl hx⟩
  | k :: r, acc, hk, h => by
    have hk0 := hk k (List.mem_cons_self ..)
    have h1 := dfs_inv f hk0.1 h
    have h2 := ih hk0.1 h hk0.2
    have h3 := foldl_closed ih r _ (fun x hx => hk x (List.mem_cons_of_mem _ hx)) h1.1
    have h4 := foldl_inv (fun {t acc} => dfs_inv f (t := t) (acc := acc)) r _ (fun x hx => (hk x (List.mem_cons_of_mem _ hx)).1) h1.1
    refine ⟨fun x hx hm => ?_, fun x hx => ?_⟩
    · rcases List.mem_cons.1 hx with rfl | hx
      · exact h4.2 _ (h2.1 hm)
      · exact h3.1 x hx hm
    · rcases h3.2 x hx with e | e
      · rcases h2.2 x e with e | e
        · exact .inl e
        · exact .inr fun y hy hm => h4.2 _ (e y hy hm)
      · exact .inr e
theorem dfs_closed {most : Nat} : ∀ (f : Nat) {t : T3} {acc : List T3}, t ∈ TT → Inv most acc → most < t.2.2 * 2 ^ f → (t.2.2 ≤ most → t ∈ dfs most f t acc) ∧ Closed most acc (dfs most f t acc)
  | 0, t, acc, _, h, hf => ⟨fun hm => by rw [Nat.pow_zero] at hf; omega, fun x hx => .inl hx⟩
  | f + 1, t, acc, ht, h, hf => by
    have hkid : ∀ k ∈ kids t, k ∈ TT ∧ most < k.2.2 * 2 ^ f := fun k hk => by
      have h1 := (ok_of ht).kid k hk
      refine ⟨h1.1, ?_⟩
      have h2 : 2 * t.2.2 * 2 ^ f ≤ k.2.2 * 2 ^ f := Nat.mul_le_mul_right _ h1.2
      rw [Nat.pow_succ] at hf
      have h3 : 2 * t.2.2 * 2 ^ f = t.2.2 * (2 ^ f * 2) := by rw [Nat.mul_comm 2, Nat.mul_assoc, Nat.mul_comm 2]
      omega
    rw [dfs]
    split
    · rename_i hn
      refine ⟨fun hm => ?_, fun x hx => .inl hx⟩
      rcases hn with hn | hn
      · omega
      · exact hn
    · rename_i hn
      have hp := h.push ht (by omega) (fun e => hn (.inr e))
      have h1 := foldl_closed (fun {t acc} => dfs_closed f (t := t) (acc := acc)) (kids t) _ hkid hp
      have h2 := foldl_inv (fun {t acc} => dfs_inv f (t := t) (acc := acc)) (kids t) _ (fun k hk => (hkid k hk).1) hp
      refine ⟨fun _ => h2.2 t (by simp), fun x hx => ?_⟩
      rcases h1.2 x hx with e | e
      · rcases List.mem_append.1 e with e | e
        · exact .inl e
        · rw [List.mem_singleton.1 e]; exact .inr fun k hk hm => h1.1 k hk hm
      · exact .inr e
/-- Markov's triples up to a number, in order -/
def mkL (most : Nat) : List T3 := TT.filter fun t => decide (t.2.2 ≤ most)
theorem root_in : ((1, 1, 1) : T3) ∈ TT := by decide +kernel
theorem dfs_all {most : Nat} (hm : most ≤ 1000000000000000000) (x : T3) : x ∈ dfs most 60 (1, 1, 1) [] ↔ x ∈ mkL most := by
  have h0 : Inv most [] := ⟨List.nodup_nil, by simp⟩
  have h1 := dfs_inv 60 root_in h0
  have h2 := dfs_closed 60 root_in h0 (show most < 1 * 2 ^ 60 by omega)
  unfold mkL
  rw [List.mem_filter, decide_eq_true_eq]
  refine ⟨fun h => h1.1.mem x h, fun ⟨h, hc⟩ => ?_⟩
  suffices H : ∀ c, ∀ x ∈ TT, x.2.2 = c → x.2.2 ≤ most → x ∈ dfs most 60 (1, 1, 1) [] from H _ x h rfl hc
  intro c
  induction c using Nat.strongRecOn with
  | _ c ih =>
    intro x hx he hc
    rcases par_of hx with rfl | ⟨y, hy, hk⟩
    · exact h2.1 hc
    · have hky := (ok_of hy).kid x hk
      have hy1 := (ok_of hy)
      have hyc : 1 ≤ y.2.2 := Nat.le_trans hy1.a (Nat.le_trans hy1.b hy1.c)
      have := ih y.2.2 (by omega) y hy rfl (by omega)
      rcases h2.2 y this with e | e
      · cases e
      · exact e x hk hc
theorem mk_pair (most : Nat) : (mkL most).Pairwise LtT := tt_pair.filter _
theorem mk_mem {most : Nat} {x : T3} : x ∈ mkL most ↔ x ∈ TT ∧ x.2.2 ≤ most := by
  unfold mkL; rw [List.mem_filter, decide_eq_true_eq]
theorem mk_len (most : Nat) : (mkL most).length ≤ 328 := Nat.le_trans (List.length_filter_le ..) (by decide +kernel)
/-- what is sorted by a weak order and holds the same is the list -/
theorem mk_of_sorted {most : Nat} (hm : most ≤ 1000000000000000000) {l : List T3} (hp : l.Perm (dfs most 60 (1, 1, 1) [])) (hs : l.Pairwise fun x y => x.2.2 ≤ y.2.2) : l = mkL most := by
  have h0 : Inv most [] := ⟨List.nodup_nil, by simp⟩
  have h1 := dfs_inv 60 root_in h0
  have hn : l.Nodup := hp.nodup_iff.2 h1.1.nodup
  refine pair_ext ?_ (mk_pair most) fun x => (hp.mem_iff).trans (dfs_all hm x)
  have hmem : ∀ x ∈ l, x ∈ TT := fun x hx => (h1.1.mem x (hp.mem_iff.1 hx)).1
  refine List.Pairwise.imp_of_mem (R := fun x y => x.2.2 ≤ y.2.2 ∧ x ≠ y) (fun {x y} hx hy h => ?_) (hs.and hn)
  refine Nat.lt_of_le_of_ne h.1 fun e => h.2 (lt_apart tt_pair (hmem x hx) (hmem y hy) e)
/-- by trying -/
def mRow (z : Nat) : List T3 := (List.range (z + 1)).flatMap fun y => ((List.range (y + 1)).filter fun x => decide ((x + 1) * (x + 1) + (y + 1) * (y + 1) + (z + 1) * (z + 1) = 3 * (x + 1) * (y + 1) * (z + 1))).map fun x => (x + 1, y + 1, z + 1)
def mOf (most : Nat) : List T3 := (List.range most).flatMap mRow
theorem row_chk : (List.range 100).all (fun z => mRow z == TT.filter (fun t => decide (t.2.2 = z + 1))) = true := by decide +kernel
theorem cut_chk : (List.range 100).all (fun z => mkL (z + 1) == mkL z ++ TT.filter (fun t => decide (t.2.2 = z + 1))) = true := by decide +kernel
theorem mOf_eq : ∀ most, most ≤ 100 → mOf most = mkL most
  | 0, _ => by
    have : mkL 0 = [] := by decide +kernel
    rw [this]; rfl
  | z + 1, h => by
    have h1 := List.all_eq_true.1 row_chk z (List.mem_range.2 (by omega))
    have h2 := List.all_eq_true.1 cut_chk z (List.mem_range.2 (by omega))
    rw [beq_iff_eq] at h1 h2
    rw [h2, ← h1, ← mOf_eq z (by omega)]
    unfold mOf
    rw [List.range_succ, List.flatMap_append]
    simp
end Go.Proofs.Ytlchmaiflcnaoaa

