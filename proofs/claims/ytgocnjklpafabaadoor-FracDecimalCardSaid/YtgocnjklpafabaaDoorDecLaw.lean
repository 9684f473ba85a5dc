/- Plain laws of decimal fractions: how many digits there are ahead of those that come again, and how many that do. -/
import Derived.Test.YtgocnjklpafabaaDoorPartsLaw
namespace Go.Proofs.YtgocnjklpafabaaDoor

/-- how many units, out of powers of primes -/
def phiL : List (Nat × Nat) → Nat
  | [] => 1
  | (p, t) :: r => (p - 1) * p ^ (t - 1) * phiL r
theorem phiL_app (a b : List (Nat × Nat)) : phiL (a ++ b) = phiL a * phiL b := by
  induction a with
  | nil => simp [phiL]
  | cons x r ih => obtain ⟨p, t⟩ := x; rw [List.cons_append, phiL, phiL, ih]; simp only [Nat.mul_assoc]
theorem phiL_take {l : List (Nat × Nat)} {i p t : Nat} (h : l[i]? = some (p, t)) : phiL (l.take (i + 1)) = phiL (l.take i) * ((p - 1) * p ^ (t - 1)) := by
  rw [List.take_add_one, h, phiL_app]; simp [phiL]
theorem phiL_le (l : List (Nat × Nat)) (h : ∀ x ∈ l, 2 ≤ x.1 ∧ 1 ≤ x.2) : phiL l ≤ pprod l ∧ 1 ≤ phiL l := by
  induction l with
  | nil => simp [phiL, pprod]
  | cons x r ih =>
    obtain ⟨p, t⟩ := x
    obtain ⟨h1, h2⟩ := ih fun y hy => h y (List.mem_cons_of_mem _ hy)
    have h3 := h (p, t) (List.mem_cons_self ..)
    have h3a : 2 ≤ p := h3.1
    have h3b : 1 ≤ t := h3.2
    have e : p ^ t = p * p ^ (t - 1) := by rw [show t = (t - 1) + 1 from by omega, Nat.pow_succ, Nat.mul_comm]; simp
    have hp : 1 ≤ p ^ (t - 1) := Nat.pow_pos (by omega)
    rw [phiL, pprod, e]
    refine ⟨Nat.mul_le_mul (Nat.mul_le_mul_right _ (by omega)) h1, ?_⟩
    exact Nat.mul_pos (Nat.mul_pos (by omega) hp) h2
theorem phiL_pre {l : List (Nat × Nat)} {i : Nat} (h : ∀ x ∈ l, 2 ≤ x.1 ∧ 1 ≤ x.2) : phiL (l.take i) ≤ phiL l := by
  have e : phiL l = phiL (l.take i) * phiL (l.drop i) := by rw [← phiL_app, List.take_append_drop]
  rw [e]
  exact Nat.le_mul_of_pos_right _ (phiL_le _ fun x hx => h x (List.mem_of_mem_drop hx)).2

theorem mod_of_dvd {x n : Nat} (h1 : 1 ≤ x) (h : n ∣ x - 1) : x % n = 1 % n := mod_of_dvd_sub h1 h
theorem dvd_of_mod {x n : Nat} (h : x % n = 1 % n) : n ∣ x - 1 := dvd_sub_mod h
theorem pow_mul_one {a n k : Nat} (h : n ∣ a ^ k - 1) (ha : 1 ≤ a) (j : Nat) : n ∣ a ^ (k * j) - 1 := by
  have h1 := mod_of_dvd (Nat.pow_pos ha) h
  refine dvd_of_mod ?_
  rw [Nat.pow_mul, Nat.pow_mod, h1, ← Nat.pow_mod, Nat.one_pow]
/-- by a power of a prime -/
theorem euler_pow {p a : Nat} (hp : Pr p) (h : ¬ p ∣ a) (ha : 1 ≤ a) (t : Nat) : p ^ (t + 1) ∣ a ^ ((p - 1) * p ^ t) - 1 := by
  induction t with
  | zero =>
    rw [Nat.pow_zero, Nat.mul_one, Nat.zero_add, Nat.pow_one]
    exact dvd_of_mod (by rw [hp.fermat1 h]; exact (Nat.mod_eq_of_lt hp.1).symm)
  | succ t ih =>
    have h1 : 1 ≤ a ^ ((p - 1) * p ^ t) := Nat.pow_pos ha
    have h2 : ((p ^ (t + 1) : Nat) : Int) ∣ ((a ^ ((p - 1) * p ^ t) : Nat) : Int) - 1 := by
      have := Int.natCast_dvd_natCast.2 ih
      rwa [Int.natCast_sub h1] at this
    have h3 := pow_lift (p := p) h2 (by rw [Nat.pow_succ, Int.natCast_mul]; exact ⟨_, Int.mul_comm _ _⟩)
    have e : (p - 1) * p ^ (t + 1) = (p - 1) * p ^ t * p := by rw [Nat.pow_succ, Nat.mul_assoc]
    have h4 : 1 ≤ a ^ ((p - 1) * p ^ (t + 1)) := Nat.pow_pos ha
    refine Int.natCast_dvd_natCast.1 ?_
    rw [Int.natCast_sub h4, e, Nat.pow_mul, Nat.pow_succ p (t + 1), Nat.mul_comm]
    rw [Int.one_pow] at h3
    simpa using h3
theorem Pr.pp {l : List (Nat × Nat)} {q : Nat} (hq : Pr q) (hl : ∀ x ∈ l, Pr x.1) (h : q ∣ pprod l) : ∃ x ∈ l, q = x.1 := by
  induction l with
  | nil =>
    have := Nat.le_of_dvd (by decide) h
    have h2 := hq.1
    simp [pprod] at this; omega
  | cons x r ih =>
    obtain ⟨p, t⟩ := x
    rw [pprod] at h
    rcases hq.dvd_mul h with h1 | h1
    · have h2 := hq.dvd_pow t h1
      have h3 := (hl (p, t) (List.mem_cons_self ..)).2 q h2
      have := hq.1
      exact ⟨_, List.mem_cons_self .., by rcases h3 with h3 | h3; omega; exact h3⟩
    · obtain ⟨y, hy, e⟩ := ih (fun z hz => hl z (List.mem_cons_of_mem _ hz)) h1
      exact ⟨y, List.mem_cons_of_mem _ hy, e⟩
/-- different primes -/
def Diff (l : List (Nat × Nat)) : Prop := l.Pairwise fun x y => x.1 ≠ y.1
theorem pw_coprime {p t : Nat} {r : List (Nat × Nat)} (hp : Pr p) (hr : ∀ x ∈ r, Pr x.1) (hd : ∀ x ∈ r, p ≠ x.1) : Nat.Coprime (p ^ t) (pprod r) := by
  have h : ¬ p ∣ pprod r := fun h => by
    obtain ⟨x, hx, e⟩ := hp.pp hr h
    exact hd x hx e
  exact Nat.Coprime.pow_left t (hp.coprime h)
theorem euler {a : Nat} (ha : 1 ≤ a) : ∀ (l : List (Nat × Nat)), (∀ x ∈ l, Pr x.1 ∧ 1 ≤ x.2) → Diff l → Nat.gcd a (pprod l) = 1 → pprod l ∣ a ^ phiL l - 1 := by
  intro l
  induction l with
  | nil => intro _ _ _; simp [pprod]
  | cons x r ih =>
    obtain ⟨p, t⟩ := x
    intro hP hD hg
    have hp := hP (p, t) (List.mem_cons_self ..)
    have hp1 : Pr p := hp.1
    have ht : 1 ≤ t := hp.2
    have hr : ∀ x ∈ r, Pr x.1 ∧ 1 ≤ x.2 := fun y hy => hP y (List.mem_cons_of_mem _ hy)
    unfold Diff at hD
    rw [List.pairwise_cons] at hD
    rw [pprod] at hg ⊢
    have g1 : Nat.gcd a (pprod r) = 1 := Nat.Coprime.coprime_mul_left_right hg
    have g2 : ¬ p ∣ a := fun h => by
      have h3 : p ∣ p ^ t * pprod r := Nat.dvd_trans (by rw [show t = (t - 1) + 1 from by omega, Nat.pow_succ]; exact Nat.dvd_mul_left ..) (Nat.dvd_mul_right ..)
      have h4 := Nat.dvd_gcd h h3
      rw [hg] at h4
      have := Nat.le_of_dvd (by decide) h4
      have := hp1.1
      omega
    have h1 := euler_pow hp1 g2 ha (t - 1)
    rw [show t - 1 + 1 = t from by omega] at h1
    have h2 := ih hr hD.2 g1
    refine Nat.Coprime.mul_dvd_of_dvd_of_dvd (pw_coprime hp1 (fun x hx => (hr x hx).1) hD.1) ?_ ?_
    · rw [phiL]; exact pow_mul_one h1 ha _
    · rw [phiL, Nat.mul_comm]; exact pow_mul_one h2 ha _

/-- behind i primes of n0: n -/
structure OrdAt (a m n0 : Nat) (l : List (Nat × Nat)) (i n : Nat) : Prop where
  pos : 1 ≤ n
  dvd : n ∣ n0
  one : a ^ n % m = 1
  done : ∀ j p t, j < i → l[j]? = some (p, t) → ¬ (p ∣ n ∧ a ^ (n / p) % m = 1)
theorem OrdAt.step {a m n0 i n p t : Nat} {l : List (Nat × Nat)} (h : OrdAt a m n0 l i n) (hm : 1 < m) (_hp : l[i]? = some (p, t)) (h2 : 2 ≤ p) (hd : p ∣ n) (h1 : a ^ (n / p) % m = 1) : OrdAt a m n0 l i (n / p) ∧ n / p < n := by
  have hn : n / p * p = n := Nat.div_mul_cancel hd
  have h0 := h.pos
  refine ⟨⟨?_, Nat.dvd_trans ⟨p, hn.symm⟩ h.dvd, h1, ?_⟩, Nat.div_lt_self (by omega) (by omega)⟩
  · exact Nat.div_pos (Nat.le_of_dvd (by omega) hd) (by omega)
  · intro j q s hj hq ⟨hqd, hq1⟩
    refine h.done j q s hj hq ⟨Nat.dvd_trans hqd ⟨p, hn.symm⟩, ?_⟩
    have e : n / q = n / p / q * p := by
      obtain ⟨c, hc⟩ := hqd
      rcases Nat.eq_zero_or_pos q with hq0 | hq0
      · subst hq0; simp
      · rw [hc, Nat.mul_div_cancel_left _ hq0]
        conv => lhs; rw [← hn, hc, Nat.mul_assoc, Nat.mul_div_cancel_left _ hq0]
    rw [e]; exact pw_mul hm hq1 p
theorem OrdAt.next {a m n0 i n p t : Nat} {l : List (Nat × Nat)} (h : OrdAt a m n0 l i n) (hp : l[i]? = some (p, t)) (hno : ¬ (p ∣ n ∧ a ^ (n / p) % m = 1)) : OrdAt a m n0 l (i + 1) n := by
  refine ⟨h.pos, h.dvd, h.one, fun j q s hj hq => ?_⟩
  rcases Nat.lt_or_ge j i with h1 | h1
  · exact h.done j q s h1 hq
  · have : j = i := by omega
    subst this
    rw [hp] at hq
    injection hq with hq
    injection hq with e1 e2
    subst e1
    exact hno
/-- the least power that is 1 -/
def OrdOk (a m n : Nat) : Prop := 1 ≤ n ∧ a ^ n % m = 1 ∧ ∀ j, 1 ≤ j → a ^ j % m = 1 → n ≤ j
theorem OrdAt.last {a m n0 n : Nat} {l : List (Nat × Nat)} (h : OrdAt a m n0 l l.length n) (hm : 1 < m) (hl : ∀ x ∈ l, Pr x.1) (hn : pprod l = n0) : OrdOk a m n := by
  refine ⟨h.pos, h.one, fun j hj h1 => ?_⟩
  rcases Nat.lt_or_ge j n with hlt | hge
  · exfalso
    have hg1 := pw_gcd hm n j h.one h1
    have hgd : Nat.gcd n j ∣ n := Nat.gcd_dvd_left n j
    have hgj : Nat.gcd n j ≤ j := Nat.le_of_dvd (by omega) (Nat.gcd_dvd_right n j)
    have hgp : 1 ≤ Nat.gcd n j := Nat.gcd_pos_of_pos_right _ (by omega)
    generalize Nat.gcd n j = g at hg1 hgd hgj hgp
    obtain ⟨c, hc⟩ := hgd
    have hc2 : 2 ≤ c := by
      rcases Nat.lt_or_ge c 2 with h2 | h2
      · have : c = 0 ∨ c = 1 := by omega
        have h0 := h.pos
        rcases this with rfl | rfl
        · simp at hc; omega
        · omega
      · exact h2
    obtain ⟨q, hq, hqc⟩ := least_div hc2
    have hqn : q ∣ n := by rw [hc]; exact Nat.dvd_trans hqc (Nat.dvd_mul_left ..)
    obtain ⟨x, hx, e⟩ := hq.pp hl (by rw [hn]; exact Nat.dvd_trans hqn h.dvd)
    obtain ⟨k, hk, hkx⟩ := List.getElem_of_mem hx
    obtain ⟨p, t⟩ := x
    have e : q = p := e
    subst e
    refine h.done k q t hk (by rw [List.getElem?_eq_getElem hk, hkx]) ⟨hqn, ?_⟩
    obtain ⟨s, hs⟩ := hqc
    have e2 : n / q = g * s := by
      rw [hc, hs, ← Nat.mul_assoc, Nat.mul_comm g q, Nat.mul_assoc, Nat.mul_div_cancel_left _ (by have := hq.1; omega)]
    rw [e2]
    exact pw_mul hm hg1 s
  · exact hge
end Go.Proofs.YtgocnjklpafabaaDoor

namespace Go.Proofs.YtgocnjklpafabaaDoor

/-- the rest behind i digits -/
def rst (D r0 i : Nat) : Nat := r0 * 10 ^ i % D
theorem rst_zero {D r0 : Nat} (h : r0 < D) : rst D r0 0 = r0 := by unfold rst; rw [Nat.pow_zero, Nat.mul_one]; exact Nat.mod_eq_of_lt h
theorem rst_succ (D r0 i : Nat) : rst D r0 (i + 1) = rst D r0 i * 10 % D := by
  unfold rst
  rw [Nat.pow_succ, ← Nat.mul_assoc, Nat.mul_mod, ← Nat.mod_mod (r0 * 10 ^ i) D, ← Nat.mul_mod, Nat.mod_mod]
theorem rst_lt {D r0 : Nat} (h : 0 < D) (i : Nat) : rst D r0 i < D := Nat.mod_lt _ h
/-- the digit behind i digits -/
def dig (D r0 i : Nat) : Nat := rst D r0 i * 10 / D
theorem dig_lt {D r0 : Nat} (h : 0 < D) (i : Nat) : dig D r0 i < 10 := by
  unfold dig
  rw [Nat.div_lt_iff_lt_mul h]
  have := rst_lt (r0 := r0) h i
  omega

/-- behind t steps of the loop that takes twos and fives out of D -/
structure Ahead (D t d : Nat) : Prop where
  pos : 1 ≤ d
  eq : Nat.gcd D (10 ^ t) * d = D
  less : ∀ i, i < t → Nat.gcd D (10 ^ i) < Nat.gcd D (10 ^ t)
  lo : d + t ≤ D
theorem Ahead.start {D : Nat} (h : 1 ≤ D) : Ahead D 0 D := ⟨h, by simp, fun i hi => by omega, by omega⟩
theorem gcd_more {D g m n d : Nat} (hg : Nat.gcd D m = g) (hd : g * d = D) (h : 1 ≤ D) : Nat.gcd D (m * n) = g * Nat.gcd d n := by
  have hgp : 0 < g := by
    rcases Nat.eq_zero_or_pos g with h0 | h0
    · subst h0; simp at hd; omega
    · exact h0
  have hgm : g ∣ m := by rw [← hg]; exact Nat.gcd_dvd_right D m
  obtain ⟨e, he⟩ := hgm
  have hc : Nat.gcd d e = 1 := by
    have h1 : Nat.gcd (g * d) (g * e) = g * Nat.gcd d e := Nat.gcd_mul_left ..
    rw [hd, ← he, hg] at h1
    have h2 : g * Nat.gcd d e = g * 1 := by omega
    exact Nat.eq_of_mul_eq_mul_left hgp h2
  have h3 : Nat.gcd d (e * n) = Nat.gcd d n := Nat.Coprime.gcd_mul_left_cancel_right n (Nat.coprime_comm.1 hc)
  conv => lhs; rw [← hd, he, Nat.mul_assoc]
  rw [Nat.gcd_mul_left, h3]
theorem Ahead.step {D t d : Nat} (h : Ahead D t d) (hD : 1 ≤ D) (hg : 1 < Nat.gcd d 10) : Ahead D (t + 1) (d / Nat.gcd d 10) ∧ d / Nat.gcd d 10 < d := by
  have hp := h.pos
  have e := gcd_more (n := 10) rfl h.eq hD
  rw [← Nat.pow_succ] at e
  have hdd : Nat.gcd d 10 ∣ d := Nat.gcd_dvd_left d 10
  have hgp : 0 < Nat.gcd D (10 ^ t) := Nat.gcd_pos_of_pos_left _ (by omega)
  have hlt : Nat.gcd D (10 ^ t) < Nat.gcd D (10 ^ (t + 1)) := by
    rw [e]
    exact (Nat.lt_mul_iff_one_lt_right hgp).2 hg
  have hlo := h.lo
  have hds : d / Nat.gcd d 10 < d := Nat.div_lt_self (by omega) hg
  refine ⟨⟨Nat.div_pos (Nat.le_of_dvd (by omega) hdd) (by omega), ?_, fun i hi => ?_, by omega⟩, hds⟩
  · rw [e, Nat.mul_assoc, Nat.mul_div_cancel' hdd]; exact h.eq
  · rcases Nat.lt_or_ge i t with h1 | h1
    · exact Nat.lt_trans (h.less i h1) hlt
    · have : i = t := by omega
      subst this
      exact hlt

/-- what the digits are: a ahead, and k that come again (none: the rest is nought behind the a) -/
structure DecOk (D r0 a k : Nat) : Prop where
  fin : k = 0 → rst D r0 a = 0 ∧ ∀ i, i < a → rst D r0 i ≠ 0
  inf : 1 ≤ k → (∀ i, rst D r0 i ≠ 0) ∧ rst D r0 (a + k) = rst D r0 a
  diff : ∀ i j, i < j → j < a + k → rst D r0 i ≠ rst D r0 j

theorem cop_pow {d : Nat} (h : Nat.gcd d 10 = 1) (i : Nat) : Nat.Coprime d (10 ^ i) := Nat.Coprime.pow_right i h
theorem ten_less (n : Nat) (h : 1 ≤ n) : Nat.Coprime 10 (10 ^ n - 1) := by
  have e : 10 ^ n = 10 * 10 ^ (n - 1) := by rw [show n = (n - 1) + 1 from by omega, Nat.pow_succ, Nat.mul_comm]; simp
  have hp : 1 ≤ 10 ^ (n - 1) := Nat.pow_pos (by omega)
  have h1 : Nat.gcd 10 (10 ^ n - 1) ∣ 10 := Nat.gcd_dvd_left _ _
  have h2 : Nat.gcd 10 (10 ^ n - 1) ∣ 10 ^ n - 1 := Nat.gcd_dvd_right _ _
  have h3 : Nat.gcd 10 (10 ^ n - 1) ∣ 10 * 10 ^ (n - 1) := Nat.dvd_trans h1 (Nat.dvd_mul_right ..)
  rw [← e] at h3
  have h4 := Nat.dvd_sub h3 h2
  rw [show 10 ^ n - (10 ^ n - 1) = 1 from by omega] at h4
  exact Nat.dvd_one.1 h4
/-- two rests that are the same -/
theorem rst_same {D r0 i j : Nat} (hr : Nat.gcd r0 D = 1) (hij : i ≤ j) (h : rst D r0 i = rst D r0 j) : D ∣ 10 ^ i * (10 ^ (j - i) - 1) := by
  unfold rst at h
  have h1 : D ∣ r0 * 10 ^ j - r0 * 10 ^ i := dvd_sub_mod h.symm
  have e : r0 * 10 ^ j - r0 * 10 ^ i = r0 * (10 ^ i * (10 ^ (j - i) - 1)) := by
    rw [Nat.mul_sub, Nat.mul_one, ← Nat.pow_add, show i + (j - i) = j from by omega, Nat.mul_sub]
  rw [e] at h1
  exact Nat.Coprime.dvd_of_dvd_mul_left (Nat.coprime_comm.1 hr) h1
theorem rst_same' {D r0 i j : Nat} (hij : i ≤ j) (h : D ∣ 10 ^ i * (10 ^ (j - i) - 1)) : rst D r0 j = rst D r0 i := by
  unfold rst
  have e : r0 * 10 ^ j - r0 * 10 ^ i = r0 * (10 ^ i * (10 ^ (j - i) - 1)) := by
    rw [Nat.mul_sub, Nat.mul_one, ← Nat.pow_add, show i + (j - i) = j from by omega, Nat.mul_sub]
  refine mod_of_dvd_sub (Nat.mul_le_mul_left _ (Nat.pow_le_pow_right (by omega) hij)) ?_
  rw [e]; exact Nat.dvd_trans h (Nat.dvd_mul_left ..)
theorem rst_nought {D r0 i : Nat} (hr : Nat.gcd r0 D = 1) : rst D r0 i = 0 ↔ D ∣ 10 ^ i := by
  unfold rst
  constructor
  · intro h
    exact Nat.Coprime.dvd_of_dvd_mul_left (Nat.coprime_comm.1 hr) (Nat.dvd_of_mod_eq_zero h)
  · intro h
    exact Nat.mod_eq_zero_of_dvd (Nat.dvd_trans h (Nat.dvd_mul_left ..))
/-- a part of D that is made of twos and fives divides 10^i only from the end of the loop on -/
theorem Ahead.high {D a d i : Nat} (h : Ahead D a d) (hD : 1 ≤ D) (hc : Nat.gcd D (10 ^ a) ∣ 10 ^ i) : a ≤ i := by
  rcases Nat.lt_or_ge i a with h1 | h1
  · have h2 := h.less i h1
    have h3 := Nat.le_of_dvd (Nat.gcd_pos_of_pos_left _ (by omega)) (Nat.dvd_gcd (Nat.gcd_dvd_left D (10 ^ a)) hc)
    omega
  · exact h1
theorem Ahead.at_ {D a d i n : Nat} (h : Ahead D a d) (hD : 1 ≤ D) (hg : Nat.gcd d 10 = 1) (hn : 1 ≤ n) (hd : D ∣ 10 ^ i * (10 ^ n - 1)) : a ≤ i ∧ d ∣ 10 ^ n - 1 := by
  have h1 : Nat.gcd D (10 ^ a) ∣ 10 ^ i * (10 ^ n - 1) := Nat.dvd_trans (Nat.gcd_dvd_left _ _) hd
  have h2 : d ∣ 10 ^ i * (10 ^ n - 1) := Nat.dvd_trans ⟨Nat.gcd D (10 ^ a), by rw [Nat.mul_comm]; exact h.eq.symm⟩ hd
  refine ⟨h.high hD ?_, Nat.Coprime.dvd_of_dvd_mul_left (cop_pow hg i) h2⟩
  refine Nat.Coprime.dvd_of_dvd_mul_right ?_ h1
  exact Nat.Coprime.coprime_dvd_left (Nat.gcd_dvd_right D (10 ^ a)) (Nat.Coprime.pow_left a (ten_less n hn))
theorem dec_fin {D r0 a : Nat} (hD : 1 ≤ D) (hr : Nat.gcd r0 D = 1) (h : Ahead D a 1) : DecOk D r0 a 0 := by
  have e := h.eq
  rw [Nat.mul_one] at e
  have hda : D ∣ 10 ^ a := by have := Nat.gcd_dvd_right D (10 ^ a); rwa [e] at this
  refine ⟨fun _ => ⟨(rst_nought hr).2 hda, fun i hi h0 => ?_⟩, fun h => by omega, fun i j hij hj h0 => ?_⟩
  · have := h.high hD (by rw [e]; exact (rst_nought hr).1 h0)
    omega
  · have := (h.at_ hD (by decide) (n := j - i) (by omega) (rst_same hr (by omega) h0)).1
    omega
theorem dec_inf {D r0 a d k : Nat} (hD : 1 ≤ D) (hr : Nat.gcd r0 D = 1) (h : Ahead D a d) (hg : Nat.gcd d 10 = 1) (hd : 1 < d) (hk : OrdOk 10 d k) : DecOk D r0 a k := by
  obtain ⟨k1, k2, k3⟩ := hk
  refine ⟨fun h => by omega, fun _ => ⟨fun i h0 => ?_, ?_⟩, fun i j hij hj h0 => ?_⟩
  · have h1 := (rst_nought hr).1 h0
    have h2 : d ∣ 10 ^ i := Nat.dvd_trans ⟨Nat.gcd D (10 ^ a), by rw [Nat.mul_comm]; exact h.eq.symm⟩ h1
    have h3 := Nat.Coprime.eq_one_of_dvd (cop_pow hg i) h2
    omega
  · refine rst_same' (by omega) ?_
    rw [show a + k - a = k from by omega]
    conv => lhs; rw [← h.eq]
    refine Nat.mul_dvd_mul (Nat.gcd_dvd_right _ _) (dvd_of_mod ?_)
    rw [k2]; exact (Nat.mod_eq_of_lt hd).symm
  · obtain ⟨h1, h2⟩ := h.at_ hD hg (n := j - i) (by omega) (rst_same hr (by omega) h0)
    have h3 := k3 (j - i) (by omega) (by
      rw [mod_of_dvd (Nat.pow_pos (by omega)) h2]; exact Nat.mod_eq_of_lt hd)
    omega
end Go.Proofs.YtgocnjklpafabaaDoor
