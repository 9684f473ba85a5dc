/- What the kernel has checked for one prime p makes it no divisor of a number that passes the twelve bases (plain). -/
import Derived.Test.YtpppnaljndhjcaaDoorK0
namespace Go.Proofs.YtpppnaljndhjcaaDoor
namespace PT

noncomputable def tabs : List (Nat × (Nat × Nat) × (Nat × Nat)) := bases.tail.zip (qrs.zip nrs)
noncomputable def pre (p e u c1 M1 B : Nat) (legs cs1 : List (Nat × Nat)) : Bool :=
  (List.range p).all (fun d => decide (d < 2) || p % d != 0) && (p - 1 == u * 2 ^ e && (u % 2 == 1 && (decide (1 ≤ e) && (decide (41 ≤ p) && (decide (p < 1000) &&
  (legs.all (fun a => bases.contains a.1 && decide (a.2 ≤ e)) && (!(miss legs p) && (bases.all (fun a => legs.any (fun x => x.1 == a)) && (legs.any (fun x => x.2 == e) &&
  (cs1.all (fun x => tabs.any fun y => legs.any fun l => l.1 == y.1 && x == (if l.2 == e then y.2.2 else y.2.1)) &&
  (((decide (2 ≤ e) && (M1 == 2 ^ (e + 1) && c1 == 1 + 2 ^ e)) || (e == 1 && (M1 == 8 && legs.any (fun l => l.1 == 2 && c1 == (if l.2 == 1 then 3 else 7)))) ) &&
  (decide (1000000000000000000 < p * ((B + 1) * (B + 1))) && (decide (B < 4294967296) && (2 ^ (p - 1) % (p * p) != 1 && full p))))))))))))))

structure Dat (p e u c1 M1 B : Nat) (legs cs1 : List (Nat × Nat)) : Prop where
  pr : Pr p
  hu : p - 1 = u * 2 ^ e
  ho : u % 2 = 1
  he : 1 ≤ e
  h41 : 41 ≤ p
  hp : p < 1000
  legsB : ∀ a ∈ legs, a.1 ∈ bases ∧ a.2 ≤ e
  miss : miss legs p = false
  mem : ∀ a ∈ bases, ∃ j, (a, j) ∈ legs
  top : ∃ a, a ∈ legs ∧ a.2 = e
  cs : ∀ x ∈ cs1, ∃ y, y ∈ tabs ∧ ∃ j, (y.1, j) ∈ legs ∧ x = if j = e then y.2.2 else y.2.1
  cl : (2 ≤ e ∧ M1 = 2 ^ (e + 1) ∧ c1 = 1 + 2 ^ e) ∨ (e = 1 ∧ M1 = 8 ∧ ∃ j, (2, j) ∈ legs ∧ c1 = if j = 1 then 3 else 7)
  hB : 1000000000000000000 < p * ((B + 1) * (B + 1))
  hBl : B < 4294967296
  wf : 2 ^ (p - 1) % (p * p) ≠ 1
  full : full p = true
theorem Dat.of {p e u c1 M1 B : Nat} {legs cs1 : List (Nat × Nat)} (h : pre p e u c1 M1 B legs cs1 = true) : Dat p e u c1 M1 B legs cs1 := by
  unfold pre at h
  rw [Bool.and_eq_true] at h
  obtain ⟨h1, h⟩ := h
  rw [Bool.and_eq_true] at h
  obtain ⟨h2, h⟩ := h
  rw [Bool.and_eq_true] at h
  obtain ⟨h3, h⟩ := h
  rw [Bool.and_eq_true] at h
  obtain ⟨h4, h⟩ := h
  rw [Bool.and_eq_true] at h
  obtain ⟨h5, h⟩ := h
  rw [Bool.and_eq_true] at h
  obtain ⟨h6, h⟩ := h
  rw [Bool.and_eq_true] at h
  obtain ⟨h7, h⟩ := h
  rw [Bool.and_eq_true] at h
  obtain ⟨h8, h⟩ := h
  rw [Bool.and_eq_true] at h
  obtain ⟨h9, h⟩ := h
  rw [Bool.and_eq_true] at h
  obtain ⟨h10, h⟩ := h
  rw [Bool.and_eq_true] at h
  obtain ⟨h11, h⟩ := h
  rw [Bool.and_eq_true] at h
  obtain ⟨h12, h⟩ := h
  rw [Bool.and_eq_true] at h
  obtain ⟨h13, h⟩ := h
  rw [Bool.and_eq_true] at h
  obtain ⟨h14, h⟩ := h
  rw [Bool.and_eq_true] at h
  obtain ⟨h15, h16⟩ := h
  have h41 := of_decide_eq_true h5
  refine ⟨pr_small (by omega) h1, eq_of_beq h2, eq_of_beq h3, of_decide_eq_true h4, h41, of_decide_eq_true h6, ?_, by simpa using h8, ?_, ?_, ?_, ?_, of_decide_eq_true h13, of_decide_eq_true h14, by simpa using h15, h16⟩
  · intro a ha
    have := List.all_eq_true.1 h7 a ha
    rw [Bool.and_eq_true] at this
    exact ⟨by simpa using this.1, of_decide_eq_true this.2⟩
  · intro a ha
    have := List.all_eq_true.1 h9 a ha
    obtain ⟨x, hx, he⟩ := List.any_eq_true.1 this
    have := eq_of_beq he
    exact ⟨x.2, by rw [← this]; exact hx⟩
  · obtain ⟨x, hx, he⟩ := List.any_eq_true.1 h10
    exact ⟨x, hx, eq_of_beq he⟩
  · intro x hx
    have := List.all_eq_true.1 h11 x hx
    obtain ⟨y, hy, he⟩ := List.any_eq_true.1 this
    obtain ⟨l, hl, he2⟩ := List.any_eq_true.1 he
    rw [Bool.and_eq_true] at he2
    refine ⟨y, hy, l.2, by rw [← eq_of_beq he2.1]; exact hl, ?_⟩
    rw [eq_of_beq he2.2]
    simp only [beq_iff_eq]
  · rw [Bool.or_eq_true] at h12
    rcases h12 with c | c
    · rw [Bool.and_eq_true, Bool.and_eq_true] at c
      exact .inl ⟨of_decide_eq_true c.1, eq_of_beq c.2.1, eq_of_beq c.2.2⟩
    · rw [Bool.and_eq_true, Bool.and_eq_true] at c
      obtain ⟨l, hl, he2⟩ := List.any_eq_true.1 c.2.2
      rw [Bool.and_eq_true] at he2
      refine .inr ⟨eq_of_beq c.1, eq_of_beq c.2.1, l.2, by rw [← eq_of_beq he2.1]; exact hl, ?_⟩
      rw [eq_of_beq he2.2]
      simp only [beq_iff_eq]

theorem chi_lt (a s : Nat) : chi a s < 2 := Nat.mod_lt _ (by decide)
theorem tabs_all : tabs.all (fun y => y.2.1.1 == 4 * y.1 && (y.2.2.1 == 4 * y.1 && (bases.contains y.1 && (List.range (4 * y.1)).all (fun s => Nat.gcd s (4 * y.1) != 1 || ((chi y.1 s != 0 || y.2.1.2.testBit s) && (chi y.1 s != 1 || y.2.2.2.testBit s)))))) = true := by decide +kernel
theorem tabs_ok {y : Nat × (Nat × Nat) × (Nat × Nat)} (hy : y ∈ tabs) : y.2.1.1 = 4 * y.1 ∧ y.2.2.1 = 4 * y.1 ∧ y.1 ∈ bases ∧ ∀ s, s < 4 * y.1 → Nat.gcd s (4 * y.1) = 1 → (chi y.1 s = 0 → y.2.1.2.testBit s = true) ∧ (chi y.1 s = 1 → y.2.2.2.testBit s = true) := by
  have h := List.all_eq_true.1 tabs_all y hy
  rw [Bool.and_eq_true, Bool.and_eq_true, Bool.and_eq_true] at h
  refine ⟨eq_of_beq h.1, eq_of_beq h.2.1, by simpa using h.2.2.1, fun s hs hg => ?_⟩
  have h2 := List.all_eq_true.1 h.2.2.2 s (List.mem_range.2 hs)
  rw [Bool.or_eq_true] at h2
  rcases h2 with c | c
  · rw [hg] at c; exact absurd c (by decide)
  · rw [Bool.and_eq_true, Bool.or_eq_true, Bool.or_eq_true] at c
    constructor
    · intro h0
      rcases c.1 with k | k
      · rw [h0] at k; exact absurd k (by decide)
      · exact k
    · intro h0
      rcases c.2 with k | k
      · rw [h0] at k; exact absurd k (by decide)
      · exact k
theorem qrs_tabs : ∀ x ∈ qrs, ∃ y, y ∈ tabs ∧ y.2.1 = x := by
  have h : qrs.all (fun x => tabs.any fun y => y.2.1 == x) = true := by decide +kernel
  intro x hx
  obtain ⟨y, hy, he⟩ := List.any_eq_true.1 (List.all_eq_true.1 h x hx)
  exact ⟨y, hy, eq_of_beq he⟩

section
variable {n d p e u c1 M1 B : Nat} {legs cs1 : List (Nat × Nat)}
theorem anyL_false {α : Type} {l : List α} {f : α → Bool} (h : anyL l f = false) : ∀ x ∈ l, f x = false := by
  induction l with
  | nil => intro x hx; cases hx
  | cons a l ih =>
    have h' : oo (f a) (anyL l f) = false := h
    rw [oo_eq, Bool.or_eq_false_iff] at h'
    intro x hx
    rcases List.mem_cons.1 hx with c | c
    · subst c; exact h'.1
    · exact ih h'.2 x c
theorem legs_of (hN : Ps n d) (D : Dat p e u c1 M1 B legs cs1) (hpn : p ∣ n) : Legs n d legs := by
  intro a ha
  obtain ⟨h1, h2⟩ := D.legsB a ha
  refine ⟨h1, ?_⟩
  have hp2 := D.pr.1
  have hp := D.hp
  have h41 := D.h41
  have hm := D.miss
  unfold PT.miss at hm
  rw [frc_eq, miss_u (by omega) hp2 D.hu D.ho] at hm
  have hs := anyL_false hm a ha
  rw [ng_eq] at hs
  have hsig : sig a.1 a.2 p u = true := by simpa using hs
  have ho := od_of_sig hp2 (by omega) D.hu h2 hsig
  obtain ⟨k, hk⟩ := hN.od a.1 h1
  obtain ⟨h3, _⟩ := hk.prime D.pr (by omega) hpn (by have := hN.lo; omega) hN.odd D.ho D.hu (hN.ndvd D.pr hpn h1)
  rw [ho.unique (by omega) h3]
  exact hk
theorem two_of (hN : Ps n d) (D : Dat p e u c1 M1 B legs cs1) (hpn : p ∣ n) : ∃ j, j ≤ 64 ∧ Od n d 2 j := by
  obtain ⟨j, hj⟩ := D.mem 2 (by decide)
  have h1 := (legs_of hN D hpn _ hj).2
  have h2 := (D.legsB _ hj).2
  refine ⟨j, ?_, h1⟩
  have h3 : e ≤ 64 := by
    rcases Nat.lt_or_ge 64 e with c | c
    · exfalso
      have h4 : 2 ^ 65 ≤ 2 ^ e := Nat.pow_le_pow_right (by decide) c
      have h5 : 1 * 2 ^ e ≤ u * 2 ^ e := Nat.mul_le_mul_right _ (by have := D.ho; omega)
      have := D.hu
      have := D.hp
      omega
    · exact c
  exact Nat.le_trans h2 h3
theorem classes (hN : Ps n d) (D : Dat p e u c1 M1 B legs cs1) (hpn : p ∣ n) {q : Nat} (hq : Pr q) (hqn : q ∣ n) : (q % M1 = c1 ∧ Met cs1 q) ∨ (q % M1 = 1 ∧ Met qrs q) := by
  have hL := legs_of hN D hpn
  have h41 := hN.big q hq hqn
  obtain ⟨v, f, hf, hv⟩ := odd_part hq.1
  have hod : ∀ a ∈ legs, Od q v a.1 a.2 ∧ a.2 ≤ f := fun a ha => by
    obtain ⟨h1, h2⟩ := hL a ha
    exact h2.prime hq (by omega) hqn (by have := hN.lo; omega) hN.odd hv hf (hN.ndvd hq hqn h1)
  have hef : e ≤ f := by
    obtain ⟨a, ha, he⟩ := D.top
    rw [← he]; exact (hod a ha).2
  have he1 := D.he
  have hqo : q % 2 = 1 := by
    obtain ⟨g, hg⟩ : ∃ g, f = g + 1 := ⟨f - 1, by omega⟩
    rw [hg, Nat.pow_succ, ← Nat.mul_assoc] at hf
    omega
  have hchi : ∀ a j, (a, j) ∈ legs → (chi a (q % (4 * a)) = 0 ↔ j ≠ f) := by
    intro a j ha
    obtain ⟨h1, h2⟩ := hod _ ha
    have hb := (hL _ ha).1
    have e1 := h1.leg (by omega) hf (by omega) h2
    have e2 := euler hq (by omega) hqo (hN.ndvd hq hqn hb) (by have := (bases_small _ hb).1; omega)
    simp only at e1 e2
    rw [e1] at e2
    by_cases c : j = f
    · rw [if_pos c] at e2
      constructor
      · intro h0
        rw [if_pos h0] at e2
        omega
      · intro h0; exact absurd c h0
    · rw [if_neg c] at e2
      constructor
      · intro _; exact c
      · intro _
        refine Classical.byContradiction fun h0 => ?_
        rw [if_neg h0] at e2
        omega
  have hcop : ∀ a ∈ bases, 0 < 4 * a ∧ Nat.gcd (q % (4 * a)) (4 * a) = 1 := by
    intro a ha
    have hb := bases_small a ha
    refine ⟨by omega, ?_⟩
    rw [← Nat.gcd_rec, Nat.gcd_comm]
    refine hq.coprime fun hd => ?_
    rcases hq.dvd_mul hd with c | c
    · have := Nat.le_of_dvd (by decide) c; omega
    · have := Nat.le_of_dvd (by omega) c; omega
  rcases (by omega : f = e ∨ e < f) with c | c
  · left
    subst c
    constructor
    · obtain ⟨w, hw⟩ : ∃ w, v = 2 * w + 1 := ⟨v / 2, by omega⟩
      have hq' : q = (1 + 2 ^ f) + 2 ^ (f + 1) * w := by
        have h2 := hq.1
        have h3 : (2 * w + 1) * 2 ^ f = 2 ^ f + 2 ^ (f + 1) * w := by rw [Nat.pow_succ]; grind
        rw [hw, h3] at hf
        omega
      have h2f : 2 ≤ 2 ^ f := by
        have : 2 ^ 1 ≤ 2 ^ f := Nat.pow_le_pow_right (by decide) he1
        simpa using this
      have hmod : q % 2 ^ (f + 1) = 1 + 2 ^ f := by
        rw [hq', Nat.add_mul_mod_self_left]
        exact Nat.mod_eq_of_lt (by rw [Nat.pow_succ]; omega)
      rcases D.cl with ⟨_, h1, h3⟩ | ⟨h1, h3, j, h4, h5⟩
      · rw [h1, h3]; exact hmod
      · subst h1
        have hmod' : q % 4 = 3 := hmod
        have hc := hchi 2 j h4
        rw [h3, h5]
        rcases (by omega : q % 8 = 3 ∨ q % 8 = 7) with k | k
        · rw [show 4 * 2 = 8 from rfl, k] at hc
          have : ¬ chi 2 3 = 0 := by decide
          rw [if_pos (Classical.byContradiction fun h => this (hc.2 h))]; exact k
        · rw [show 4 * 2 = 8 from rfl, k] at hc
          have : chi 2 7 = 0 := by decide
          rw [if_neg (hc.1 this)]; exact k
    · intro x hx
      obtain ⟨y, hy, j, hj, he⟩ := D.cs x hx
      obtain ⟨t1, t2, t3, t4⟩ := tabs_ok hy
      obtain ⟨g1, g2⟩ := hcop _ t3
      have hbit := t4 (q % (4 * y.1)) (Nat.mod_lt _ g1) g2
      have hc := hchi _ _ hj
      by_cases k : j = f
      · rw [he, if_pos k, t2]
        refine ⟨g1, hbit.2 ?_⟩
        have := chi_lt y.1 (q % (4 * y.1))
        have : chi y.1 (q % (4 * y.1)) ≠ 0 := fun h => hc.1 h k
        omega
      · rw [he, if_neg k, t1]
        exact ⟨g1, hbit.1 (hc.2 k)⟩
  · right
    have hne : ∀ a j, (a, j) ∈ legs → j ≠ f := fun a j h => by
      have := (D.legsB _ h).2
      simp only at this
      omega
    constructor
    · obtain ⟨g, rfl⟩ : ∃ g, f = (e + 1) + g := ⟨f - (e + 1), by omega⟩
      have h2p : 2 ≤ 2 ^ (e + 1) := by
        have : 2 ^ 1 ≤ 2 ^ (e + 1) := Nat.pow_le_pow_right (by decide) (by omega)
        simpa using this
      have hmod : q % 2 ^ (e + 1) = 1 := by
        have h2 := hq.1
        rw [Nat.pow_add] at hf
        rw [show q = 1 + 2 ^ (e + 1) * (v * 2 ^ g) from by
          rw [show v * (2 ^ (e + 1) * 2 ^ g) = 2 ^ (e + 1) * (v * 2 ^ g) from by grind] at hf
          omega, Nat.add_mul_mod_self_left]
        exact Nat.mod_eq_of_lt (by omega)
      rcases D.cl with ⟨_, h1, _⟩ | ⟨h1, h3, _⟩
      · rw [h1]; exact hmod
      · subst h1
        have hmod' : q % 4 = 1 := hmod
        obtain ⟨j, hj⟩ := D.mem 2 (by decide)
        have hc := (hchi 2 j hj).2 (hne _ _ hj)
        rw [h3]
        rcases (by omega : q % 8 = 1 ∨ q % 8 = 5) with k | k
        · exact k
        · rw [show 4 * 2 = 8 from rfl, k] at hc
          exact absurd hc (by decide)
    · intro x hx
      obtain ⟨y, hy, he⟩ := qrs_tabs x hx
      obtain ⟨t1, _, t3, t4⟩ := tabs_ok hy
      obtain ⟨g1, g2⟩ := hcop _ t3
      obtain ⟨j, hj⟩ := D.mem _ t3
      rw [← he, t1]
      exact ⟨g1, (t4 (q % (4 * y.1)) (Nat.mod_lt _ g1) g2).1 ((hchi _ _ hj).2 (hne _ _ hj))⟩

/-- a prime of n: its neighbour divides n - 1 -/
theorem prime_dvd (hN : Ps n d) {q : Nat} (hq : Pr q) (hqn : q ∣ n) (hb : q < 4294967296) (h : full q = true) : q - 1 ∣ n - 1 :=
  full_dvd hq (hN.big q hq hqn) hb h (hN.fer_prime hq hqn)
theorem no_both (hN : Ps n d) {p q : Nat} (hp : Pr p) (hpn : p ∣ n) (hq1 : q - 1 ∣ n - 1) : Nat.beq (Nat.mod (Nat.sub q 1) p) 0 = false := by
  cases h : Nat.beq (Nat.mod (Nat.sub q 1) p) 0 with
  | false => rfl
  | true =>
    exfalso
    have h1 : p ∣ q - 1 := Nat.dvd_of_mod_eq_zero (Nat.eq_of_beq_eq_true h)
    have h2 := Nat.dvd_trans h1 hq1
    have h3 := (Nat.dvd_sub_iff_right (by have := hN.lo; omega : 1 ≤ n) hpn).1 h2
    have := Nat.le_of_dvd Nat.one_pos h3
    have := hp.1
    omega
theorem tail3_false (hN : Ps n d) (hL : Legs n d legs) {j : Nat} (hj : j ≤ 64) (h2 : Od n d 2 j) {q r l m : Nat} (hp : Pr p) (hq : Pr q) (hr : Pr r) (hn : n = p * q * r * m) (hqr : q ≤ r) (hb : r < 4294967296) (hl : 1 < l) (hld : l ∣ n - 1) : tail3 p legs q l r = false := by
  have hpn : p ∣ n := ⟨q * r * m, by rw [hn]; grind⟩
  have hqn : q ∣ n := ⟨p * r * m, by rw [hn]; grind⟩
  have hrn : r ∣ n := ⟨p * q * m, by rw [hn]; grind⟩
  have h41 := hN.big r hr hrn
  cases h : tail3 p legs q l r with
  | false => rfl
  | true =>
    exfalso
    unfold tail3 at h
    have hlt : Nat.blt r q = false := by
      cases hh : Nat.blt r q with
      | false => rfl
      | true => have : r < q := Nat.le_of_ble_eq_true hh; omega
    rw [hlt, comp_false hr h41 hb, miss_false hN hL hr hrn hb] at h
    rw [oo_eq, Bool.false_or, oo_eq, Bool.false_or, oo_eq, Bool.false_or, an_eq, Bool.and_eq_true] at h
    have hd := prime_dvd hN hr hrn hb h.1
    have h3 := h.2
    rw [no_both hN hp hpn hd, no_both hN hq hqn hd] at h3
    rw [oo_eq, Bool.false_or, oo_eq, Bool.false_or, frc_eq, frc_eq, frc_eq, frc_eq, an_eq, Bool.and_eq_true] at h3
    have hd3 : lcm' l (Nat.sub r 1) ∣ n - 1 := lcm_dvd hld hd
    obtain ⟨t, _, ht, hf⟩ := cand_false hN hj h2 (P := Nat.mul (Nat.mul p q) r) (m := m) hn (lcm_gt hl (by show 0 < r - 1; omega)) hd3 h3.1
    have := loop_all h3.2 t ht
    have e : refu (Nat.mul (Nat.mul p q) r) (Nat.add (cinv (Nat.mul (Nat.mul p q) r) (lcm' l (Nat.sub r 1))) (Nat.mul t (lcm' l (Nat.sub r 1)))) = false := hf
    rw [e] at this
    exact absurd this (by decide)
theorem testq_false (hN : Ps n d) (D : Dat p e u c1 M1 B legs cs1) (hpn : p ∣ n) {q m : Nat} (hq : Pr q) (hn : n = p * q * m) (hpq : p < q) (hb : q < 4294967296) (hm1 : 1 < m) (hleast : ∀ r, Pr r → r ∣ m → q ≤ r) : testq cs1 qrs c1 M1 1 M1 p legs q = false := by
  have hqn : q ∣ n := ⟨p * m, by rw [hn]; grind⟩
  have h41 := hN.big q hq hqn
  have hL := legs_of hN D hpn
  obtain ⟨j, hj, h2⟩ := two_of hN D hpn
  cases h : testq cs1 qrs c1 M1 1 M1 p legs q with
  | false => rfl
  | true =>
    exfalso
    unfold testq at h
    have hle : Nat.ble q p = false := by
      cases hh : Nat.ble q p with
      | false => rfl
      | true => have := Nat.le_of_ble_eq_true hh; omega
    rw [frc_eq, hle, comp_false hq h41 hb, miss_false hN hL hq hqn hb] at h
    rw [oo_eq, Bool.false_or, oo_eq, Bool.false_or, oo_eq, Bool.false_or, an_eq, Bool.and_eq_true] at h
    have hd := prime_dvd hN hq hqn hb h.1
    have hdp := prime_dvd hN D.pr hpn (by have := D.hp; omega) D.full
    have h3 := h.2
    rw [no_both hN D.pr hpn hd] at h3
    rw [oo_eq, Bool.false_or, frc_eq, frc_eq, frc_eq, frc_eq, an_eq, Bool.and_eq_true] at h3
    have hdl : lcm' (Nat.sub p 1) (Nat.sub q 1) ∣ n - 1 := lcm_dvd hdp hd
    have hl1 : 1 < lcm' (Nat.sub p 1) (Nat.sub q 1) := lcm_gt (by show 1 < p - 1; have := D.h41; omega) (by show 0 < q - 1; omega)
    obtain ⟨t, hmt, ht, hf⟩ := cand_false hN hj h2 (P := Nat.mul p q) (m := m) hn hl1 hdl h3.1
    obtain ⟨l, hle⟩ : ∃ l, lcm' (Nat.sub p 1) (Nat.sub q 1) = l := ⟨_, rfl⟩
    rw [hle] at h3 hdl hl1 hmt ht hf
    obtain ⟨c, hce⟩ : ∃ c, cinv (Nat.mul p q) l = c := ⟨_, rfl⟩
    rw [hce] at h3 hmt ht hf
    have h4 := h3.2
    rw [iff_eq] at h4
    by_cases hT : Nat.ble (cnum (Nat.mul p q) l c) 1500 = true
    · rw [if_pos hT] at h4
      have := loop_all h4 t ht
      have e : refu (Nat.mul p q) (Nat.add c (Nat.mul t l)) = false := hf
      rw [e] at this
      exact absurd this (by decide)
    · rw [if_neg hT] at h4
      unfold big at h4
      rw [an_eq, Bool.and_eq_true, an_eq, Bool.and_eq_true, frc_eq, an_eq, Bool.and_eq_true] at h4
      obtain ⟨b1, b2, b3, b4⟩ := h4
      by_cases hmp : Pr m
      · have hmn : m ∣ n := ⟨p * q, by rw [hn]; grind⟩
        have h41m := hN.big m hmp hmn
        rcases classes hN D hpn hmp hmn with ⟨k1, k2⟩ | ⟨k1, k2⟩
        · have := prog_get b1 ht (by
            rw [← hmt]
            intro x hx
            rcases List.mem_cons.1 hx with k | k
            · subst k
              refine ⟨?_, ?_⟩
              · rcases D.cl with ⟨_, h1, _⟩ | ⟨_, h1, _⟩
                · show 0 < M1; rw [h1]; exact Nat.pow_pos (by decide)
                · show 0 < M1; omega
              · show (2 ^ c1).testBit (m % M1) = true
                rw [k1, Nat.testBit_two_pow_self]
            · exact k2 x k)
          rw [hf] at this
          exact absurd this (by decide)
        · have := prog_get b2 ht (by
            rw [← hmt]
            intro x hx
            rcases List.mem_cons.1 hx with k | k
            · subst k
              refine ⟨?_, ?_⟩
              · rcases D.cl with ⟨_, h1, _⟩ | ⟨_, h1, _⟩
                · show 0 < M1; rw [h1]; exact Nat.pow_pos (by decide)
                · show 0 < M1; omega
              · show (2 ^ 1).testBit (m % M1) = true
                rw [k1, Nat.testBit_two_pow_self]
            · exact k2 x k)
          rw [hf] at this
          exact absurd this (by decide)
      · obtain ⟨r, hr, hrm, hrr⟩ : ∃ r, Pr r ∧ r ∣ m ∧ r * r ≤ m := by
          obtain ⟨x, x1, x2, x3⟩ := comp_div (by omega) hmp
          obtain ⟨r, hr, hrx⟩ := least_div x1
          have := Nat.le_of_dvd (by omega) hrx
          exact ⟨r, hr, Nat.dvd_trans hrx x3, Nat.le_trans (Nat.mul_le_mul this this) x2⟩
        obtain ⟨m2, hm2⟩ := hrm
        have hrn : r ∣ n := ⟨p * q * m2, by rw [hn, hm2]; grind⟩
        have hqr := hleast r hr ⟨m2, hm2⟩
        have hPp : 0 < p * q := Nat.mul_pos (by have := D.h41; omega) (by omega)
        have hmb : m ≤ bound / (p * q) := (Nat.le_div_iff_mul_le hPp).2 (by rw [Nat.mul_comm, ← hn]; exact hN.hi)
        have hrB : r ≤ 2 ^ (Nat.log2 (bound / (p * q)) / 2 + 1) := by
          refine Classical.byContradiction fun hc => ?_
          have hc : 2 ^ (Nat.log2 (bound / (p * q)) / 2 + 1) ≤ r := by omega
          have h5 := Nat.mul_le_mul hc hc
          rw [← Nat.pow_add] at h5
          have h6 : 2 ^ (Nat.log2 (bound / (p * q)) + 1) ≤ 2 ^ (Nat.log2 (bound / (p * q)) / 2 + 1 + (Nat.log2 (bound / (p * q)) / 2 + 1)) := Nat.pow_le_pow_right (by decide) (by omega)
          have h7 := Nat.lt_log2_self (n := bound / (p * q))
          omega
        have hrb : r < 4294967296 := by
          refine Classical.byContradiction fun hc => ?_
          have := Nat.mul_le_mul (show 4294967296 ≤ r by omega) (show 4294967296 ≤ r by omega)
          have h8 : m ≤ n := Nat.le_of_dvd (by have := hN.lo; omega) ⟨p * q, by rw [hn]; grind⟩
          have := hN.hi
          omega
        have hft := tail3_false hN hL hj h2 (l := l) (m := m2) D.pr hq hr (by rw [hn, hm2]; grind) hqr hrb hl1 hdl
        rcases classes hN D hpn hr hrn with ⟨k1, k2⟩ | ⟨k1, k2⟩
        · have := sieveQ_get b3 hrB k1 k2
          rw [hft] at this
          exact absurd this (by decide)
        · have := sieveQ_get b4 hrB k1 k2
          rw [hft] at this
          exact absurd this (by decide)
/-- p is not the least prime of a number that passes -/
theorem no_least (hN : Ps n d) (D : Dat p e u c1 M1 B legs cs1) (hc : chk1 p c1 M1 M1 B legs cs1 = true) (hpn : p ∣ n) (hleast : ∀ r, Pr r → r ∣ n → p ≤ r) : False := by
  have h41 := D.h41
  have hp := D.hp
  have hlo := hN.lo
  have hhi := hN.hi
  obtain ⟨m, hm⟩ := hpn
  have hpn : p ∣ n := ⟨m, hm⟩
  have hm1 : 100000 < m := by
    refine Classical.byContradiction fun hc => ?_
    have := Nat.mul_le_mul (show p ≤ 999 by omega) (show m ≤ 100000 by omega)
    omega
  by_cases hmp : Pr m
  · have hF : ∀ a ∈ bases, a ^ (p - 1) % m = 1 := by
      intro a ha
      have hmn : m ∣ n := ⟨p, by rw [hm, Nat.mul_comm]⟩
      have h1 := hN.fer_prime hmp hmn a ha
      have h2 := hmp.fermat1 (hN.ndvd hmp hmn ha)
      have h3 := pw_mul (by omega) h2 p
      have e : n - 1 = (m - 1) * p + (p - 1) := by
        obtain ⟨k, rfl⟩ : ∃ k, m = k + 1 := ⟨m - 1, by omega⟩
        rw [hm, show k + 1 - 1 = k from rfl, Nat.mul_comm k, Nat.mul_add]; omega
      rw [e] at h1
      exact pw_diff h3 h1
    have hev : (p - 1) % 2 = 0 := by
      obtain ⟨g, hg⟩ : ∃ g, e = g + 1 := ⟨e - 1, by have := D.he; omega⟩
      have := D.hu
      rw [hg, Nat.pow_succ, ← Nat.mul_assoc] at this
      omega
    refine no_g hmp (by omega) (by omega) hev (by omega) (by omega) fun a ha => ?_
    exact dvd_sub_mod (by rw [hF a ha]; exact (Nat.mod_eq_of_lt (by omega)).symm)
  · obtain ⟨q, hq, hqm, hqq, hql⟩ : ∃ q, Pr q ∧ q ∣ m ∧ q * q ≤ m ∧ ∀ r, Pr r → r ∣ m → q ≤ r := by
      have ex : ∃ q, Pr q ∧ q ∣ m := least_div (by omega)
      have : ∀ k, (∃ q, q ≤ k ∧ Pr q ∧ q ∣ m) → ∃ q, Pr q ∧ q ∣ m ∧ ∀ r, Pr r → r ∣ m → q ≤ r := by
        intro k
        induction k with
        | zero => rintro ⟨q, h1, h2, _⟩; have := h2.1; omega
        | succ k ih =>
          rintro ⟨q, h1, h2, h3⟩
          by_cases c : ∃ q, q ≤ k ∧ Pr q ∧ q ∣ m
          · exact ih c
          · refine ⟨q, h2, h3, fun r hr hrm => ?_⟩
            refine Classical.byContradiction fun hc => c ⟨r, by omega, hr, hrm⟩
      obtain ⟨q0, q1, q2⟩ := ex
      obtain ⟨q, h1, h2, h3⟩ := this q0 ⟨q0, Nat.le_refl _, q1, q2⟩
      refine ⟨q, h1, h2, ?_, h3⟩
      obtain ⟨x, x1, x2, x3⟩ := comp_div (by omega) hmp
      obtain ⟨r, hr, hrx⟩ := least_div x1
      have h4 := h3 r hr (Nat.dvd_trans hrx x3)
      have h5 := Nat.le_of_dvd (by omega) hrx
      exact Nat.le_trans (Nat.mul_le_mul (by omega) (by omega)) x2
    obtain ⟨k, hk⟩ := hqm
    have hqn : q ∣ n := ⟨p * k, by rw [hm, hk]; grind⟩
    have hpq := hleast q hq hqn
    rcases (by omega : p = q ∨ p < q) with c | c
    · subst c
      have hn : n = p * p * k := by rw [hm, hk]; grind
      have hpp : p * p ∣ n := ⟨k, hn⟩
      have h1 : 2 ^ (n - 1) % (p * p) = 1 := one_dvd (Nat.le_trans (by omega) (Nat.mul_le_mul (show 2 ≤ p by omega) (show 1 ≤ p by omega))) hpp (hN.fer 2 (by decide))
      have hpp2 : 1 < p * p := Nat.lt_of_lt_of_le (by omega : 1 < p) (Nat.le_mul_of_pos_right _ (by omega))
      have h2 : 2 ^ (p * (p - 1)) % (p * p) = 1 := by
        have hf := D.pr.fermat1 (hN.ndvd D.pr hpn (show 2 ∈ bases by decide))
        have hpos : 1 ≤ 2 ^ (p - 1) := Nat.pow_pos (by decide)
        have hd : p ∣ 2 ^ (p - 1) - 1 := dvd_sub_mod (by rw [hf]; exact (Nat.mod_eq_of_lt (by omega)).symm)
        have hdi : (p : Int) ∣ ((2 ^ (p - 1) : Nat) : Int) - 1 := by
          have := Int.natCast_dvd_natCast.2 hd
          rwa [Int.natCast_sub hpos] at this
        have hl := pow_lift (p := p) hdi (Int.dvd_refl _)
        rw [Int.one_pow, ← Int.natCast_pow, ← Nat.pow_mul, Nat.mul_comm (p - 1)] at hl
        have hpos2 : 1 ≤ 2 ^ (p * (p - 1)) := Nat.pow_pos (by decide)
        have : ((p * p : Nat) : Int) ∣ ((2 ^ (p * (p - 1)) - 1 : Nat) : Int) := by
          rw [Int.natCast_sub hpos2, Int.natCast_mul]; exact hl
        rw [mod_of_dvd_sub hpos2 (Int.natCast_dvd_natCast.1 this)]
        exact Nat.mod_eq_of_lt hpp2
      have h3 := pw_gcd hpp2 _ _ h1 h2
      have hcop : Nat.gcd (n - 1) p = 1 := by
        rw [Nat.gcd_comm]
        refine D.pr.coprime fun hd => ?_
        have h5 := (Nat.dvd_sub_iff_right (by omega : 1 ≤ n) hpn).1 hd
        have := Nat.le_of_dvd Nat.one_pos h5
        omega
      have hdv : Nat.gcd (n - 1) (p * (p - 1)) ∣ p - 1 := by
        have h5 : Nat.gcd (n - 1) (p * (p - 1)) ∣ p * (p - 1) := Nat.gcd_dvd_right _ _
        have h6 : Nat.Coprime (Nat.gcd (n - 1) (p * (p - 1))) p := Nat.Coprime.coprime_dvd_left (Nat.gcd_dvd_left _ _) hcop
        exact h6.dvd_of_dvd_mul_left h5
      obtain ⟨w, hw⟩ := hdv
      refine D.wf ?_
      rw [hw]
      exact pw_mul hpp2 h3 w
    · have hqB : q ≤ B := by
        refine Classical.byContradiction fun hcc => ?_
        have h1 := Nat.mul_le_mul (show B + 1 ≤ q by omega) (show B + 1 ≤ q by omega)
        have h2 := Nat.mul_le_mul_left p (Nat.le_trans h1 hqq)
        have := D.hB
        omega
      have hk1 : 1 < k := by
        have h41q := hN.big q hq hqn
        rcases Nat.lt_or_ge 1 k with cc | cc
        · exact cc
        · exfalso
          have h1 := Nat.mul_le_mul_left q cc
          have h2 := Nat.mul_le_mul (show 2 ≤ q by omega) (Nat.le_refl q)
          omega
      have hf := testq_false hN D hpn (m := k) hq (by rw [hm, hk]; grind) c (by have := D.hBl; omega) hk1 fun r hr hrk => hql r hr (by rw [hk]; exact Nat.dvd_trans hrk (Nat.dvd_mul_left _ _))
      unfold chk1 at hc
      rw [an_eq, Bool.and_eq_true] at hc
      rcases classes hN D hpn hq hqn with ⟨k1, k2⟩ | ⟨k1, k2⟩
      · have := sieveQ_get hc.1 hqB k1 k2
        rw [hf] at this
        exact absurd this (by decide)
      · have := sieveQ_get hc.2 hqB k1 k2
        rw [hf] at this
        exact absurd this (by decide)
end
end PT
end Go.Proofs.YtpppnaljndhjcaaDoor
