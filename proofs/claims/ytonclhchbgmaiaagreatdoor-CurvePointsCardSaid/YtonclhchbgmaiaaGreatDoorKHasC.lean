/- HASSE's bound for every curve that Check lets through, and EULER's criterion for the same primes: out of the checks of XHasB (plain). -/
import Derived.Test.YtonclhchbgmaiaaGreatDoorK0
import Derived.Test.YtonclhchbgmaiaaGreatDoorKCurvL
namespace Go.Proofs.YtonclhchbgmaiaaGreatDoor
open CV
namespace HS

theorem none_T {T H p c m : Nat} {D : Nat → Nat} (hT : T = 2 ^ (23 + 1)) (hH : H = 2 ^ 23) (hm : m = dg T D p) (hD : ∀ k, k < p → D k + c < T)
    (h : (m + c * dg T (fun _ => 1) p) &&& (H * dg T (fun _ => 1) p) = 0) {k : Nat} (hk : k < p) : D k + c < H := by
  subst hT hH
  exact mask_none hm hD h hk
theorem all_T {T H p c m : Nat} {D : Nat → Nat} (hT : T = 2 ^ (23 + 1)) (hH : H = 2 ^ 23) (hm : m = dg T D p) (hD : ∀ k, k < p → D k + c < T)
    (h : (m + c * dg T (fun _ => 1) p) &&& (H * dg T (fun _ => 1) p) = H * dg T (fun _ => 1) p) {k : Nat} (hk : k < p) : H ≤ D k + c := by
  subst hT hH
  exact mask_all hm hD h hk

def ux (p a x : Nat) : Nat := x * (x * x + a) % p
def vy (p y : Nat) : Nat := p - 1 - y * y % p
theorem ux_lt {p : Nat} (hp : 0 < p) (a x : Nat) : ux p a x < p := Nat.mod_lt _ hp

theorem chkM_told {p s R m : Nat} {D : Nat → Nat} (hp2 : p ≤ 2000) (hs : s ≤ p) (hR : R = dg 16777216 (fun _ => 1) p) (hm : m = dg 16777216 D p) (hD : ∀ k, k < p → D k ≤ p * p)
    (h : chkM p s R m = true) : ∀ k, k < p → p ≤ D k + s ∧ D k ≤ p + s := by
  intro k hk
  unfold chkM at h
  rw [Bool.and_eq_true] at h
  obtain ⟨h1, h2⟩ := h
  have h1' : (m + (8388608 - (p + (s + 1))) * R) &&& (8388608 * R) = 0 := by simpa using Nat.eq_of_beq_eq_true h1
  have h2' : (m + (8388608 - (p - s)) * R) &&& (8388608 * R) = 8388608 * R := by simpa using Nat.eq_of_beq_eq_true h2
  rw [hR] at h1' h2'
  have hpp : p * p ≤ 4000000 := Nat.mul_le_mul hp2 hp2
  have hb : ∀ c, c ≤ 8388608 → ∀ k, k < p → D k + c < 16777216 := fun c hc k hk => by have := hD k hk; omega
  have k1 := none_T (T := 16777216) (H := 8388608) (by decide) (by decide) hm (hb _ (by omega)) h1' hk
  have k2 := all_T (T := 16777216) (H := 8388608) (by decide) (by decide) hm (hb _ (by omega)) h2' hk
  omega
theorem chkA_told {p s G R a : Nat} (hp : 5 ≤ p) (hp2 : p ≤ 2000) (hs : s ≤ p) (hG : G = sm (fun y => 16777216 ^ vy p y) p) (hR : R = dg 16777216 (fun _ => 1) p)
    (h : chkA p s G R a = true) : ∀ k, k < p → p ≤ cc (ux p a) (vy p) p p k + s ∧ cc (ux p a) (vy p) p p k ≤ p + s := by
  have hpp : p * p ≤ 4000000 := Nat.mul_le_mul hp2 hp2
  refine chkM_told hp2 hs hR ?_ (fun k _ => cc_le _ _ _ _ _) h
  rw [← prod_cc (by omega) (by omega), hG]
  show bs (leafx p a) p 11 * _ % (16777216 ^ p - 1) = _
  rw [bs_eq _ (show p < 2 ^ 11 by omega)]
  rfl

structure Told (p g s : Nat) : Prop where
  s1 : s * s ≤ 4 * p
  s2 : s ≤ p
  gh : g ^ ((p - 1) / 2) % p = p - 1
  gen : ∀ k, 1 ≤ k → k < p → ∃ i, g ^ i % p = k
  cnt : ∀ r, r < 4 → ∃ a, a % p = g ^ r % p ∧ ∀ k, k < p → p ≤ cc (ux p a) (vy p) p p k + s ∧ cc (ux p a) (vy p) p p k ≤ p + s
  cnt0 : ∀ k, k < p → p ≤ cc (ux p 0) (vy p) p p k + s ∧ cc (ux p 0) (vy p) p p k ≤ p + s

theorem chkP_told {p g s : Nat} (hp : 5 ≤ p) (hp2 : p ≤ 2000) (h : chkP (p, g, s) = true) : Told p g s := by
  unfold chkP chkG at h
  simp only [Bool.and_eq_true] at h
  obtain ⟨h1, h2, h3, h4, h5, h6, h7, h8, h9⟩ := h
  have hs : s ≤ p := Nat.le_of_ble_eq_true h2
  have hR : Nat.div (Nat.sub (Nat.pow 16777216 p) 1) 16777215 = dg 16777216 (fun _ => 1) p := by
    show (16777216 ^ p - 1) / 16777215 = _
    have e := dg_ones 16777215 p
    rw [← e, Nat.add_sub_cancel, Nat.mul_div_cancel _ (by omega)]
  have hG : bs (leafy p) p 11 = sm (fun y => 16777216 ^ vy p y) p := by
    rw [bs_eq _ (show p < 2 ^ 11 by omega)]
    rfl
  have A := fun {a : Nat} (h : chkA p s _ _ a = true) => chkA_told hp hp2 hs hG hR h
  refine ⟨Nat.le_of_ble_eq_true h1, hs, Nat.eq_of_beq_eq_true h3, fun k k1 k2 => ?_, fun r hr => ?_, A h5⟩
  · have e := Nat.eq_of_beq_eq_true h4
    rw [bs_eq _ (show Nat.sub p 1 < 2 ^ 11 by show p - 1 < _; omega)] at e
    have e1 : sm (leafg p g) (Nat.sub p 1) = dg 16777216 (cn (fun i => g ^ i % p) (p - 1)) p := pw_cn 16777216 (u := fun i => g ^ i % p) (n := p - 1) fun x _ => Nat.mod_lt _ (by omega)
    have e2 : Nat.sub (Nat.div (Nat.sub (Nat.pow 16777216 p) 1) 16777215) 1 = dg 16777216 (fun k => if k = 0 then 0 else 1) p := by
      show _ - 1 = _
      rw [hR]
      have e3 : dg 16777216 (fun _ => 1) p = dg 16777216 (fun k => if k = 0 then 0 else 1) p + dg 16777216 (fun k => if k = 0 then 1 else 0) p := by
        rw [← dg_add]
        unfold dg
        refine sm_congr fun x _ => ?_
        show 1 * 16777216 ^ x = ((if x = 0 then 0 else 1) + if x = 0 then 1 else 0) * 16777216 ^ x
        by_cases e : x = 0
        · rw [if_pos e, if_pos e]
        · rw [if_neg e, if_neg e]
      have e4 : dg 16777216 (fun k => if k = 0 then 1 else 0) p = 1 := by
        have e5 := sm_one (n := p) (k := 0) (by omega) 1
        refine Eq.trans (sm_congr fun x _ => ?_) e5
        show (if x = 0 then 1 else 0) * 16777216 ^ x = if x = 0 then 1 else 0
        by_cases e : x = 0
        · rw [if_pos e, e]
        · rw [if_neg e, Nat.zero_mul]
      omega
    rw [e1, e2] at e
    have d1 := dg_at (T := 16777216) (by omega) (D := cn (fun i => g ^ i % p) (p - 1)) (n := p) (k := k) (fun j _ => by have := cn_le (fun i => g ^ i % p) (p - 1) j; omega) k2
    have d2 := dg_at (T := 16777216) (by omega) (D := fun k => if k = 0 then 0 else 1) (n := p) (k := k) (fun j _ => by show (if j = 0 then 0 else 1) < _; split <;> omega) k2
    rw [e, d2] at d1
    rw [if_neg (by omega)] at d1
    obtain ⟨i, _, hi⟩ := cn_pos (u := fun i => g ^ i % p) (n := p - 1) (k := k) (by omega)
    exact ⟨i, hi⟩
  · match r, hr with
    | 0, _ => exact ⟨1, by simp, A h6⟩
    | 1, _ => exact ⟨g, by simp, A h7⟩
    | 2, _ => exact ⟨Nat.mod (Nat.mul g g) p, by show g * g % p % p = _; rw [Nat.mod_mod, Nat.pow_two], A h8⟩
    | 3, _ => exact ⟨Nat.mod (Nat.mul g (Nat.mul g g)) p, by show g * (g * g) % p % p = _; rw [Nat.mod_mod, Nat.pow_succ, Nat.pow_two, Nat.mul_comm g (g * g)], A h9⟩
    | r + 4, hr => exact absurd hr (by omega)

theorem told_ex {p : Nat} (hp : 5 ≤ p) (hp2 : p ≤ 2000) (h : Pr p) : ∃ g s, Told p g s := by
  have h1 := List.all_eq_true.1 found_ok p (List.mem_range.2 (by omega))
  unfold found at h1
  rw [Bool.or_eq_true, Bool.or_eq_true] at h1
  rcases h1 with h1 | h1 | h1
  · have := Nat.le_of_ble_eq_true h1
    have : p + 1 ≤ 5 := this
    omega
  · unfold small at h1
    rw [List.any_eq_true] at h1
    obtain ⟨d, hd, h2⟩ := h1
    rw [Bool.and_eq_true] at h2
    have h3 : d + 1 ≤ p := Nat.le_of_ble_eq_true h2.1
    have h4 : p % d = 0 := Nat.eq_of_beq_eq_true h2.2
    have h5 : 2 ≤ d := by
      simp at hd
      omega
    rcases h.2 d (Nat.dvd_of_mod_eq_zero h4) with h6 | h6 <;> omega
  · rw [List.any_eq_true] at h1
    obtain ⟨⟨q, g, s⟩, hm, h2⟩ := h1
    have e : q = p := Nat.eq_of_beq_eq_true h2
    subst e
    exact ⟨g, s, chkP_told hp hp2 (List.all_eq_true.1 pts_ok _ hm)⟩

theorem flat_len (f : Nat → List CP) : ∀ m, ((List.range m).flatMap f).length = sm (fun x => (f x).length) m
  | 0 => rfl
  | m + 1 => by
    rw [List.range_succ, List.flatMap_append, List.length_append, flat_len f m]
    simp [sm]
theorem filter_len (q : Nat → Prop) [DecidablePred q] : ∀ m, ((List.range m).filter fun y => decide (q y)).length = sm (fun y => if q y then 1 else 0) m
  | 0 => rfl
  | m + 1 => by
    rw [List.range_succ, List.filter_append, List.length_append, filter_len q m]
    show _ = sm _ m + _
    congr 1
    show ([m].filter fun y => decide (q y)).length = if q m then 1 else 0
    by_cases h : q m
    · rw [if_pos h]; simp [h]
    · rw [if_neg h]; simp [h]
theorem len_sm (p : Nat) (a b : Int) : (ptsC p a b).length = 1 + sm (fun x => (rootsL p p (((x : Int) * x * x + a * x + b) % p).toNat).length) p := by
  unfold ptsC ptsN
  rw [List.length_cons, flat_len, Nat.add_comm]
  congr 1
  exact sm_congr fun x _ => by unfold rowP; rw [List.length_map]
theorem len_cc {p a b : Nat} (hb : b < p) : (ptsC p (a : Int) (b : Int)).length = 1 + cc (ux p a) (vy p) p p (p - 1 - b) := by
  rw [len_sm]
  congr 1
  unfold cc cn
  refine sm_congr fun x _ => ?_
  unfold rootsL
  rw [filter_len]
  refine sm_congr fun y _ => ?_
  have h1 : (((x : Int) * x * x + (a : Int) * x + (b : Int)) % p).toNat = (ux p a x + b) % p := by
    have e : ((x : Int) * x * x + (a : Int) * x + (b : Int)) = ((x * (x * x + a) + b : Nat) : Int) := by
      rw [Int.natCast_add, Int.natCast_mul, Int.natCast_add, Int.natCast_mul, Int.mul_add, Int.mul_comm (x : Int) (a : Int), ← Int.mul_assoc]
    rw [e, ← Int.natCast_emod, Int.toNat_natCast]
    unfold ux
    rw [Nat.mod_add_mod]
  rw [h1]
  show (if y * y % p = (ux p a x + b) % p then 1 else 0) = if (ux p a x + vy p y) % p = p - 1 - b then 1 else 0
  have h2 := ux_lt (show 0 < p by omega) a x
  have h3 : y * y % p < p := Nat.mod_lt _ (by omega)
  unfold vy
  generalize ux p a x = u at h2 ⊢
  generalize y * y % p = q at h3 ⊢
  have e1 : (u + b) % p = if u + b < p then u + b else u + b - p := by
    split
    · exact Nat.mod_eq_of_lt (by assumption)
    · rw [Nat.mod_eq_sub_mod (by omega), Nat.mod_eq_of_lt (by omega)]
  have e2 : (u + (p - 1 - q)) % p = if u + (p - 1 - q) < p then u + (p - 1 - q) else u + (p - 1 - q) - p := by
    split
    · exact Nat.mod_eq_of_lt (by assumption)
    · rw [Nat.mod_eq_sub_mod (by omega), Nat.mod_eq_of_lt (by omega)]
  rw [e1, e2]
  by_cases h : q = if u + b < p then u + b else u + b - p
  · rw [if_pos h, if_pos]
    split at h <;> split <;> omega
  · rw [if_neg h, if_neg]
    split at h <;> split <;> omega

theorem nodup_le {α : Type} [DecidableEq α] {L M : List α} (h : L.Nodup) (hs : ∀ x ∈ L, x ∈ M) : L.length ≤ M.length :=
  Classical.byContradiction fun hc => hc (Nat.le_of_eq (nodup_perm h hs (by omega)).length_eq)

/-- congruent by p -/
def Cg (p : Nat) (A B : Int) : Prop := A % p = B % p
theorem Cg.mul {p : Nat} {A B C D : Int} (h : Cg p A B) (k : Cg p C D) : Cg p (A * C) (B * D) := by
  unfold Cg at *
  rw [Int.mul_emod, h, k, ← Int.mul_emod]
theorem Cg.add {p : Nat} {A B C D : Int} (h : Cg p A B) (k : Cg p C D) : Cg p (A + C) (B + D) := by
  unfold Cg at *
  rw [Int.add_emod, h, k, ← Int.add_emod]
theorem Cg.refl {p : Nat} (A : Int) : Cg p A A := rfl
theorem Cg.symm' {p : Nat} {A B : Int} (h : Cg p A B) : Cg p B A := Eq.symm h
theorem Cg.trans' {p : Nat} {A B C : Int} (h : Cg p A B) (k : Cg p B C) : Cg p A C := Eq.trans h k
theorem Cg.of (p : Nat) (A : Int) : Cg p (A % p) A := Int.emod_emod_of_dvd _ (Int.dvd_refl _)
theorem Cg.cancel {p : Nat} {w u A B : Int} (hw : Cg p (w * u) 1) (h : Cg p (u * A) (u * B)) : Cg p A B := by
  have h1 := (Cg.refl (p := p) w).mul h
  rw [← Int.mul_assoc, ← Int.mul_assoc] at h1
  have h2 := hw.mul (Cg.refl (p := p) A)
  have h3 := hw.mul (Cg.refl (p := p) B)
  rw [Int.one_mul] at h2 h3
  exact h2.symm.trans (h1.trans h3)
theorem Cg.low {p : Nat} {A B : Int} (h : Cg p A B) (hA : 0 ≤ A ∧ A < p) (hB : 0 ≤ B ∧ B < p) : A = B := by
  unfold Cg at h
  rwa [Int.emod_eq_of_lt hA.1 hA.2, Int.emod_eq_of_lt hB.1 hB.2] at h
theorem inv_pow {p : Nat} {w u : Int} (h : Cg p (w * u) 1) : Cg p (w * w * (u * u)) 1 ∧ Cg p (w * w * w * (u * u * u)) 1 := by
  have h2 := h.mul h
  have h3 := h2.mul h
  simp only [Int.one_mul] at h2 h3
  refine ⟨?_, ?_⟩
  · rwa [show w * w * (u * u) = w * u * (w * u) by grind]
  · rwa [show w * w * w * (u * u * u) = w * u * (w * u) * (w * u) by grind]
/-- points of one curve are turned into points of another -/
theorem scale_le {p : Nat} (hp : 0 < p) {a b a' b' u w : Int} (hu : Cg p (w * u) 1) (ha : Cg p a' (a * (u * u * u * u))) (hb : Cg p b' (b * (u * u * u * u * u * u))) :
    (ptsC p a b).length ≤ (ptsC p a' b').length := by
  obtain ⟨hw2, hw3⟩ := inv_pow hu
  let φ : CP → CP := fun P => if P.far = true then farC else ⟨u * u * P.x % p, u * u * u * P.y % p, false⟩
  have hlen : (ptsC p a b).length = ((ptsC p a b).map φ).length := by rw [List.length_map]
  rw [hlen]
  refine nodup_le ?_ ?_
  · rw [List.nodup_iff_pairwise_ne, List.pairwise_map]
    refine List.Pairwise.imp_of_mem ?_ (List.nodup_iff_pairwise_ne.1 (pts_nodup hp a b))
    intro P Q hP hQ hne e
    rw [mem_pts hp] at hP hQ
    refine hne ?_
    simp only [φ] at e
    cases hf : P.far
    · cases hf' : Q.far
      · rw [hf, hf'] at e
        simp at e
        obtain ⟨p1, p2, _⟩ := hP.near hf
        obtain ⟨q1, q2, _⟩ := hQ.near hf'
        have e1 : Cg p (u * u * P.x) (u * u * Q.x) := e.1
        have e2 : Cg p (u * u * u * P.y) (u * u * u * Q.y) := e.2
        have x1 := (Cg.cancel hw2 e1).low p1 q1
        have x2 := (Cg.cancel hw3 e2).low p2 q2
        obtain ⟨x, y, f⟩ := P
        obtain ⟨x', y', f'⟩ := Q
        simp only at x1 x2 hf hf'
        rw [x1, x2, hf, hf']
      · rw [hf, hf'] at e
        simp [farC] at e
    · cases hf' : Q.far
      · rw [hf, hf'] at e
        simp [farC] at e
      · rw [hP.isfar hf, hQ.isfar hf']
  · intro P' hP'
    rw [List.mem_map] at hP'
    obtain ⟨P, hP, rfl⟩ := hP'
    rw [mem_pts hp] at hP ⊢
    simp only [φ]
    cases hf : P.far
    · obtain ⟨p1, p2, p3⟩ := hP.near hf
      simp only [Bool.false_eq_true, if_false]
      unfold okC
      rw [if_neg (by simp)]
      have hp' : (0 : Int) < p := by omega
      refine ⟨⟨Int.emod_nonneg _ (by omega), Int.emod_lt_of_pos _ hp'⟩, ⟨Int.emod_nonneg _ (by omega), Int.emod_lt_of_pos _ hp'⟩, ?_⟩
      have cx := Cg.of p (u * u * P.x)
      have cy := Cg.of p (u * u * u * P.y)
      have c1 : Cg p (u * u * u * P.y % p * (u * u * u * P.y % p)) (u * u * u * (u * u * u) * (P.y * P.y)) := by
        rw [show u * u * u * (u * u * u) * (P.y * P.y) = u * u * u * P.y * (u * u * u * P.y) by grind]
        exact cy.mul cy
      have c2 : Cg p (u * u * u * (u * u * u) * (P.y * P.y)) (u * u * u * (u * u * u) * (P.x * P.x * P.x + a * P.x + b)) := (Cg.refl _).mul p3
      have c3 : Cg p (u * u * P.x % p * (u * u * P.x % p) * (u * u * P.x % p) + a' * (u * u * P.x % p) + b') (u * u * u * (u * u * u) * (P.x * P.x * P.x + a * P.x + b)) := by
        rw [show u * u * u * (u * u * u) * (P.x * P.x * P.x + a * P.x + b) = u * u * P.x * (u * u * P.x) * (u * u * P.x) + a * (u * u * u * u) * (u * u * P.x) + b * (u * u * u * u * u * u) by grind]
        exact (((cx.mul cx).mul cx).add (ha.mul cx)).add hb
      exact (c1.trans c2).trans c3.symm
    · simp only [if_true]
      exact okC_far

theorem bound {p s N : Nat} (hs : s * s ≤ 4 * p) (h1 : p ≤ N + s) (h2 : N ≤ p + s) : ((N : Int) - p) * ((N : Int) - p) ≤ 4 * p := by
  have h : ((N : Int) - p) * ((N : Int) - p) ≤ (s : Int) * s := by
    rcases Int.le_total 0 ((N : Int) - p) with h | h
    · exact Int.mul_le_mul (by omega) (by omega) h (by omega)
    · have := Int.mul_le_mul (a := (p : Int) - N) (b := (p : Int) - N) (c := s) (d := s) (by omega) (by omega) (by omega) (by omega)
      rwa [show ((N : Int) - p) * ((N : Int) - p) = ((p : Int) - N) * ((p : Int) - N) by grind]
  have : (s : Int) * s ≤ 4 * p := by exact_mod_cast hs
  omega
/-- HASSE -/
theorem hasse {p : Nat} {a b : Int} (h : OkCv p a b) : (((ptsC p a b).length : Int) - p - 1) * (((ptsC p a b).length : Int) - p - 1) ≤ 4 * p := by
  obtain ⟨h5, h6, hpr, ha1, ha2, hb1, hb2, _⟩ := h
  have hP : Pr p := Pr_of (by simpa using hpr)
  obtain ⟨g, s, T⟩ := told_ex (p := p) (by omega) (by omega) hP
  have hp0 : 0 < p := by omega
  suffices hs : ∃ (a0 : Nat) (b0 : Nat), b0 < p ∧ (ptsC p a b).length = (ptsC p (a0 : Int) (b0 : Int)).length ∧ ∀ k, k < p → p ≤ cc (ux p a0) (vy p) p p k + s ∧ cc (ux p a0) (vy p) p p k ≤ p + s by
    obtain ⟨a0, b0, hb0, e, hc⟩ := hs
    rw [len_cc hb0] at e
    have k := hc (p - 1 - b0) (by omega)
    have := bound T.s1 k.1 k.2
    rw [e]
    rw [Int.natCast_add]
    rwa [show ((1 : Nat) : Int) + (cc (ux p a0) (vy p) p p (p - 1 - b0) : Nat) - p - 1 = (cc (ux p a0) (vy p) p p (p - 1 - b0) : Nat) - p by omega]
  by_cases ha0 : a = 0
  · subst ha0
    exact ⟨0, b.toNat, by omega, by rw [Int.toNat_of_nonneg hb1]; rfl, T.cnt0⟩
  · obtain ⟨i, hi⟩ := T.gen a.toNat (by omega) (by omega)
    obtain ⟨a0, hr, hc⟩ := T.cnt (i % 4) (by omega)
    have hgp : ¬ p ∣ g := fun hd => by
      have h1 : g ^ ((p - 1) / 2) % p = 0 := Nat.mod_eq_zero_of_dvd (Nat.dvd_trans hd (Nat.dvd_of_mod_eq_zero (by
        obtain ⟨k, hk⟩ : ∃ k, (p - 1) / 2 = k + 1 := ⟨(p - 1) / 2 - 1, by omega⟩
        rw [hk, Nat.pow_succ, Nat.mul_mod_left])))
      have := T.gh
      omega
    have hf := hP.fermat1 hgp
    -- u = g^(i/4), w its inverse
    have hu : Cg p (((g ^ ((p - 2) * (i / 4)) : Nat) : Int) * ((g ^ (i / 4) : Nat) : Int)) 1 := by
      unfold Cg
      rw [← Int.natCast_mul, ← Nat.pow_add, show (p - 2) * (i / 4) + i / 4 = (p - 1) * (i / 4) by rw [show p - 1 = p - 2 + 1 by omega, Nat.add_mul, Nat.one_mul], Nat.pow_mul, ← Int.natCast_emod, Nat.pow_mod, hf]
      rw [Nat.one_pow]
      rfl
    obtain ⟨u, hu'⟩ : ∃ u : Int, ((g ^ (i / 4) : Nat) : Int) = u := ⟨_, rfl⟩
    obtain ⟨w, hw'⟩ : ∃ w : Int, ((g ^ ((p - 2) * (i / 4)) : Nat) : Int) = w := ⟨_, rfl⟩
    rw [hu', hw'] at hu
    have hu2 : Cg p (u * w) 1 := by rw [Int.mul_comm]; exact hu
    have hA : Cg p a ((a0 : Int) * (u * u * u * u)) := by
      have e1 : Cg p (a0 : Int) ((g ^ (i % 4) : Nat) : Int) := by
        unfold Cg
        rw [← Int.natCast_emod, hr, Int.natCast_emod]
      have e2 : Cg p a ((g ^ i : Nat) : Int) := by
        unfold Cg
        rw [← Int.natCast_emod, hi, Int.toNat_of_nonneg ha1, Int.emod_eq_of_lt ha1 ha2]
      refine Cg.trans' e2 (Cg.trans' ?_ ((Cg.symm' e1).mul (Cg.refl _)))
      rw [← hu', ← Int.natCast_mul, ← Int.natCast_mul, ← Int.natCast_mul, ← Int.natCast_mul, ← Nat.pow_add, ← Nat.pow_add, ← Nat.pow_add, ← Nat.pow_add]
      rw [show i % 4 + (i / 4 + i / 4 + i / 4 + i / 4) = i by omega]
      exact Cg.refl _
    have w4 : Cg p (u * u * u * u * (w * w * w * w)) 1 := by
      have := (inv_pow (inv_pow hu2).1).1
      rwa [show u * u * u * u * (w * w * w * w) = u * u * (u * u) * (w * w * (w * w)) by grind]
    have w6 : Cg p (u * u * u * u * u * u * (w * w * w * w * w * w)) 1 := by
      have := (inv_pow (inv_pow hu2).2).1
      rwa [show u * u * u * u * u * u * (w * w * w * w * w * w) = u * u * u * (u * u * u) * (w * w * w * (w * w * w)) by grind]
    have hA' : Cg p (a0 : Int) (a * (w * w * w * w)) := by
      have h1 := hA.mul (Cg.refl (w * w * w * w))
      have h2 := (Cg.refl (p := p) (a0 : Int)).mul w4
      rw [Int.mul_one, ← Int.mul_assoc] at h2
      exact (h1.trans h2).symm
    refine ⟨a0, (b * (w * w * w * w * w * w) % p).toNat, ?_, ?_, hc⟩
    · have h1 := Int.emod_lt_of_pos (b * (w * w * w * w * w * w)) (show (0 : Int) < p by omega)
      have h2 := Int.emod_nonneg (b * (w * w * w * w * w * w)) (show (p : Int) ≠ 0 by omega)
      omega
    · rw [Int.toNat_of_nonneg (Int.emod_nonneg _ (by omega))]
      have hB := Cg.of p (b * (w * w * w * w * w * w))
      have hB' : Cg p b (b * (w * w * w * w * w * w) % p * (u * u * u * u * u * u)) := by
        have h1 := hB.mul (Cg.refl (u * u * u * u * u * u))
        have h2 := (Cg.refl (p := p) b).mul w6
        rw [Int.mul_one] at h2
        rw [show b * (w * w * w * w * w * w) * (u * u * u * u * u * u) = b * (u * u * u * u * u * u * (w * w * w * w * w * w)) by grind] at h1
        exact (h1.trans h2).symm
      exact Nat.le_antisymm (scale_le hp0 hu2 hA' hB) (scale_le hp0 hu hA hB')
end HS
end Go.Proofs.YtonclhchbgmaiaaGreatDoor
