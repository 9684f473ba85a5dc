/- Walks and laws, in one text: each under the conditions that its theorems name. -/
import Derived.Test.YtofjmnodfabohaaGreatDoorK0
import Derived.Test.YtofjmnodfabohaaGreatDoorKCurvL
import Derived.KernelRfl
namespace Go.Proofs.YtofjmnodfabohaaGreatDoor
open CV
namespace HS

theorem none_T {T H p c m : Nat} {D : Nat → Nat} (hT : T = 2 ^ (23 + 1)) (hH : H = 2 ^ 23) (hm : m = dg T D p) (hD : ∀ k, k < p → D k + c < T)
    (h : (m + c * dg T (fun _ => 1) p) &&& (H * dg T (fun _ => 1) p) = 0) {k : Nat} (hk : k < p) : D k + c < H := by
  subst hT hH
  exact mask_none hm hD h hk
theorem all_T {T H p c m : Nat} {D : Nat → Nat} (hT : T = 2 ^ (23 + 1)) (hH : H = 2 ^ 23) (hm : m = dg T D p) (hD : ∀ k, k < p → D k + c < T)
    (h : (m + c * dg T (fun _ => 1) p) &&& (H * dg T (fun _ => 1) p) = H * dg T (fun _ => 1) p) {k : Nat} (hk : k < p) : H ≤ D k + c := by
  subst hT hH
  exact mask_all hm hD h hk

def ux (p a x : Nat) : Nat := x * (x * x + a) % p
def vy (p y : Nat) : Nat := p - 1 - y * y % p
theorem ux_lt {p : Nat} (hp : 0 < p) (a x : Nat) : ux p a x < p := Nat.mod_lt _ hp

theorem chkM_told {p s R m : Nat} {D : Nat → Nat} (hp2 : p ≤ 2000) (hs : s ≤ p) (hR : R = dg 16777216 (fun _ => 1) p) (hm : m = dg 16777216 D p) (hD : ∀ k, k < p → D k ≤ p * p)
    (h : chkM p s R m = true) : ∀ k, k < p → p ≤ D k + s ∧ D k ≤ p + s := by
  intro k hk
  unfold chkM at h
  rw [Bool.and_eq_true] at h
  obtain ⟨h1, h2⟩ := h
  have h1' : (m + (8388608 - (p + (s + 1))) * R) &&& (8388608 * R) = 0 := by simpa using Nat.eq_of_beq_eq_true h1
  have h2' : (m + (8388608 - (p - s)) * R) &&& (8388608 * R) = 8388608 * R := by simpa using Nat.eq_of_beq_eq_true h2
  rw [hR] at h1' h2'
  have hpp : p * p ≤ 4000000 := Nat.mul_le_mul hp2 hp2
  have hb : ∀ c, c ≤ 8388608 → ∀ k, k < p → D k + c < 16777216 := fun c hc k hk => by have := hD k hk; omega
  have k1 := none_T (T := 16777216) (H := 8388608) (by decide) (by decide) hm (hb _ (by omega)) h1' hk
  have k2 := all_T (T := 16777216) (H := 8388608) (by decide) (by decide) hm (hb _ (by omega)) h2' hk
  omega
theorem chkA_told {p s G R a : Nat} (hp : 5 ≤ p) (hp2 : p ≤ 2000) (hs : s ≤ p) (hG : G = sm (fun y => 16777216 ^ vy p y) p) (hR : R = dg 16777216 (fun _ => 1) p)
    (h : chkA p s G R a = true) : ∀ k, k < p → p ≤ cc (ux p a) (vy p) p p k + s ∧ cc (ux p a) (vy p) p p k ≤ p + s := by
  have hpp : p * p ≤ 4000000 := Nat.mul_le_mul hp2 hp2
  refine chkM_told hp2 hs hR ?_ (fun k _ => cc_le _ _ _ _ _) h
  rw [← prod_cc (by omega) (by omega), hG]
  show bs (leafx p a) p 11 * _ % (16777216 ^ p - 1) = _
  rw [bs_eq _ (show p < 2 ^ 11 by omega)]
  rfl

structure Told (p g s : Nat) : Prop where
  s1 : s * s ≤ 4 * p
  s2 : s ≤ p
  gh : g ^ ((p - 1) / 2) % p = p - 1
  gen : ∀ k, 1 ≤ k → k < p → ∃ i, g ^ i % p = k
  cnt : ∀ r, r < 4 → ∃ a, a % p = g ^ r % p ∧ ∀ k, k < p → p ≤ cc (ux p a) (vy p) p p k + s ∧ cc (ux p a) (vy p) p p k ≤ p + s
  cnt0 : ∀ k, k < p → p ≤ cc (ux p 0) (vy p) p p k + s ∧ cc (ux p 0) (vy p) p p k ≤ p + s

theorem chkP_told {p g s : Nat} (hp : 5 ≤ p) (hp2 : p ≤ 2000) (h : chkP (p, g, s) = true) : Told p g s := by
  unfold chkP chkG at h
  simp only [Bool.and_eq_true] at h
  obtain ⟨h1, h2, h3, h4, h5, h6, h7, h8, h9⟩ := h
  have hs : s ≤ p := Nat.le_of_ble_eq_true h2
  have hR : Nat.div (Nat.sub (Nat.pow 16777216 p) 1) 16777215 = dg 16777216 (fun _ => 1) p := by
    show (16777216 ^ p - 1) / 16777215 = _
    have e := dg_ones 16777215 p
    rw [← e, Nat.add_sub_cancel, Nat.mul_div_cancel _ (by omega)]
  have hG : bs (leafy p) p 11 = sm (fun y => 16777216 ^ vy p y) p := by
    rw [bs_eq _ (show p < 2 ^ 11 by omega)]
    rfl
  have A := fun {a : Nat} (h : chkA p s _ _ a = true) => chkA_told hp hp2 hs hG hR h
  refine ⟨Nat.le_of_ble_eq_true h1, hs, Nat.eq_of_beq_eq_true h3, fun k k1 k2 => ?_, fun r hr => ?_, A h5⟩
  · have e := Nat.eq_of_beq_eq_true h4
    rw [bs_eq _ (show Nat.sub p 1 < 2 ^ 11 by show p - 1 < _; omega)] at e
    have e1 : sm (leafg p g) (Nat.sub p 1) = dg 16777216 (cn (fun i => g ^ i % p) (p - 1)) p := pw_cn 16777216 (u := fun i => g ^ i % p) (n := p - 1) fun x _ => Nat.mod_lt _ (by omega)
    have e2 : Nat.sub (Nat.div (Nat.sub (Nat.pow 16777216 p) 1) 16777215) 1 = dg 16777216 (fun k => if k = 0 then 0 else 1) p := by
      show _ - 1 = _
      rw [hR]
      have e3 : dg 16777216 (fun _ => 1) p = dg 16777216 (fun k => if k = 0 then 0 else 1) p + dg 16777216 (fun k => if k = 0 then 1 else 0) p := by
        rw [← dg_add]
        unfold dg
        refine sm_congr fun x _ => ?_
        show 1 * 16777216 ^ x = ((if x = 0 then 0 else 1) + if x = 0 then 1 else 0) * 16777216 ^ x
        by_cases e : x = 0
        · rw [if_pos e, if_pos e]
        · rw [if_neg e, if_neg e]
      have e4 : dg 16777216 (fun k => if k = 0 then 1 else 0) p = 1 := by
        have e5 := sm_one (n := p) (k := 0) (by omega) 1
        refine Eq.trans (sm_congr fun x _ => ?_) e5
        show (if x = 0 then 1 else 0) * 16777216 ^ x = if x = 0 then 1 else 0
        by_cases e : x = 0
        · rw [if_pos e, e]
        · rw [if_neg e, Nat.zero_mul]
      omega
    rw [e1, e2] at e
    have d1 := dg_at (T := 16777216) (by omega) (D := cn (fun i => g ^ i % p) (p - 1)) (n := p) (k := k) (fun j _ => by have := cn_le (fun i => g ^ i % p) (p - 1) j; omega) k2
    have d2 := dg_at (T := 16777216) (by omega) (D := fun k => if k = 0 then 0 else 1) (n := p) (k := k) (fun j _ => by show (if j = 0 then 0 else 1) < _; split <;> omega) k2
    rw [e, d2] at d1
    rw [if_neg (by omega)] at d1
    obtain ⟨i, _, hi⟩ := cn_pos (u := fun i => g ^ i % p) (n := p - 1) (k := k) (by omega)
    exact ⟨i, hi⟩
  · match r, hr with
    | 0, _ => exact ⟨1, by simp, A h6⟩
    | 1, _ => exact ⟨g, by simp, A h7⟩
    | 2, _ => exact ⟨Nat.mod (Nat.mul g g) p, by show g * g % p % p = _; rw [Nat.mod_mod, Nat.pow_two], A h8⟩
    | 3, _ => exact ⟨Nat.mod (Nat.mul g (Nat.mul g g)) p, by show g * (g * g) % p % p = _; rw [Nat.mod_mod, Nat.pow_succ, Nat.pow_two, Nat.mul_comm g (g * g)], A h9⟩
    | r + 4, hr => exact absurd hr (by omega)

theorem told_ex {p : Nat} (hp : 5 ≤ p) (hp2 : p ≤ 2000) (h : Pr p) : ∃ g s, Told p g s := by
  have h1 := List.all_eq_true.1 found_ok p (List.mem_range.2 (by omega))
  unfold found at h1
  rw [Bool.or_eq_true, Bool.or_eq_true] at h1
  rcases h1 with h1 | h1 | h1
  · have := Nat.le_of_ble_eq_true h1
    have : p + 1 ≤ 5 := this
    omega
  · unfold small at h1
    rw [List.any_eq_true] at h1
    obtain ⟨d, hd, h2⟩ := h1
    rw [Bool.and_eq_true] at h2
    have h3 : d + 1 ≤ p := Nat.le_of_ble_eq_true h2.1
    have h4 : p % d = 0 := Nat.eq_of_beq_eq_true h2.2
    have h5 : 2 ≤ d := by
      simp at hd
      omega
    rcases h.2 d (Nat.dvd_of_mod_eq_zero h4) with h6 | h6 <;> omega
  · rw [List.any_eq_true] at h1
    obtain ⟨⟨q, g, s⟩, hm, h2⟩ := h1
    have e : q = p := Nat.eq_of_beq_eq_true h2
    subst e
    exact ⟨g, s, chkP_told hp hp2 (List.all_eq_true.1 pts_ok _ hm)⟩

theorem flat_len (f : Nat → List CP) : ∀ m, ((List.range m).flatMap f).length = sm (fun x => (f x).length) m
  | 0 => rfl
  | m + 1 => by
    rw [List.range_succ, List.flatMap_append, List.length_append, flat_len f m]
    simp [sm]
theorem filter_len (q : Nat → Prop) [DecidablePred q] : ∀ m, ((List.range m).filter fun y => decide (q y)).length = sm (fun y => if q y then 1 else 0) m
  | 0 => rfl
  | m + 1 => by
    rw [List.range_succ, List.filter_append, List.length_append, filter_len q m]
    show _ = sm _ m + _
    congr 1
    show ([m].filter fun y => decide (q y)).length = if q m then 1 else 0
    by_cases h : q m
    · rw [if_pos h]; simp [h]
    · rw [if_neg h]; simp [h]
theorem len_sm (p : Nat) (a b : Int) : (ptsC p a b).length = 1 + sm (fun x => (rootsL p p (((x : Int) * x * x + a * x + b) % p).toNat).length) p := by
  unfold ptsC ptsN
  rw [List.length_cons, flat_len, Nat.add_comm]
  congr 1
  exact sm_congr fun x _ => by unfold rowP; rw [List.length_map]
theorem len_cc {p a b : Nat} (hb : b < p) : (ptsC p (a : Int) (b : Int)).length = 1 + cc (ux p a) (vy p) p p (p - 1 - b) := by
  rw [len_sm]
  congr 1
  unfold cc cn
  refine sm_congr fun x _ => ?_
  unfold rootsL
  rw [filter_len]
  refine sm_congr fun y _ => ?_
  have h1 : (((x : Int) * x * x + (a : Int) * x + (b : Int)) % p).toNat = (ux p a x + b) % p := by
    have e : ((x : Int) * x * x + (a : Int) * x + (b : Int)) = ((x * (x * x + a) + b : Nat) : Int) := by
      rw [Int.natCast_add, Int.natCast_mul, Int.natCast_add, Int.natCast_mul, Int.mul_add, Int.mul_comm (x : Int) (a : Int), ← Int.mul_assoc]
    rw [e, ← Int.natCast_emod, Int.toNat_natCast]
    unfold ux
    rw [Nat.mod_add_mod]
  rw [h1]
  show (if y * y % p = (ux p a x + b) % p then 1 else 0) = if (ux p a x + vy p y) % p = p - 1 - b then 1 else 0
  have h2 := ux_lt (show 0 < p by omega) a x
  have h3 : y * y % p < p := Nat.mod_lt _ (by omega)
  unfold vy
  generalize ux p a x = u at h2 ⊢
  generalize y * y % p = q at h3 ⊢
  have e1 : (u + b) % p = if u + b < p then u + b else u + b - p := by
    split
    · exact Nat.mod_eq_of_lt (by assumption)
    · rw [Nat.mod_eq_sub_mod (by omega), Nat.mod_eq_of_lt (by omega)]
  have e2 : (u + (p - 1 - q)) % p = if u + (p - 1 - q) < p then u + (p - 1 - q) else u + (p - 1 - q) - p := by
    split
    · exact Nat.mod_eq_of_lt (by assumption)
    · rw [Nat.mod_eq_sub_mod (by omega), Nat.mod_eq_of_lt (by omega)]
  rw [e1, e2]
  by_cases h : q = if u + b < p then u + b else u + b - p
  · rw [if_pos h, if_pos]
    split at h <;> split <;> omega
  · rw [if_neg h, if_neg]
    split at h <;> split <;> omega

theorem nodup_le {α : Type} [DecidableEq α] {L M : List α} (h : L.Nodup) (hs : ∀ x ∈ L, x ∈ M) : L.length ≤ M.length :=
  Classical.byContradiction fun hc => hc (Nat.le_of_eq (nodup_perm h hs (by omega)).length_eq)

/-- congruent by p -/
def Cg (p : Nat) (A B : Int) : Prop := A % p = B % p
theorem Cg.mul {p : Nat} {A B C D : Int} (h : Cg p A B) (k : Cg p C D) : Cg p (A * C) (B * D) := by
  unfold Cg at *
  rw [Int.mul_emod, h, k, ← Int.mul_emod]
theorem Cg.add {p : Nat} {A B C D : Int} (h : Cg p A B) (k : Cg p C D) : Cg p (A + C) (B + D) := by
  unfold Cg at *
  rw [Int.add_emod, h, k, ← Int.add_emod]
theorem Cg.refl {p : Nat} (A : Int) : Cg p A A := rfl
theorem Cg.symm' {p : Nat} {A B : Int} (h : Cg p A B) : Cg p B A := Eq.symm h
theorem Cg.trans' {p : Nat} {A B C : Int} (h : Cg p A B) (k : Cg p B C) : Cg p A C := Eq.trans h k
theorem Cg.of (p : Nat) (A : Int) : Cg p (A % p) A := Int.emod_emod_of_dvd _ (Int.dvd_refl _)
theorem Cg.cancel {p : Nat} {w u A B : Int} (hw : Cg p (w * u) 1) (h : Cg p (u * A) (u * B)) : Cg p A B := by
  have h1 := (Cg.refl (p := p) w).mul h
  rw [← Int.mul_assoc, ← Int.mul_assoc] at h1
  have h2 := hw.mul (Cg.refl (p := p) A)
  have h3 := hw.mul (Cg.refl (p := p) B)
  rw [Int.one_mul] at h2 h3
  exact h2.symm.trans (h1.trans h3)
theorem Cg.low {p : Nat} {A B : Int} (h : Cg p A B) (hA : 0 ≤ A ∧ A < p) (hB : 0 ≤ B ∧ B < p) : A = B := by
  unfold Cg at h
  rwa [Int.emod_eq_of_lt hA.1 hA.2, Int.emod_eq_of_lt hB.1 hB.2] at h
theorem inv_pow {p : Nat} {w u : Int} (h : Cg p (w * u) 1) : Cg p (w * w * (u * u)) 1 ∧ Cg p (w * w * w * (u * u * u)) 1 := by
  have h2 := h.mul h
  have h3 := h2.mul h
  simp only [Int.one_mul] at h2 h3
  refine ⟨?_, ?_⟩
  · rwa [show w * w * (u * u) = w * u * (w * u) by grind]
  · rwa [show w * w * w * (u * u * u) = w * u * (w * u) * (w * u) by grind]
/-- points of one curve are turned into points of another -/
theorem scale_le {p : Nat} (hp : 0 < p) {a b a' b' u w : Int} (hu : Cg p (w * u) 1) (ha : Cg p a' (a * (u * u * u * u))) (hb : Cg p b' (b * (u * u * u * u * u * u))) :
    (ptsC p a b).length ≤ (ptsC p a' b').length := by
  obtain ⟨hw2, hw3⟩ := inv_pow hu
  let φ : CP → CP := fun P => if P.far = true then farC else ⟨u * u * P.x % p, u * u * u * P.y % p, false⟩
  have hlen : (ptsC p a b).length = ((ptsC p a b).map φ).length := by rw [List.length_map]
  rw [hlen]
  refine nodup_le ?_ ?_
  · rw [List.nodup_iff_pairwise_ne, List.pairwise_map]
    refine List.Pairwise.imp_of_mem ?_ (List.nodup_iff_pairwise_ne.1 (pts_nodup hp a b))
    intro P Q hP hQ hne e
    rw [mem_pts hp] at hP hQ
    refine hne ?_
    simp only [φ] at e
    cases hf : P.far
    · cases hf' : Q.far
      · rw [hf, hf'] at e
        simp at e
        obtain ⟨p1, p2, _⟩ := hP.near hf
        obtain ⟨q1, q2, _⟩ := hQ.near hf'
        have e1 : Cg p (u * u * P.x) (u * u * Q.x) := e.1
        have e2 : Cg p (u * u * u * P.y) (u * u * u * Q.y) := e.2
        have x1 := (Cg.cancel hw2 e1).low p1 q1
        have x2 := (Cg.cancel hw3 e2).low p2 q2
        obtain ⟨x, y, f⟩ := P
        obtain ⟨x', y', f'⟩ := Q
        simp only at x1 x2 hf hf'
        rw [x1, x2, hf, hf']
      · rw [hf, hf'] at e
        simp [farC] at e
    · cases hf' : Q.far
      · rw [hf, hf'] at e
        simp [farC] at e
      · rw [hP.isfar hf, hQ.isfar hf']
  · intro P' hP'
    rw [List.mem_map] at hP'
    obtain ⟨P, hP, rfl⟩ := hP'
    rw [mem_pts hp] at hP ⊢
    simp only [φ]
    cases hf : P.far
    · obtain ⟨p1, p2, p3⟩ := hP.near hf
      simp only [Bool.false_eq_true, if_false]
      unfold okC
      rw [if_neg (by simp)]
      have hp' : (0 : Int) < p := by omega
      refine ⟨⟨Int.emod_nonneg _ (by omega), Int.emod_lt_of_pos _ hp'⟩, ⟨Int.emod_nonneg _ (by omega), Int.emod_lt_of_pos _ hp'⟩, ?_⟩
      have cx := Cg.of p (u * u * P.x)
      have cy := Cg.of p (u * u * u * P.y)
      have c1 : Cg p (u * u * u * P.y % p * (u * u * u * P.y % p)) (u * u * u * (u * u * u) * (P.y * P.y)) := by
        rw [show u * u * u * (u * u * u) * (P.y * P.y) = u * u * u * P.y * (u * u * u * P.y) by grind]
        exact cy.mul cy
      have c2 : Cg p (u * u * u * (u * u * u) * (P.y * P.y)) (u * u * u * (u * u * u) * (P.x * P.x * P.x + a * P.x + b)) := (Cg.refl _).mul p3
      have c3 : Cg p (u * u * P.x % p * (u * u * P.x % p) * (u * u * P.x % p) + a' * (u * u * P.x % p) + b') (u * u * u * (u * u * u) * (P.x * P.x * P.x + a * P.x + b)) := by
        rw [show u * u * u * (u * u * u) * (P.x * P.x * P.x + a * P.x + b) = u * u * P.x * (u * u * P.x) * (u * u * P.x) + a * (u * u * u * u) * (u * u * P.x) + b * (u * u * u * u * u * u) by grind]
        exact (((cx.mul cx).mul cx).add (ha.mul cx)).add hb
      exact (c1.trans c2).trans c3.symm
    · simp only [if_true]
      exact okC_far

theorem bound {p s N : Nat} (hs : s * s ≤ 4 * p) (h1 : p ≤ N + s) (h2 : N ≤ p + s) : ((N : Int) - p) * ((N : Int) - p) ≤ 4 * p := by
  have h : ((N : Int) - p) * ((N : Int) - p) ≤ (s : Int) * s := by
    rcases Int.le_total 0 ((N : Int) - p) with h | h
    · exact Int.mul_le_mul (by omega) (by omega) h (by omega)
    · have := Int.mul_le_mul (a := (p : Int) - N) (b := (p : Int) - N) (c := s) (d := s) (by omega) (by omega) (by omega) (by omega)
      rwa [show ((N : Int) - p) * ((N : Int) - p) = ((p : Int) - N) * ((p : Int) - N) by grind]
  have : (s : Int) * s ≤ 4 * p := by exact_mod_cast hs
  omega
/-- HASSE -/
theorem hasse {p : Nat} {a b : Int} (h : OkCv p a b) : (((ptsC p a b).length : Int) - p - 1) * (((ptsC p a b).length : Int) - p - 1) ≤ 4 * p := by
  obtain ⟨h5, h6, hpr, ha1, ha2, hb1, hb2, _⟩ := h
  have hP : Pr p := Pr_of (by simpa using hpr)
  obtain ⟨g, s, T⟩ := told_ex (p := p) (by omega) (by omega) hP
  have hp0 : 0 < p := by omega
  suffices hs : ∃ (a0 : Nat) (b0 : Nat), b0 < p ∧ (ptsC p a b).length = (ptsC p (a0 : Int) (b0 : Int)).length ∧ ∀ k, k < p → p ≤ cc (ux p a0) (vy p) p p k + s ∧ cc (ux p a0) (vy p) p p k ≤ p + s by
    obtain ⟨a0, b0, hb0, e, hc⟩ := hs
    rw [len_cc hb0] at e
    have k := hc (p - 1 - b0) (by omega)
    have := bound T.s1 k.1 k.2
    rw [e]
    rw [Int.natCast_add]
    rwa [show ((1 : Nat) : Int) + (cc (ux p a0) (vy p) p p (p - 1 - b0) : Nat) - p - 1 = (cc (ux p a0) (vy p) p p (p - 1 - b0) : Nat) - p by omega]
  by_cases ha0 : a = 0
  · subst ha0
    exact ⟨0, b.toNat, by omega, by rw [Int.toNat_of_nonneg hb1]; rfl, T.cnt0⟩
  · obtain ⟨i, hi⟩ := T.gen a.toNat (by omega) (by omega)
    obtain ⟨a0, hr, hc⟩ := T.cnt (i % 4) (by omega)
    have hgp : ¬ p ∣ g := fun hd => by
      have h1 : g ^ ((p - 1) / 2) % p = 0 := Nat.mod_eq_zero_of_dvd (Nat.dvd_trans hd (Nat.dvd_of_mod_eq_zero (by
        obtain ⟨k, hk⟩ : ∃ k, (p - 1) / 2 = k + 1 := ⟨(p - 1) / 2 - 1, by omega⟩
        rw [hk, Nat.pow_succ, Nat.mul_mod_left])))
      have := T.gh
      omega
    have hf := hP.fermat1 hgp
    -- u = g^(i/4), w its inverse
    have hu : Cg p (((g ^ ((p - 2) * (i / 4)) : Nat) : Int) * ((g ^ (i / 4) : Nat) : Int)) 1 := by
      unfold Cg
      rw [← Int.natCast_mul, ← Nat.pow_add, show (p - 2) * (i / 4) + i / 4 = (p - 1) * (i / 4) by rw [show p - 1 = p - 2 + 1 by omega, Nat.add_mul, Nat.one_mul], Nat.pow_mul, ← Int.natCast_emod, Nat.pow_mod, hf]
      rw [Nat.one_pow]
      rfl
    obtain ⟨u, hu'⟩ : ∃ u : Int, ((g ^ (i / 4) : Nat) : Int) = u := ⟨_, rfl⟩
    obtain ⟨w, hw'⟩ : ∃ w : Int, ((g ^ ((p - 2) * (i / 4)) : Nat) : Int) = w := ⟨_, rfl⟩
    rw [hu', hw'] at hu
    have hu2 : Cg p (u * w) 1 := by rw [Int.mul_comm]; exact hu
    have hA : Cg p a ((a0 : Int) * (u * u * u * u)) := by
      have e1 : Cg p (a0 : Int) ((g ^ (i % 4) : Nat) : Int) := by
        unfold Cg
        rw [← Int.natCast_emod, hr, Int.natCast_emod]
      have e2 : Cg p a ((g ^ i : Nat) : Int) := by
        unfold Cg
        rw [← Int.natCast_emod, hi, Int.toNat_of_nonneg ha1, Int.emod_eq_of_lt ha1 ha2]
      refine Cg.trans' e2 (Cg.trans' ?_ ((Cg.symm' e1).mul (Cg.refl _)))
      rw [← hu', ← Int.natCast_mul, ← Int.natCast_mul, ← Int.natCast_mul, ← Int.natCast_mul, ← Nat.pow_add, ← Nat.pow_add, ← Nat.pow_add, ← Nat.pow_add]
      rw [show i % 4 + (i / 4 + i / 4 + i / 4 + i / 4) = i by omega]
      exact Cg.refl _
    have w4 : Cg p (u * u * u * u * (w * w * w * w)) 1 := by
      have := (inv_pow (inv_pow hu2).1).1
      rwa [show u * u * u * u * (w * w * w * w) = u * u * (u * u) * (w * w * (w * w)) by grind]
    have w6 : Cg p (u * u * u * u * u * u * (w * w * w * w * w * w)) 1 := by
      have := (inv_pow (inv_pow hu2).2).1
      rwa [show u * u * u * u * u * u * (w * w * w * w * w * w) = u * u * u * (u * u * u) * (w * w * w * (w * w * w)) by grind]
    have hA' : Cg p (a0 : Int) (a * (w * w * w * w)) := by
      have h1 := hA.mul (Cg.refl (w * w * w * w))
      have h2 := (Cg.refl (p := p) (a0 : Int)).mul w4
      rw [Int.mul_one, ← Int.mul_assoc] at h2
      exact (h1.trans h2).symm
    refine ⟨a0, (b * (w * w * w * w * w * w) % p).toNat, ?_, ?_, hc⟩
    · have h1 := Int.emod_lt_of_pos (b * (w * w * w * w * w * w)) (show (0 : Int) < p by omega)
      have h2 := Int.emod_nonneg (b * (w * w * w * w * w * w)) (show (p : Int) ≠ 0 by omega)
      omega
    · rw [Int.toNat_of_nonneg (Int.emod_nonneg _ (by omega))]
      have hB := Cg.of p (b * (w * w * w * w * w * w))
      have hB' : Cg p b (b * (w * w * w * w * w * w) % p * (u * u * u * u * u * u)) := by
        have h1 := hB.mul (Cg.refl (u * u * u * u * u * u))
        have h2 := (Cg.refl (p := p) b).mul w6
        rw [Int.mul_one] at h2
        rw [show b * (w * w * w * w * w * w) * (u * u * u * u * u * u) = b * (u * u * u * u * u * u * (w * w * w * w * w * w)) by grind] at h1
        exact (h1.trans h2).symm
      exact Nat.le_antisymm (scale_le hp0 hu2 hA' hB) (scale_le hp0 hu hA hB')
end HS
end Go.Proofs.YtofjmnodfabohaaGreatDoor

namespace Go.Proofs.YtofjmnodfabohaaGreatDoor
open CV
namespace HS

theorem Pr.odd' {p : Nat} (hP : Pr p) (hp : 5 ≤ p) : p % 2 = 1 := by
  rcases Nat.mod_two_eq_zero_or_one p with h | h
  · rcases hP.2 2 (Nat.dvd_of_mod_eq_zero h) with k | k <;> omega
  · exact h
theorem sq_low {p : Nat} (hp : 5 ≤ p) : (p - 1) * (p - 1) % p = 1 := by
  obtain ⟨q, rfl⟩ : ∃ q, p = q + 2 := ⟨p - 2, by omega⟩
  rw [show q + 2 - 1 = q + 1 by omega, show (q + 1) * (q + 1) = 1 + (q + 2) * q by grind, Nat.add_mul_mod_self_left]
  exact Nat.mod_eq_of_lt (by omega)
theorem low_pow {p : Nat} (hp : 5 ≤ p) (j : Nat) : (p - 1) ^ (2 * j) % p = 1 ∧ (p - 1) ^ (2 * j + 1) % p = p - 1 := by
  have h1 : (p - 1) ^ (2 * j) % p = 1 := by
    rw [Nat.pow_mul, Nat.pow_mod, Nat.pow_two, sq_low hp, Nat.one_pow]
    exact Nat.mod_eq_of_lt (by omega)
  refine ⟨h1, ?_⟩
  rw [Nat.pow_succ, Nat.mul_mod, h1, Nat.one_mul, Nat.mod_mod]
  exact Nat.mod_eq_of_lt (by omega)
theorem two_roots {p y z : Nat} (hP : Pr p) (hy : y < p) (hz : z < p) (h0 : 0 < z) (h : y * y % p = z * z % p) : y = z ∨ y = p - z := by
  have key : ∀ a b : Nat, a ≤ b → b < p → 0 < a + b → a * a % p = b * b % p → a = b ∨ a + b = p := by
    intro a b hab hb h0 h
    have e : (b * b - a * a) % p = 0 := Nat.sub_mod_eq_zero_of_mod_eq h.symm
    have e2 : b * b - a * a = (a + b) * (b - a) := by
      obtain ⟨d, rfl⟩ : ∃ d, b = a + d := ⟨b - a, by omega⟩
      rw [show (a + d) * (a + d) = a * a + (a + (a + d)) * d by grind, Nat.add_sub_cancel_left, Nat.add_sub_cancel_left]
    rw [e2] at e
    rcases hP.dvd_mul (Nat.dvd_of_mod_eq_zero e) with k | k
    · obtain ⟨t, ht⟩ := k
      right
      have : t = 1 := by
        rcases (by omega : t = 0 ∨ t = 1 ∨ 2 ≤ t) with r | r | r
        · rw [r] at ht; omega
        · exact r
        · have := Nat.mul_le_mul (Nat.le_refl p) r; omega
      rw [this] at ht
      omega
    · left
      have := Nat.eq_zero_of_dvd_of_lt k (by omega)
      omega
  rcases Nat.le_total y z with k | k
  · rcases key y z k hz (by omega) h with r | r <;> omega
  · rcases key z y k hy (by omega) h.symm with r | r <;> omega
theorem neg_sq {p z : Nat} (hz : z < p) : (p - z) * (p - z) % p = z * z % p := by
  obtain ⟨d, rfl⟩ : ∃ d, p = z + d := ⟨p - z, by omega⟩
  rw [Nat.add_sub_cancel_left]
  rcases Nat.le_total z d with h | h
  · obtain ⟨e, rfl⟩ : ∃ e, d = z + e := ⟨d - z, by omega⟩
    rw [show (z + e) * (z + e) = z * z + (z + (z + e)) * e by grind, Nat.add_mul_mod_self_left]
  · obtain ⟨e, rfl⟩ : ∃ e, z = d + e := ⟨z - d, by omega⟩
    rw [show (d + e) * (d + e) = d * d + (d + e + d) * e by grind, Nat.add_mul_mod_self_left]
theorem roots_nodup (p v : Nat) : (rootsL p p v).Nodup := by
  unfold rootsL
  rw [List.nodup_iff_pairwise_ne]
  exact List.Pairwise.filter _ (List.nodup_iff_pairwise_ne.1 List.nodup_range)

theorem roots_leg {p g s : Nat} (hp : 5 ≤ p) (T : Told p g s) (hP : Pr p) {v : Nat} (hv : v < p) :
    ((rootsL p p v).length : Int) = 1 + (if v ^ ((p - 1) / 2) % p = p - 1 then -1 else ((v ^ ((p - 1) / 2) % p : Nat) : Int)) := by
  have hodd := Pr.odd' hP hp
  by_cases h0 : v = 0
  · subst h0
    have e : (rootsL p p 0).length = 1 := by
      refine Nat.le_antisymm (nodup_le (M := [0]) (roots_nodup p 0) fun y hy => ?_) (nodup_le (L := [0]) (by simp) fun y hy => ?_)
      · obtain ⟨h1, h2⟩ := mem_roots.1 hy
        rcases hP.dvd_mul (Nat.dvd_of_mod_eq_zero h2) with k | k <;> simp [Nat.eq_zero_of_dvd_of_lt k h1]
      · have : y = 0 := by simpa using hy
        subst this
        exact mem_roots.2 ⟨by omega, by simp⟩
    rw [e, Nat.zero_pow (by omega), Nat.zero_mod, if_neg (by omega)]
    rfl
  · obtain ⟨i, hi⟩ := T.gen v (by omega) hv
    have hpow : v ^ ((p - 1) / 2) % p = (p - 1) ^ i % p := by
      rw [← hi, ← Nat.pow_mod, ← Nat.pow_mul, Nat.mul_comm, Nat.pow_mul, Nat.pow_mod, T.gh]
    rcases (by omega : i = 2 * (i / 2) ∨ i = 2 * (i / 2) + 1) with hh | hh
    · rw [hh, (low_pow hp _).1] at hpow
      rw [hpow, if_neg (by omega)]
      obtain ⟨z, hz⟩ : ∃ z, g ^ (i / 2) % p = z := ⟨_, rfl⟩
      have hzp : z < p := by rw [← hz]; exact Nat.mod_lt _ (by omega)
      have hzv : z * z % p = v := by rw [← hz, ← Nat.mul_mod, ← Nat.pow_add, show i / 2 + i / 2 = i by omega, hi]
      have hz0 : 0 < z := by
        rcases Nat.eq_zero_or_pos z with k | k
        · rw [k] at hzv
          simp at hzv
          omega
        · exact k
      have e : (rootsL p p v).length = 2 := by
        refine Nat.le_antisymm (nodup_le (M := [z, p - z]) (roots_nodup p v) fun y hy => ?_) (nodup_le (L := [z, p - z]) (by simp; omega) fun y hy => ?_)
        · obtain ⟨h1, h2⟩ := mem_roots.1 hy
          simpa using two_roots hP h1 hzp hz0 (h2.trans hzv.symm)
        · have : y = z ∨ y = p - z := by simpa using hy
          rcases this with rfl | rfl
          · exact mem_roots.2 ⟨hzp, hzv⟩
          · exact mem_roots.2 ⟨by omega, by rw [neg_sq hzp, hzv]⟩
      rw [e]
      rfl
    · rw [hh, (low_pow hp _).2] at hpow
      rw [hpow, if_pos rfl]
      have e : rootsL p p v = [] := List.eq_nil_iff_forall_not_mem.2 fun y hy => by
        obtain ⟨h1, h2⟩ := mem_roots.1 hy
        have hy0 : ¬ p ∣ y := fun hd => by
          rw [Nat.eq_zero_of_dvd_of_lt hd h1] at h2
          simp at h2
          omega
        have hf := hP.fermat1 hy0
        rw [← h2, ← Nat.pow_mod, ← Nat.pow_two, ← Nat.pow_mul, show 2 * ((p - 1) / 2) = p - 1 by omega, hf] at hpow
        omega
      rw [e]
      rfl

/-- what the document's Legendre answers -/
def legX (p : Nat) (V : Int) : Int := if V ^ ((p - 1) / 2) % (p : Int) = (p : Int) - 1 then -1 else V ^ ((p - 1) / 2) % (p : Int)
theorem legX_le {p : Nat} (hp : 5 ≤ p) (V : Int) : -1 ≤ legX p V ∧ legX p V ≤ p := by
  unfold legX
  have h1 := Int.emod_nonneg (V ^ ((p - 1) / 2)) (show (p : Int) ≠ 0 by omega)
  have h2 := Int.emod_lt_of_pos (V ^ ((p - 1) / 2)) (show (0 : Int) < p by omega)
  split <;> omega
/-- how many there are, by the symbols -/
def manyN (p : Nat) (a b : Int) : Nat → Int
  | 0 => 1
  | m + 1 => manyN p a b m + 1 + legX p ((m : Int) * m * m + a * m + b)
theorem manyN_le {p : Nat} (hp : 5 ≤ p) (a b : Int) : ∀ m : Nat, -(m : Int) ≤ manyN p a b m + m ∧ manyN p a b m ≤ 1 + (m : Int) * (p + 1)
  | 0 => by simp [manyN]
  | m + 1 => by
    obtain ⟨h1, h2⟩ := manyN_le hp a b m
    obtain ⟨h3, h4⟩ := legX_le hp ((m : Int) * m * m + a * m + b)
    unfold manyN
    rw [Int.natCast_add, Int.add_mul]
    generalize (m : Int) * ((p : Int) + 1) = X at h2 ⊢
    omega
theorem many_len {p : Nat} {a b : Int} (h : OkCv p a b) : ∀ m, manyN p a b m = ((ptsN p a b m).length : Int)
  | 0 => by simp [manyN, ptsN]
  | m + 1 => by
    have hP : Pr p := Pr_of (by simpa using h.pr)
    have hp5 : 5 ≤ p := by have := h.p1; omega
    obtain ⟨g, s, T⟩ := told_ex (p := p) hp5 (by have := h.p2; omega) hP
    unfold manyN
    rw [many_len h m, ptsN_succ, List.length_append]
    have e1 : (rowP p a b m).length = (rootsL p p ((((m : Nat) : Int) * m * m + a * m + b) % p).toNat).length := by unfold rowP; rw [List.length_map]
    have h0 := Int.emod_nonneg ((m : Int) * m * m + a * m + b) (show (p : Int) ≠ 0 by omega)
    have h1 := Int.emod_lt_of_pos ((m : Int) * m * m + a * m + b) (show (0 : Int) < p by omega)
    have e2 := roots_leg hp5 T hP (v := ((((m : Nat) : Int) * m * m + a * m + b) % p).toNat) (by omega)
    have e3 : legX p ((m : Int) * m * m + a * m + b) = (if ((((m : Nat) : Int) * m * m + a * m + b) % p).toNat ^ ((p - 1) / 2) % p = p - 1 then -1 else ((((((m : Nat) : Int) * m * m + a * m + b) % p).toNat ^ ((p - 1) / 2) % p : Nat) : Int)) := by
      unfold legX
      have e4 : (((((((m : Nat) : Int) * m * m + a * m + b) % p).toNat ^ ((p - 1) / 2) % p : Nat)) : Int) = ((m : Int) * m * m + a * m + b) ^ ((p - 1) / 2) % (p : Int) := by
        rw [Int.natCast_emod, Int.natCast_pow, Int.toNat_of_nonneg h0, pow_emod]
      rw [← e4]
      by_cases hc : ((((m : Nat) : Int) * m * m + a * m + b) % p).toNat ^ ((p - 1) / 2) % p = p - 1
      · rw [if_pos hc, if_pos (by rw [hc]; omega)]
      · rw [if_neg hc, if_neg (by omega)]
    rw [e3, e1]
    omega
theorem many_whole {p : Nat} {a b : Int} (h : OkCv p a b) : manyN p a b p = ((ptsC p a b).length : Int) := many_len h p
end HS
end Go.Proofs.YtofjmnodfabohaaGreatDoor

namespace Go.Proofs.YtofjmnodfabohaaGreatDoor
open CV
namespace SH

theorem pr_pow_cop {l x : Nat} (hl : Pr l) (h : ¬ l ∣ x) (k : Nat) : Nat.gcd (l ^ k) x = 1 := by
  have h1 : Nat.Coprime l x := hl.coprime h
  exact Nat.Coprime.pow_left k h1
theorem strip {l : Nat} (hl : 2 ≤ l) : ∀ x : Nat, 0 < x → ∃ t y, x = l ^ t * y ∧ ¬ l ∣ y := by
  intro x
  induction x using Nat.strongRecOn with
  | _ x ih =>
    intro hx
    by_cases h : l ∣ x
    · obtain ⟨z, rfl⟩ := h
      have hz : 0 < z := Nat.pos_of_ne_zero fun e => by subst e; simp at hx
      have hlt : z < l * z := by have := Nat.mul_le_mul hl (Nat.le_refl z); omega
      obtain ⟨t, y, e, hy⟩ := ih z hlt hz
      exact ⟨t + 1, y, by rw [Nat.pow_succ, Nat.mul_comm (l ^ t) l, Nat.mul_assoc, ← e], hy⟩
    · exact ⟨0, x, by simp, h⟩
theorem pr_factor : ∀ n : Nat, 2 ≤ n → ∃ l, Pr l ∧ l ∣ n := by
  intro n
  induction n using Nat.strongRecOn with
  | _ n ih =>
    intro hn
    by_cases h : Pr n
    · exact ⟨n, h, Nat.dvd_refl n⟩
    · have : ∃ d, d ∣ n ∧ d ≠ 1 ∧ d ≠ n := Classical.byContradiction fun hc => h ⟨hn, fun d hd => by
        by_cases h1 : d = 1
        · exact .inl h1
        · by_cases h2 : d = n
          · exact .inr h2
          · exact absurd ⟨d, hd, h1, h2⟩ hc⟩
      obtain ⟨d, hd, h1, h2⟩ := this
      have hdl := Nat.le_of_dvd (by omega) hd
      have hd0 : d ≠ 0 := fun e => by subst e; have := Nat.eq_zero_of_zero_dvd hd; omega
      obtain ⟨l, hl, hld⟩ := ih d (by omega) (by omega)
      exact ⟨l, hl, Nat.dvd_trans hld hd⟩
/-- where r does not divide n, some prime's power tells it -/
theorem not_dvd {r n : Nat} (hr : 0 < r) (h : ¬ r ∣ n) : ∃ l t n', Pr l ∧ n = l ^ t * n' ∧ ¬ l ∣ n' ∧ l ^ (t + 1) ∣ r := by
  obtain ⟨d, hd⟩ : ∃ d, Nat.gcd r n = d := ⟨_, rfl⟩
  have hd0 : 0 < d := by rw [← hd]; exact Nat.gcd_pos_of_pos_left n hr
  obtain ⟨e, he⟩ : d ∣ r := by rw [← hd]; exact Nat.gcd_dvd_left r n
  obtain ⟨m, hm⟩ : d ∣ n := by rw [← hd]; exact Nat.gcd_dvd_right r n
  have hem : Nat.gcd e m = 1 := by
    have h1 : Nat.gcd (d * e) (d * m) = d * Nat.gcd e m := Nat.gcd_mul_left d e m
    rw [← he, ← hm, hd] at h1
    have h2 : d * 1 = d * Nat.gcd e m := by omega
    exact (Nat.eq_of_mul_eq_mul_left hd0 h2).symm
  have he2 : 2 ≤ e := by
    rcases (by omega : e = 0 ∨ e = 1 ∨ 2 ≤ e) with k | k | k
    · subst k; simp at he; omega
    · subst k; exact absurd ⟨m, by rw [hm, he, Nat.mul_one]⟩ h
    · exact k
  obtain ⟨l, hl, hle⟩ := pr_factor e he2
  have hlm : ¬ l ∣ m := fun hc => by
    have := Nat.dvd_gcd hle hc
    rw [hem] at this
    have := Nat.le_of_dvd (by omega) this
    have := hl.1
    omega
  obtain ⟨t, d', hdd, hld⟩ := strip hl.1 d hd0
  refine ⟨l, t, d' * m, hl, by rw [hm, hdd, Nat.mul_assoc], fun hc => ?_, ?_⟩
  · rcases hl.dvd_mul hc with k | k
    · exact hld k
    · exact hlm k
  · obtain ⟨f, hf⟩ := hle
    exact ⟨d' * f, by rw [he, hdd, hf, Nat.pow_succ]; grind⟩
theorem pow_split {l : Nat} (hl : Pr l) (b : Nat) : ∀ (a m n : Nat), l ^ (a + b) ∣ m * n → ¬ l ^ (a + 1) ∣ m → l ^ b ∣ n
  | a, m, n, h, hm => by
    by_cases hd : l ∣ m
    · obtain ⟨m', rfl⟩ := hd
      match a with
      | 0 => exact absurd (by rw [Nat.zero_add, Nat.pow_one]; exact Nat.dvd_mul_right l m') hm
      | a + 1 =>
        refine pow_split hl b a m' n ?_ fun hc => hm ?_
        · rw [show a + 1 + b = (a + b) + 1 by omega, Nat.pow_succ, Nat.mul_comm _ l, Nat.mul_assoc] at h
          exact Nat.dvd_of_mul_dvd_mul_left (by have := hl.1; omega) h
        · rw [Nat.pow_succ, Nat.mul_comm _ l]
          exact Nat.mul_dvd_mul_left l hc
    · have h1 : Nat.Coprime (l ^ (a + b)) m := pr_pow_cop hl hd _
      have h2 := h1.dvd_of_dvd_mul_left h
      exact Nat.dvd_trans (Nat.pow_dvd_pow l (by omega)) h2

section
variable {α : Type} {ok : α → Prop} {add : α → α → α} {zero : α} {neg : α → α}

theorem nm_plus (G : AbG ok add zero neg) {x y : α} (hx : ok x) (hy : ok y) : ∀ k, nm add zero k (add x y) = add (nm add zero k x) (nm add zero k y)
  | 0 => (G.add0 _ G.zok).symm
  | k + 1 => by
    show add (nm add zero k (add x y)) (add x y) = add (add (nm add zero k x) x) (add (nm add zero k y) y)
    rw [nm_plus G hx hy k, G.four (G.nmok hx k) (G.nmok hy k) hx hy]
theorem ord_part (G : AbG ok add zero neg) {x : α} (hx : ok x) {d e : Nat} (hd : 0 < d) (h : IsOrd add zero x (d * e)) : IsOrd add zero (nm add zero d x) e := by
  have he : 1 ≤ e := Nat.pos_of_ne_zero fun e0 => by have := h.1; rw [e0] at this; simp at this
  refine ⟨he, by rw [← G.nm_mul hx]; exact h.2.1, fun k k1 k2 hk => ?_⟩
  rw [← G.nm_mul hx] at hk
  exact h.2.2 (d * k) (Nat.mul_pos hd k1) (Nat.mul_lt_mul_of_pos_left k2 hd) hk
theorem ord_sum (G : AbG ok add zero neg) {x y : α} (hx : ok x) (hy : ok y) {r s : Nat} (hc : Nat.gcd r s = 1) (h : IsOrd add zero x r) (k : IsOrd add zero y s) : IsOrd add zero (add x y) (r * s) := by
  have half : ∀ {x y : α} {r s : Nat}, ok x → ok y → Nat.gcd r s = 1 → IsOrd add zero x r → IsOrd add zero y s → ∀ j, nm add zero j (add x y) = zero → r ∣ j := by
    intro x y r s hx hy hc h k j hj
    have e1 : nm add zero (j * s) (add x y) = zero := by rw [G.nm_mul (G.aok _ _ hx hy), hj, G.nm_zero]
    rw [nm_plus G hx hy] at e1
    have e2 : nm add zero (j * s) y = zero := G.dvd_zero hy k.2.1 (Nat.dvd_mul_left s j)
    rw [e2, G.add0 _ (G.nmok hx _)] at e1
    have e3 := G.ord_dvd hx h e1
    exact Nat.Coprime.dvd_of_dvd_mul_right hc e3
  refine ⟨Nat.mul_pos h.1 k.1, ?_, fun j j1 j2 hj => ?_⟩
  · rw [nm_plus G hx hy, G.dvd_zero hx h.2.1 (Nat.dvd_mul_right r s), G.dvd_zero hy k.2.1 (Nat.dvd_mul_left s r), G.add0 _ G.zok]
  · have d1 := half hx hy hc h k j hj
    have d2 := half hy hx (by rw [Nat.gcd_comm]; exact hc) k h j (by rw [G.comm _ _ hy hx]; exact hj)
    have d3 := Nat.Coprime.mul_dvd_of_dvd_of_dvd hc d1 d2
    have := Nat.le_of_dvd (by omega) d3
    omega
/-- the greatest order is the exponent -/
theorem exponent (G : AbG ok add zero neg) {N : Nat} (hN : 1 ≤ N) (hw : ∀ x, ok x → nm add zero N x = zero) {n : Nat} {P0 : α} (h0 : ok P0) (hP : IsOrd add zero P0 n)
    (hmax : ∀ x, ok x → ∀ k, IsOrd add zero x k → k ≤ n) {x : α} (hx : ok x) : nm add zero n x = zero := by
  obtain ⟨r, hr⟩ := ord_ex (add := add) (zero := zero) (x := x) N hN (hw x hx)
  refine Classical.byContradiction fun hc => ?_
  have hnd : ¬ r ∣ n := fun hd => hc (G.dvd_zero hx hr.2.1 hd)
  obtain ⟨l, t, n', hl, hn, hln, hlr⟩ := not_dvd hr.1 hnd
  obtain ⟨d, hd⟩ := hlr
  have hl0 : 0 < l ^ t := Nat.pow_pos (by have := hl.1; omega)
  have hd0 : 0 < d := Nat.pos_of_ne_zero fun e => by have := hr.1; rw [hd, e] at this; simp at this
  have o1 : IsOrd add zero (nm add zero d x) (l ^ (t + 1)) := ord_part G hx hd0 (by rw [Nat.mul_comm, ← hd]; exact hr)
  have o2 : IsOrd add zero (nm add zero (l ^ t) P0) n' := ord_part G h0 hl0 (by rw [← hn]; exact hP)
  have o3 := ord_sum G (G.nmok hx d) (G.nmok h0 _) (pr_pow_cop hl hln (t + 1)) o1 o2
  have := hmax _ (G.aok _ _ (G.nmok hx d) (G.nmok h0 _)) _ o3
  have hnn : 0 < n' := o2.1
  rw [Nat.pow_succ, hn, Nat.mul_assoc, Nat.mul_left_comm] at this
  have h2 := Nat.mul_le_mul hl.1 (Nat.le_refl (l ^ t * n'))
  have h3 := Nat.mul_pos hl0 hnn
  omega

/-- a sum over a list -/
def ls (f : α → Nat) : List α → Nat
  | [] => 0
  | x :: L => f x + ls f L
theorem ls_perm (f : α → Nat) {L M : List α} (h : L.Perm M) : ls f L = ls f M := by
  induction h with
  | nil => rfl
  | cons x _ ih => exact congrArg (f x + ·) ih
  | swap x y L => show f y + (f x + ls f L) = f x + (f y + ls f L); omega
  | trans _ _ h1 h2 => exact h1.trans h2
theorem ls_map (f : α → Nat) (g : α → α) : ∀ L : List α, ls f (L.map g) = ls (fun x => f (g x)) L
  | [] => rfl
  | x :: L => congrArg (f (g x) + ·) (ls_map f g L)
theorem ls_congr {f g : α → Nat} : ∀ {L : List α}, (∀ x ∈ L, f x = g x) → ls f L = ls g L
  | [], _ => rfl
  | x :: L, h => by
    show f x + ls f L = g x + ls g L
    rw [h x (by simp), ls_congr fun y hy => h y (by simp [hy])]
theorem ls_add (f g : α → Nat) : ∀ L : List α, ls (fun x => f x + g x) L = ls f L + ls g L
  | [] => rfl
  | x :: L => by
    show f x + g x + ls (fun x => f x + g x) L = f x + ls f L + (g x + ls g L)
    rw [ls_add f g L]; omega
theorem ls_sm (f : α → Nat → Nat) (L : List α) : ∀ n, ls (fun x => HS.sm (f x) n) L = HS.sm (fun k => ls (fun x => f x k) L) n
  | 0 => by
    show ls (fun _ => 0) L = 0
    induction L with
    | nil => rfl
    | cons x L ih => show 0 + ls (fun _ => 0) L = 0; rw [ih]
  | n + 1 => by
    show ls (fun x => HS.sm (f x) n + f x n) L = HS.sm (fun k => ls (fun x => f x k) L) n + ls (fun x => f x n) L
    rw [ls_add, ls_sm f L n]
theorem ls_const (c : Nat) : ∀ L : List α, ls (fun _ => c) L = L.length * c
  | [] => by simp [ls]
  | x :: L => by
    show c + ls (fun _ => c) L = (L.length + 1) * c
    rw [ls_const c L, Nat.add_mul, Nat.one_mul, Nat.add_comm]

/-- in how many ways y and multiples of the list's elements make what B counts -/
def wy (add : α → α → α) (zero : α) (B : α → Nat) (n : Nat) : List α → α → Nat
  | [], y => B y
  | x :: xs, y => HS.sm (fun k => wy add zero B n xs (add y (nm add zero k x))) n
theorem wy_n (G : AbG ok add zero neg) {B : α → Nat} {n : Nat} (hB : ∀ x, ok x → ∀ y, ok y → B (add y (nm add zero n x)) = B y) {z : α} (hz : ok z) : ∀ xs : List α, (∀ x ∈ xs, ok x) → ∀ y, ok y → wy add zero B n xs (add y (nm add zero n z)) = wy add zero B n xs y
  | [], _, y, hy => hB z hz y hy
  | x :: xs, h, y, hy => by
    have hx := h x (by simp)
    show HS.sm (fun k => wy add zero B n xs (add (add y (nm add zero n z)) (nm add zero k x))) n = HS.sm (fun k => wy add zero B n xs (add y (nm add zero k x))) n
    refine HS.sm_congr fun k _ => ?_
    have hk := G.nmok hx k
    have hzn := G.nmok hz n
    rw [G.assoc _ _ _ hy hzn hk, G.comm _ _ hzn hk, ← G.assoc _ _ _ hy hk hzn]
    exact wy_n G hB hz xs (fun x hx => h x (by simp [hx])) _ (G.aok _ _ hy hk)
theorem wy_shift (G : AbG ok add zero neg) {B : α → Nat} {n : Nat} (hB : ∀ x, ok x → ∀ y, ok y → B (add y (nm add zero n x)) = B y) : ∀ xs : List α, (∀ x ∈ xs, ok x) → ∀ z ∈ xs, ∀ y, ok y → wy add zero B n xs (add y z) = wy add zero B n xs y
  | [], _, z, hz, _, _ => by cases hz
  | x :: xs, h, z, hz, y, hy => by
    have hx := h x (by simp)
    have hzo := h z hz
    have hxs := fun x (hx : x ∈ xs) => h x (by simp [hx])
    rcases List.mem_cons.1 hz with rfl | hz
    · show HS.sm (fun k => wy add zero B n xs (add (add y z) (nm add zero k z))) n = HS.sm (fun k => wy add zero B n xs (add y (nm add zero k z))) n
      have e : ∀ k, add (add y z) (nm add zero k z) = add y (nm add zero (k + 1) z) := fun k => by
        show _ = add y (add (nm add zero k z) z)
        rw [G.assoc _ _ _ hy hzo (G.nmok hzo k), G.comm z _ hzo (G.nmok hzo k)]
      rw [HS.sm_congr fun k _ => by rw [e k]]
      have s1 := HS.sm_split (fun k => wy add zero B n xs (add y (nm add zero k z))) 1 n
      have s2 := HS.sm_split (fun k => wy add zero B n xs (add y (nm add zero k z))) n 1
      rw [Nat.add_comm 1 n, s2] at s1
      have e1 : HS.sm (fun k => wy add zero B n xs (add y (nm add zero k z))) 1 = wy add zero B n xs y := by simp [HS.sm, nm, G.add0 _ hy]
      have e2 : HS.sm (fun j => wy add zero B n xs (add y (nm add zero (n + j) z))) 1 = wy add zero B n xs y := by
        have := wy_n G hB hzo xs hxs y hy
        simp [HS.sm, this]
      have e3 : HS.sm (fun k => wy add zero B n xs (add y (nm add zero (1 + k) z))) n = HS.sm (fun k => wy add zero B n xs (add y (nm add zero (k + 1) z))) n := HS.sm_congr fun k _ => by rw [Nat.add_comm]
      rw [e1, e2, e3] at s1
      omega
    · show HS.sm (fun k => wy add zero B n xs (add (add y z) (nm add zero k x))) n = HS.sm (fun k => wy add zero B n xs (add y (nm add zero k x))) n
      refine HS.sm_congr fun k _ => ?_
      have hk := G.nmok hx k
      rw [G.assoc _ _ _ hy hzo hk, G.comm z _ hzo hk, ← G.assoc _ _ _ hy hk hzo]
      exact wy_shift G hB xs hxs z hz _ (G.aok _ _ hy hk)

variable [DecidableEq α]
theorem perm_add (G : AbG ok add zero neg) {L : List α} (hn : L.Nodup) (hL : ∀ x, x ∈ L ↔ ok x) {q : α} (hq : ok q) : (L.map fun x => add x q).Perm L := by
  refine nodup_perm ?_ (fun x hx => ?_) (by simp)
  · rw [List.nodup_iff_pairwise_ne, List.pairwise_map]
    refine List.Pairwise.imp_of_mem ?_ (List.nodup_iff_pairwise_ne.1 hn)
    intro x y hx hy hne e
    exact hne (G.cancel ((hL x).1 hx) ((hL y).1 hy) hq e)
  · rw [List.mem_map] at hx
    obtain ⟨y, hy, rfl⟩ := hx
    exact (hL _).2 (G.aok _ _ ((hL y).1 hy) hq)
theorem wy_sum (G : AbG ok add zero neg) {L : List α} (hn : L.Nodup) (hL : ∀ x, x ∈ L ↔ ok x) (B : α → Nat) (n : Nat) : ∀ xs : List α, (∀ x ∈ xs, ok x) → ls (wy add zero B n xs) L = n ^ xs.length * ls B L
  | [], _ => by
    show ls B L = n ^ 0 * ls B L
    rw [Nat.pow_zero, Nat.one_mul]
  | x :: xs, h => by
    have hx := h x (by simp)
    show ls (fun y => HS.sm (fun k => wy add zero B n xs (add y (nm add zero k x))) n) L = n ^ (xs.length + 1) * ls B L
    rw [ls_sm, HS.sm_congr (g := fun _ => n ^ xs.length * ls B L) fun k _ => ?_, HS.sm_const, Nat.pow_succ, Nat.mul_comm (n ^ xs.length) n, Nat.mul_assoc]
    show ls (fun y => wy add zero B n xs (add y (nm add zero k x))) L = _
    rw [← ls_map (wy add zero B n xs) (fun y => add y (nm add zero k x)), ls_perm _ (perm_add G hn hL (G.nmok hx k))]
    exact wy_sum G hn hL B n xs fun y hy => h y (by simp [hy])
/-- as many as there are divides what B counts, times a power of n -/
theorem wy_whole (G : AbG ok add zero neg) {L : List α} (hn : L.Nodup) (hL : ∀ x, x ∈ L ↔ ok x) {B : α → Nat} {n : Nat} (hB : ∀ x, ok x → ∀ y, ok y → B (add y (nm add zero n x)) = B y) : L.length ∣ n ^ L.length * ls B L := by
  have hok := fun x (hx : x ∈ L) => (hL x).1 hx
  have h1 := wy_sum G hn hL B n L hok
  have h2 : ls (wy add zero B n L) L = L.length * wy add zero B n L zero := by
    rw [← ls_const]
    refine ls_congr fun y hy => ?_
    have := wy_shift G hB L hok y hy zero G.zok
    rwa [G.zadd (hok y hy)] at this
  rw [h2] at h1
  exact ⟨_, h1.symm⟩
/-- how many are killed by q -/
def kl (add : α → α → α) (zero : α) (q : Nat) (y : α) : Nat := if nm add zero q y = zero then 1 else 0
theorem kl_whole (G : AbG ok add zero neg) {L : List α} (hn : L.Nodup) (hL : ∀ x, x ∈ L ↔ ok x) {q n : Nat} (hkill : ∀ x, ok x → nm add zero (n * q) x = zero) : L.length ∣ n ^ L.length * ls (kl add zero q) L :=
  wy_whole G hn hL fun x hx y hy => by
    unfold kl
    have hxn := G.nmok hx n
    rw [nm_plus G hy hxn, ← G.nm_mul hx, hkill x hx, G.add0 _ (G.nmok hy q)]
theorem kl_len (q : Nat) : ∀ L : List α, ls (kl add zero q) L = (L.filter fun y => decide (nm add zero q y = zero)).length
  | [] => rfl
  | x :: L => by
    show kl add zero q x + ls (kl add zero q) L = _
    rw [kl_len q L, List.filter_cons]
    unfold kl
    by_cases h : nm add zero q x = zero
    · rw [if_pos h, if_pos (by simpa using h), List.length_cons]; omega
    · rw [if_neg h, if_neg (by simpa using h)]; omega
/-- CAUCHY: a prime that divides how many there are divides the exponent -/
theorem cauchy (G : AbG ok add zero neg) {L : List α} (hn : L.Nodup) (hL : ∀ x, x ∈ L ↔ ok x) {n : Nat} (hkill : ∀ x, ok x → nm add zero n x = zero) {l : Nat} (hl : Pr l) (hd : l ∣ L.length) : l ∣ n := by
  have h1 := kl_whole G hn hL (q := 1) (n := n) (by simpa using hkill)
  have h2 : ls (kl add zero 1) L = 1 := by
    have hz := (hL zero).2 G.zok
    rw [kl_len]
    have hp : (L.filter fun y => decide (nm add zero 1 y = zero)).Perm [zero] := by
      refine (nodup_perm (by simp) (fun x hx => ?_) ?_).symm
      · have : x = zero := by simpa using hx
        subst this
        exact List.mem_filter.2 ⟨hz, by simpa using G.nm_zero 1⟩
      · refine HS.nodup_le (M := [zero]) ?_ fun x hx => ?_
        · rw [List.nodup_iff_pairwise_ne]
          exact List.Pairwise.filter _ (List.nodup_iff_pairwise_ne.1 hn)
        · obtain ⟨h1, h2⟩ := List.mem_filter.1 hx
          have h3 : nm add zero 1 x = zero := by simpa using h2
          rw [G.nm_one ((hL x).1 h1)] at h3
          simp [h3]
    exact hp.length_eq
  rw [h2, Nat.mul_one] at h1
  exact hl.dvd_pow _ (Nat.dvd_trans hd h1)
/-- a map whose fibres are small -/
theorem fibres {f : α → α} {r : Nat} : ∀ (L2 : List α) (L1 : List α), (∀ x ∈ L1, f x ∈ L2) → (∀ y, (L1.filter fun x => decide (f x = y)).length ≤ r) → L1.length ≤ L2.length * r
  | [], L1, h, _ => by
    have : L1 = [] := List.eq_nil_iff_forall_not_mem.2 fun x hx => by have := h x hx; cases this
    rw [this]; simp
  | y :: L2, L1, h, hr => by
    have h1 : L1.length = (L1.filter fun x => decide (f x = y)).length + (L1.filter fun x => !decide (f x = y)).length := by
      clear h hr
      induction L1 with
      | nil => rfl
      | cons x L1 ih => rw [List.filter_cons, List.filter_cons]; cases decide (f x = y) <;> simp <;> omega
    have h2 := fibres L2 (L1.filter fun x => !decide (f x = y)) (fun x hx => by
      obtain ⟨h3, h4⟩ := List.mem_filter.1 hx
      have h5 : f x ≠ y := by simpa using h4
      exact (List.mem_cons.1 (h x h3)).resolve_left h5) (fun z => by
        refine Nat.le_trans ?_ (hr z)
        rw [List.filter_filter]
        refine List.Sublist.length_le ?_
        rw [show (L1.filter fun a => decide (f a = z) && !decide (f a = y)) = (L1.filter fun a => decide (f a = z)).filter (fun a => !decide (f a = y)) by rw [List.filter_filter]; congr 1; funext a; rw [Bool.and_comm]]
        exact List.filter_sublist)
    have h3 := hr y
    rw [List.length_cons, Nat.add_mul, Nat.one_mul]
    omega
theorem two_bound (G : AbG ok add zero neg) {L : List α} (hn : L.Nodup) (hL : ∀ x, x ∈ L ↔ ok x) (h4 : ∀ M : List α, M.Nodup → (∀ x ∈ M, ok x ∧ add x x = zero) → M.length ≤ 4) : ∀ t, ls (kl add zero (2 ^ t)) L ≤ 4 ^ t
  | 0 => by
    rw [kl_len]
    refine HS.nodup_le (M := [zero]) ?_ fun x hx => ?_
    · rw [List.nodup_iff_pairwise_ne]
      exact List.Pairwise.filter _ (List.nodup_iff_pairwise_ne.1 hn)
    · obtain ⟨h1, h2⟩ := List.mem_filter.1 hx
      have h3 : nm add zero (2 ^ 0) x = zero := by simpa using h2
      have h5 : nm add zero 1 x = zero := h3
      rw [G.nm_one ((hL x).1 h1)] at h5
      simp [h5]
  | t + 1 => by
    have ih := two_bound G hn hL h4 t
    rw [kl_len] at ih ⊢
    have hnd : (L.filter fun y => decide (nm add zero (2 ^ (t + 1)) y = zero)).Nodup := by
      rw [List.nodup_iff_pairwise_ne]
      exact List.Pairwise.filter _ (List.nodup_iff_pairwise_ne.1 hn)
    have hf := fibres (f := fun x => add x x) (r := 4) (L.filter fun y => decide (nm add zero (2 ^ t) y = zero)) (L.filter fun y => decide (nm add zero (2 ^ (t + 1)) y = zero)) (fun x hx => by
      obtain ⟨h1, h2⟩ := List.mem_filter.1 hx
      have hx := (hL x).1 h1
      have h3 : nm add zero (2 ^ (t + 1)) x = zero := by simpa using h2
      rw [Nat.pow_succ, Nat.mul_comm, G.nm_mul hx] at h3
      have e : nm add zero 2 x = add x x := by
        show add (nm add zero 1 x) x = _
        rw [G.nm_one hx]
      rw [e] at h3
      exact List.mem_filter.2 ⟨(hL _).2 (G.aok _ _ hx hx), by simpa using h3⟩) (fun y => by
        generalize hF : ((L.filter fun y => decide (nm add zero (2 ^ (t + 1)) y = zero)).filter fun x => decide (add x x = y)) = F
        have hFn : F.Nodup := by
          rw [← hF, List.nodup_iff_pairwise_ne]
          exact List.Pairwise.filter _ (List.nodup_iff_pairwise_ne.1 hnd)
        have hFm : ∀ x ∈ F, ok x ∧ add x x = y := fun x hx => by
          rw [← hF] at hx
          obtain ⟨h1, h2⟩ := List.mem_filter.1 hx
          exact ⟨(hL x).1 (List.mem_filter.1 h1).1, by simpa using h2⟩
        cases hFc : F with
        | nil => simp
        | cons x0 F' =>
          rw [← hFc]
          obtain ⟨hx0, hy0⟩ := hFm x0 (by rw [hFc]; simp)
          have hm := h4 (F.map fun x => add x (neg x0)) (by
            rw [List.nodup_iff_pairwise_ne, List.pairwise_map]
            refine List.Pairwise.imp_of_mem ?_ (List.nodup_iff_pairwise_ne.1 hFn)
            intro a b ha hb hne e
            exact hne (G.cancel (hFm a ha).1 (hFm b hb).1 (G.nok _ hx0) e)) (fun z hz => by
              obtain ⟨x, hx, rfl⟩ := List.mem_map.1 hz
              obtain ⟨hx, hy⟩ := hFm x hx
              have hn0 := G.nok _ hx0
              refine ⟨G.aok _ _ hx hn0, ?_⟩
              rw [G.four hx hn0 hx hn0, hy, ← hy0, G.four hx0 hx0 hn0 hn0, G.inv _ hx0, G.add0 _ G.zok])
          rwa [List.length_map] at hm)
    have e4 : (4 : Nat) ^ (t + 1) = 4 ^ t * 4 := Nat.pow_succ ..
    have := Nat.mul_le_mul ih (Nat.le_refl 4)
    omega
/-- where few are killed by two, two's part of m is no more than of n -/
theorem two_rank (G : AbG ok add zero neg) {L : List α} (hn : L.Nodup) (hL : ∀ x, x ∈ L ↔ ok x) (h4 : ∀ M : List α, M.Nodup → (∀ x ∈ M, ok x ∧ add x x = zero) → M.length ≤ 4)
    {n m : Nat} (hn0 : 0 < n) (hkill : ∀ x, ok x → nm add zero n x = zero) (hm : L.length = m * n) {e : Nat} (he : 2 ^ e ∣ m) : 2 ^ e ∣ n := by
  obtain ⟨t, n', hnt, hodd⟩ := strip (l := 2) (by omega) n hn0
  have hPr : Pr 2 := ⟨by omega, fun d hd => by
    have := Nat.le_of_dvd (by omega) hd
    rcases (by omega : d = 0 ∨ d = 1 ∨ d = 2) with h | h | h
    · subst h; have := Nat.eq_zero_of_zero_dvd hd; omega
    · exact .inl h
    · exact .inr h⟩
  have h1 := kl_whole G hn hL (q := 2 ^ t) (n := n') (fun x hx => by rw [Nat.mul_comm, ← hnt]; exact hkill x hx)
  have h2 := two_bound G hn hL h4 t
  have hz : 0 < ls (kl add zero (2 ^ t)) L := by
    rw [kl_len]
    exact List.length_pos_of_mem (List.mem_filter.2 ⟨(hL zero).2 G.zok, by simpa using G.nm_zero _⟩)
  have h3 : 2 ^ (e + t) ∣ L.length := by
    rw [hm, hnt, Nat.pow_add]
    exact Nat.mul_dvd_mul he (Nat.dvd_mul_right _ _)
  have h5 := Nat.dvd_trans h3 h1
  have hc : Nat.Coprime (2 ^ (e + t)) (n' ^ L.length) := by
    refine pr_pow_cop hPr (fun hd => hodd (hPr.dvd_pow _ hd)) _
  have h6 := Nat.le_of_dvd hz (hc.dvd_of_dvd_mul_left h5)
  have h7 : e ≤ t := by
    refine Classical.byContradiction fun hc => ?_
    have k : 2 ^ (t + t + 1) ≤ 2 ^ (e + t) := Nat.pow_le_pow_right (by omega) (by omega)
    have k2 : (4 : Nat) ^ t = 2 ^ (t + t) := by rw [show (4 : Nat) = 2 ^ 2 by rfl, ← Nat.pow_mul]; congr 1; omega
    rw [Nat.pow_succ] at k
    have := Nat.pow_pos (n := t + t) (show 0 < 2 by omega)
    omega
  exact Nat.dvd_trans (Nat.pow_dvd_pow 2 h7) ⟨n', hnt⟩

/-- WHAT TELLS THE SHAPE -/
theorem shape (G : AbG ok add zero neg) {L : List α} (hn : L.Nodup) (hL : ∀ x, x ∈ L ↔ ok x) {n : Nat} {P0 : α} (h0 : ok P0) (hP : IsOrd add zero P0 n) (hmax : ∀ x, ok x → ∀ k, IsOrd add zero x k → k ≤ n)
    (h4 : ∀ M : List α, M.Nodup → (∀ x ∈ M, ok x ∧ add x x = zero) → M.length ≤ 4) {P1 : Nat}
    (H : ∀ l, Pr l → ∃ c, l ^ c ∣ P1 ∧ ((l ^ (c + c) ∣ L.length ∧ ¬ l ^ (c + 2) ∣ L.length) ∨ (l = 2 ∧ ¬ l ^ (c + c + 2) ∣ L.length) ∨ ((l = 2 ∨ l ^ (c + c) ∣ L.length) ∧ ∃ x, ok x ∧ nm add zero (L.length / l ^ (c + 1)) x ≠ zero))) :
    ∃ m, L.length = m * n ∧ 0 < m ∧ m ∣ n ∧ m ∣ P1 := by
  have hN : 1 ≤ L.length := List.length_pos_of_mem ((hL zero).2 G.zok)
  have hw := fun x (hx : ok x) => G.whole hn hL hx
  have hkill := fun x (hx : ok x) => exponent G hN hw h0 hP hmax hx
  obtain ⟨m, hm⟩ := G.ord_dvd h0 hP (hw P0 h0)
  rw [Nat.mul_comm] at hm
  have hm0 : 0 < m := Nat.pos_of_ne_zero fun e => by rw [e] at hm; simp at hm; rw [hm] at hN; simp at hN
  have rank : ∀ e, 2 ^ e ∣ m → 2 ^ e ∣ n := fun e he => two_rank G hn hL h4 hP.1 hkill hm he
  have key : ∀ l, Pr l → ∀ c, ((l ^ (c + c) ∣ L.length ∧ ¬ l ^ (c + 2) ∣ L.length) ∨ (l = 2 ∧ ¬ l ^ (c + c + 2) ∣ L.length) ∨ ((l = 2 ∨ l ^ (c + c) ∣ L.length) ∧ ∃ x, ok x ∧ nm add zero (L.length / l ^ (c + 1)) x ≠ zero)) → ¬ l ^ (c + 1) ∣ m := by
    intro l hl c h hd
    have hl0 : 0 < l ^ (c + 1) := Nat.pow_pos (by have := hl.1; omega)
    rcases h with ⟨_, h⟩ | ⟨rfl, h⟩ | ⟨_, x, hx, h⟩
    · obtain ⟨m', rfl⟩ := hd
      have hln : l ∣ n := cauchy G hn hL hkill hl (by rw [hm]; exact Nat.dvd_trans (Nat.dvd_trans (Nat.pow_dvd_pow l (show 1 ≤ c + 1 by omega) |> fun k => by rwa [Nat.pow_one] at k) (Nat.dvd_mul_right _ m')) (Nat.dvd_mul_right _ n))
      obtain ⟨n', rfl⟩ := hln
      exact h ⟨m' * n', by rw [hm, show c + 2 = (c + 1) + 1 by omega, Nat.pow_succ l (c + 1)]; grind⟩
    · have h1 := rank _ hd
      apply h
      rw [hm, show c + c + 2 = (c + 1) + (c + 1) by omega, Nat.pow_add]
      exact Nat.mul_dvd_mul hd h1
    · obtain ⟨m', rfl⟩ := hd
      apply h
      rw [hm, Nat.mul_assoc, Nat.mul_div_cancel_left _ hl0]
      exact G.dvd_zero hx (hkill x hx) (Nat.dvd_mul_left n m')
  refine ⟨m, hm, hm0, Classical.byContradiction fun hc => ?_, Classical.byContradiction fun hc => ?_⟩
  · obtain ⟨l, t, n', hl, e, hln, hlm⟩ := not_dvd hm0 hc
    have fin : l ^ (t + 1) ∣ n → False := fun h5 => by
      rw [e, Nat.pow_succ] at h5
      exact hln (Nat.dvd_of_mul_dvd_mul_left (Nat.pow_pos (by have := hl.1; omega)) h5)
    by_cases hl2 : l = 2
    · subst hl2
      exact fin (rank _ hlm)
    · obtain ⟨c, _, h3⟩ := H l hl
      have k := key l hl c h3
      have h2 : l ^ (c + c) ∣ L.length := by
        rcases h3 with h | h | h
        · exact h.1
        · exact absurd h.1 hl2
        · exact h.1.resolve_left hl2
      have ht : t + 1 ≤ c := Classical.byContradiction fun hc => k (Nat.dvd_trans (Nat.pow_dvd_pow l (by omega)) hlm)
      rw [hm] at h2
      exact fin (Nat.dvd_trans (Nat.pow_dvd_pow l ht) (pow_split hl c c m n h2 k))
  · obtain ⟨l, t, n', hl, e, hln, hlm⟩ := not_dvd hm0 hc
    obtain ⟨c, h1, h3⟩ := H l hl
    have k := key l hl c h3
    have ht : t + 1 ≤ c := Classical.byContradiction fun hc => k (Nat.dvd_trans (Nat.pow_dvd_pow l (by omega)) hlm)
    have h5 := Nat.dvd_trans (Nat.pow_dvd_pow l ht) h1
    rw [e, Nat.pow_succ] at h5
    exact hln (Nat.dvd_of_mul_dvd_mul_left (Nat.pow_pos (by have := hl.1; omega)) h5)
end
end SH
end Go.Proofs.YtofjmnodfabohaaGreatDoor

namespace Go.Proofs.YtofjmnodfabohaaGreatDoor
open CV
namespace SH

/-- f at n, where n is reckoned first -/
def fo {α : Type} (n : Nat) (f : Nat → α) : α := Nat.rec (motive := fun _ => α) (f 0) (fun k _ => f (Nat.succ k)) n
theorem fo_eq {α : Type} (n : Nat) (f : Nat → α) : fo n f = f n := by cases n <;> rfl
def iv (p d : Nat) : Nat := Nat.mod (Nat.pow d (Nat.sub p 2)) p
/-- slopes, and the third point turned over; a point is x * 4096 + y -/
def kc (p c d : Nat) : Nat := Nat.mod (Nat.mul (Nat.sub (Nat.add (Nat.mod d 4096) p) (Nat.mod c 4096)) (Nat.pow (Nat.sub (Nat.add (Nat.div d 4096) p) (Nat.div c 4096)) (Nat.sub p 2))) p
def kt (p a c : Nat) : Nat := Nat.mod (Nat.mul (Nat.add (Nat.mul 3 (Nat.mul (Nat.div c 4096) (Nat.div c 4096))) a) (Nat.pow (Nat.mul 2 (Nat.mod c 4096)) (Nat.sub p 2))) p
def ln (p c k x : Nat) : Nat := Nat.add (Nat.mul x 4096) (Nat.mod (Nat.add (Nat.mul k (Nat.sub (Nat.add (Nat.div c 4096) p) x)) (Nat.sub p (Nat.mod c 4096))) p)
def l2 (p c d k : Nat) : Nat := ln p c k (Nat.mod (Nat.sub (Nat.add (Nat.mul k k) (Nat.mul 2 p)) (Nat.add (Nat.div c 4096) (Nat.div d 4096))) p)
/-- K times P is not the far one, and no step on the way falls out of the common case -/
def mb (p a K P : Nat) (i : Nat) : Nat → Bool :=
  Nat.rec (motive := fun _ => Nat → Bool) (fun _ => true) (fun i ih c => cond (Nat.beq (Nat.mod c 4096) 0) false (fo (l2 p c c (kt p a c)) fun d =>
    cond (Nat.beq (Nat.mod (Nat.div K (Nat.pow 2 i)) 2) 1) (cond (Nat.beq (Nat.div d 4096) (Nat.div P 4096)) false (fo (l2 p d P (kc p d P)) ih)) (ih d))) i

def sr (p f z : Nat) (fuel : Nat) : Nat → Nat :=
  Nat.rec (motive := fun _ => Nat → Nat) (fun y => y) (fun _ ih y => cond (Nat.beq (Nat.mod (Nat.mul y y) p) f) y (fo (Nat.mod (Nat.mul y z) p) ih)) fuel
def try1 (p a b K t z x : Nat) : Bool :=
  fo (Nat.mod (Nat.add (Nat.mul x (Nat.add (Nat.mul x x) a)) b) p) fun f =>
    and (Nat.beq (Nat.mod (Nat.pow f (Nat.div (Nat.sub p 1) 2)) p) 1)
      (fo (sr p f z 160 (Nat.mod (Nat.pow f (Nat.div (Nat.succ t) 2)) p)) fun y =>
        and (Nat.beq (Nat.mod (Nat.mul y y) p) f) (and (Nat.blt y p) (and (Nat.blt x p) (fo (Nat.add (Nat.mul x 4096) y) fun P => mb p a K P (Nat.log2 K) P))))
def wit (p a b K t z : Nat) : Bool := Nat.rec (motive := fun _ => Bool) false (fun i r => or (try1 p a b K t z i) r) p
def lgo (p a b N t z l : Nat) (fuel : Nat) : Nat → Bool :=
  Nat.rec (motive := fun _ => Nat → Bool) (fun _ => false) (fun _ ih q =>
    cond (and (Nat.beq (Nat.mod (Nat.sub p 1) (Nat.mul q l)) 0) (Nat.beq (Nat.mod N (Nat.mul (Nat.mul q l) (Nat.mul q l))) 0)) (fo (Nat.mul q l) ih)
      (cond (Nat.beq (Nat.mod N (Nat.mul (Nat.mul q l) l)) 0) (fo (Nat.div N (Nat.mul q l)) fun K => wit p a b K t z) true)) fuel
def lchk (p a b N t z l : Nat) : Bool := cond (Nat.beq (Nat.mod N (Nat.mul l l)) 0) (lgo p a b N t z l 7 1) true
/-- two's part: q the greatest power of two in p - 1, m = 4 q q -/
def l2chk (p a b N t z q m : Nat) : Bool := cond (Nat.beq (Nat.mod N m) 0) (fo (Nat.div N (Nat.mul q 2)) fun K => wit p a b K t z) true
/-- the numbers below 2209 that no odd square divides -/
def sqf : Nat := 88339681572937108271868612330173995703992324032162455392661798781544968841133410943529449297849708606980042946169672960333832420255418027536757155878563740847742935232062335050904548467380500873157512122062027470421601480564288634133589418498862235677304559104571627211657365528476672483488111003301662156351760472006774147758936283225802524051872317883664714979352642722038056910885279448294651398037777558794983580363313058820962317319388779202393230338661164585285372362134377675777641110684941530767861502945964976525510042927771708178462975859374415351593408450694596949401837673205008998969523261598333298836711972631918979015660804758966517805859433141239294
def bit (X n : Nat) : Bool := Nat.beq (Nat.mod (Nat.div X (Nat.pow 2 n)) 2) 1
theorem sqf_ok : List.all (List.range 2209) (fun n => or (not (bit sqf n)) (List.all [3, 5, 7, 11, 13, 17, 19, 23, 29, 31, 37, 41, 43] fun l => not (Nat.beq (Nat.mod n (Nat.mul l l)) 0))) = true := by kernel_rfl
def cchk (p a t z q m b N : Nat) : Bool :=
  or (and (l2chk p a b N t z q m) (or (bit sqf N) (and (lchk p a b N t z 3) (and (lchk p a b N t z 5) (and (lchk p a b N t z 7) (and (lchk p a b N t z 11) (and (lchk p a b N t z 13) (and (lchk p a b N t z 17) (and (lchk p a b N t z 19) (and (lchk p a b N t z 23) (and (lchk p a b N t z 29) (and (lchk p a b N t z 31) (and (lchk p a b N t z 37) (and (lchk p a b N t z 41) (lchk p a b N t z 43)))))))))))))))
    (Nat.beq (Nat.mod (Nat.add (Nat.mul 4 (Nat.mul a (Nat.mul a a))) (Nat.mul 27 (Nat.mul b b))) p) 0)

/-- a point in one number -/
def enc (P : CP) : Nat := P.x.toNat * 4096 + P.y.toNat
theorem emr (A B p : Int) : A % p * B % p = A * B % p := by rw [Int.mul_emod, Int.emod_emod_of_dvd _ (Int.dvd_refl _), ← Int.mul_emod]
theorem rec_any (f : Nat → Bool) : ∀ n, Nat.rec (motive := fun _ => Bool) false (fun i r => or (f i) r) n = true → ∃ i, f i = true
  | 0, h => by cases h
  | n + 1, h => by
    rcases (Bool.or_eq_true _ _).mp h with k | k
    · exact ⟨n, k⟩
    · exact rec_any f n k
theorem inv_iv {p d : Nat} {u : Int} (h : u % (p : Int) = (d : Int) % p) : inv p u = ((iv p d : Nat) : Int) := by
  unfold inv
  rw [h, ← Int.natCast_emod, Int.toNat_natCast, ← Nat.pow_mod]
  rfl
theorem l2_enc {p : Nat} {x1 y1 x2 y2 k : Nat} {kk : Int} (hp2 : p ≤ 2000) (h1 : x1 < p) (h2 : x2 < p) (h3 : y1 < p) (h4 : y2 < p) (hk : kk = (k : Int)) :
    l2 p (x1 * 4096 + y1) (x2 * 4096 + y2) k = enc (lineC p ⟨x1, y1, false⟩ ⟨x2, y2, false⟩ kk) := by
  subst hk
  have e1 : (((k * k + 2 * p - (x1 + x2)) % p : Nat) : Int) = ((k : Int) * k - x1 - x2) % p := by
    rw [Int.natCast_emod, Int.natCast_sub (by omega), Int.natCast_add, Int.natCast_mul, Int.natCast_mul, Int.natCast_add]
    rw [show (k : Int) * k + ((2 : Nat) : Int) * p - ((x1 : Int) + x2) = ((k : Int) * k - x1 - x2) + (p : Int) * 2 by grind, Int.add_mul_emod_self_left]
  show (k * k + 2 * p - ((x1 * 4096 + y1) / 4096 + (x2 * 4096 + y2) / 4096)) % p * 4096 + (k * ((x1 * 4096 + y1) / 4096 + p - (k * k + 2 * p - ((x1 * 4096 + y1) / 4096 + (x2 * 4096 + y2) / 4096)) % p) + (p - (x1 * 4096 + y1) % 4096)) % p = _
  rw [show (x1 * 4096 + y1) / 4096 = x1 by omega, show (x1 * 4096 + y1) % 4096 = y1 by omega, show (x2 * 4096 + y2) / 4096 = x2 by omega]
  obtain ⟨x3, h3x⟩ : ∃ x3, (k * k + 2 * p - (x1 + x2)) % p = x3 := ⟨_, rfl⟩
  have hx3 : x3 < p := by rw [← h3x]; exact Nat.mod_lt _ (by omega)
  rw [h3x] at e1
  have e2 : (((k * (x1 + p - x3) + (p - y1)) % p : Nat) : Int) = ((k : Int) * (x1 - ((k : Int) * k - x1 - x2) % p) - y1) % p := by
    rw [← e1, Int.natCast_emod, Int.natCast_add, Int.natCast_mul, Int.natCast_sub (by omega), Int.natCast_sub (by omega), Int.natCast_add]
    rw [show (k : Int) * ((x1 : Int) + p - x3) + ((p : Int) - y1) = ((k : Int) * ((x1 : Int) - x3) - y1) + (p : Int) * (k + 1) by grind, Int.add_mul_emod_self_left]
  rw [h3x]
  unfold lineC enc
  show _ = (((k : Int) * k - x1 - x2) % p).toNat * 4096 + (((k : Int) * (x1 - ((k : Int) * k - x1 - x2) % p) - y1) % p).toNat
  rw [← e2, ← e1, Int.toNat_natCast, Int.toNat_natCast]
/-- a point's numbers -/
theorem near_nat {p : Nat} {a b : Int} {P : CP} (hP : okC p a b P) (hf : P.far = false) : ∃ x y : Nat, P = ⟨x, y, false⟩ ∧ x < p ∧ y < p := by
  obtain ⟨p1, p2, _⟩ := hP.near hf
  obtain ⟨x1, y1, f⟩ := P
  simp only at hf p1 p2
  subst hf
  obtain ⟨x1, rfl⟩ := Int.eq_ofNat_of_zero_le p1.1
  obtain ⟨y1, rfl⟩ := Int.eq_ofNat_of_zero_le p2.1
  exact ⟨x1, y1, rfl, by omega, by omega⟩
theorem dbl_enc {p a : Nat} {b : Int} (hp : 5 ≤ p) (hp2 : p ≤ 2000) (hodd : p % 2 = 1) {P : CP} (hP : okC p (a : Int) b P) (hf : P.far = false) (h0 : enc P % 4096 ≠ 0) :
    l2 p (enc P) (enc P) (kt p a (enc P)) = enc (addC p (a : Int) P P) ∧ (addC p (a : Int) P P).far = false := by
  obtain ⟨x1, y1, rfl, hx, hy⟩ := near_nat hP hf
  have c1 : enc ⟨(x1 : Int), (y1 : Int), false⟩ = x1 * 4096 + y1 := rfl
  rw [c1] at h0 ⊢
  have hy0 : y1 ≠ 0 := by omega
  have hyy : (y1 + y1) % p ≠ 0 := fun e => by
    obtain ⟨t, ht⟩ := Nat.dvd_of_mod_eq_zero e
    rcases (by omega : t = 0 ∨ t = 1 ∨ 2 ≤ t) with k | k | k
    · rw [k] at ht; omega
    · rw [k] at ht; omega
    · have := Nat.mul_le_mul (Nat.le_refl p) k; omega
  unfold addC
  rw [if_neg (by simp), if_neg (by simp)]
  simp only
  rw [if_neg (by simp), if_neg (by rw [← Int.natCast_add, ← Int.natCast_emod]; omega)]
  refine ⟨l2_enc hp2 hx hx hy hy ?_, rfl⟩
  show _ = (((3 * ((x1 * 4096 + y1) / 4096 * ((x1 * 4096 + y1) / 4096)) + a) * (2 * ((x1 * 4096 + y1) % 4096)) ^ (p - 2) % p : Nat) : Int)
  rw [show (x1 * 4096 + y1) / 4096 = x1 by omega, show (x1 * 4096 + y1) % 4096 = y1 by omega]
  rw [inv_iv (d := 2 * y1) (by rw [Int.natCast_mul]; rfl), emr]
  show ((3 : Int) * x1 * x1 + a) * (((2 * y1) ^ (p - 2) % p : Nat) : Int) % p = _
  obtain ⟨D, hD⟩ : ∃ D, (2 * y1) ^ (p - 2) = D := ⟨_, rfl⟩
  rw [hD, Int.natCast_emod, Int.natCast_emod, Int.natCast_mul, Int.natCast_add, Int.natCast_mul, Int.natCast_mul, Int.mul_emod, Int.emod_emod_of_dvd _ (Int.dvd_refl _), ← Int.mul_emod]
  congr 2
  show (3 : Int) * x1 * x1 + a = 3 * (x1 * x1) + a
  rw [Int.mul_assoc]
theorem add_enc {p a : Nat} {b : Int} (hp2 : p ≤ 2000) {P Q : CP} (hP : okC p (a : Int) b P) (hQ : okC p (a : Int) b Q) (hf : P.far = false) (hg : Q.far = false) (h0 : enc P / 4096 ≠ enc Q / 4096) :
    l2 p (enc P) (enc Q) (kc p (enc P) (enc Q)) = enc (addC p (a : Int) P Q) ∧ (addC p (a : Int) P Q).far = false := by
  obtain ⟨x1, y1, rfl, hx1, hy1⟩ := near_nat hP hf
  obtain ⟨x2, y2, rfl, hx2, hy2⟩ := near_nat hQ hg
  have c1 : enc ⟨(x1 : Int), (y1 : Int), false⟩ = x1 * 4096 + y1 := rfl
  have c2 : enc ⟨(x2 : Int), (y2 : Int), false⟩ = x2 * 4096 + y2 := rfl
  rw [c1, c2] at h0 ⊢
  have hx : x1 ≠ x2 := by omega
  unfold addC
  rw [if_neg (by simp), if_neg (by simp)]
  simp only
  rw [if_pos (by omega)]
  refine ⟨l2_enc hp2 hx1 hx2 hy1 hy2 ?_, rfl⟩
  show _ = ((((x2 * 4096 + y2) % 4096 + p - (x1 * 4096 + y1) % 4096) * ((x2 * 4096 + y2) / 4096 + p - (x1 * 4096 + y1) / 4096) ^ (p - 2) % p : Nat) : Int)
  rw [show (x1 * 4096 + y1) / 4096 = x1 by omega, show (x1 * 4096 + y1) % 4096 = y1 by omega, show (x2 * 4096 + y2) / 4096 = x2 by omega, show (x2 * 4096 + y2) % 4096 = y2 by omega]
  have e1 : ((x2 : Int) - x1) % p = ((x2 + p - x1 : Nat) : Int) % p := by
    rw [Int.natCast_sub (by omega), Int.natCast_add, show (x2 : Int) + p - x1 = (x2 : Int) - x1 + p * 1 by omega, Int.add_mul_emod_self_left]
  rw [inv_iv e1, emr]
  show ((y2 : Int) - y1) * (((x2 + p - x1) ^ (p - 2) % p : Nat) : Int) % p = _
  obtain ⟨D, hD⟩ : ∃ D, (x2 + p - x1) ^ (p - 2) = D := ⟨_, rfl⟩
  rw [hD, Int.natCast_emod, Int.natCast_emod, Int.natCast_mul, Int.natCast_sub (by omega), Int.natCast_add, Int.mul_emod, Int.emod_emod_of_dvd _ (Int.dvd_refl _), ← Int.mul_emod]
  rw [show ((y2 : Int) + p - y1) * (D : Int) = ((y2 : Int) - y1) * D + p * D by grind, Int.add_mul_emod_self_left]
theorem mb_told {p a : Nat} {b : Int} (hp : 5 ≤ p) (hp2 : p ≤ 2000) (hodd : p % 2 = 1) (G : AbG (okC p (a : Int) b) (addC p (a : Int)) farC (negC p)) {P : CP} (hP : okC p (a : Int) b P) (hf : P.far = false) (n : Nat) :
    ∀ i c, (mulC p (a : Int) c P).far = false → mb p a n (enc P) i (enc (mulC p (a : Int) c P)) = true → (mulC p (a : Int) (c * 2 ^ i + n % 2 ^ i) P).far = false
  | 0, c, hc, _ => by rwa [Nat.pow_zero, Nat.mod_one, Nat.mul_one, Nat.add_zero]
  | i + 1, c, hc, h => by
    have hm : ∀ j, okC p (a : Int) b (mulC p (a : Int) j P) := fun j => G.nmok hP j
    have h' : cond (Nat.beq (enc (mulC p (a : Int) c P) % 4096) 0) false (fo (l2 p (enc (mulC p (a : Int) c P)) (enc (mulC p (a : Int) c P)) (kt p a (enc (mulC p (a : Int) c P)))) fun d =>
      cond (Nat.beq (n / 2 ^ i % 2) 1) (cond (Nat.beq (d / 4096) (enc P / 4096)) false (fo (l2 p d (enc P) (kc p d (enc P))) (mb p a n (enc P) i))) (mb p a n (enc P) i d)) = true := h
    by_cases hz : enc (mulC p (a : Int) c P) % 4096 = 0
    · rw [hz] at h'
      cases h'
    · rw [show Nat.beq (enc (mulC p (a : Int) c P) % 4096) 0 = false from Bool.eq_false_iff.2 fun h => hz (Nat.eq_of_beq_eq_true h), cond_false, fo_eq] at h'
      obtain ⟨k1, k2⟩ := dbl_enc hp hp2 hodd (hm c) hc hz
      have e1 : addC p (a : Int) (mulC p (a : Int) c P) (mulC p (a : Int) c P) = mulC p (a : Int) (c + c) P := (G.nm_add hP c c).symm
      rw [e1] at k1 k2
      rw [k1] at h'
      have e2 : n % 2 ^ (i + 1) = n % 2 ^ i + 2 ^ i * (n / 2 ^ i % 2) := Nat.mod_pow_succ
      rcases Nat.mod_two_eq_zero_or_one (n / 2 ^ i) with hb | hb
      · rw [hb, Nat.mul_zero, Nat.add_zero] at e2
        rw [hb] at h'
        have := mb_told hp hp2 hodd G hP hf n i (c + c) k2 h'
        rw [e2, Nat.pow_succ]
        rwa [show c * (2 ^ i * 2) = (c + c) * 2 ^ i by grind]
      · rw [hb, Nat.mul_one] at e2
        rw [hb] at h'
        have h2 : cond (Nat.beq (enc (mulC p (a : Int) (c + c) P) / 4096) (enc P / 4096)) false (fo (l2 p (enc (mulC p (a : Int) (c + c) P)) (enc P) (kc p (enc (mulC p (a : Int) (c + c) P)) (enc P))) (mb p a n (enc P) i)) = true := h'
        by_cases hx : enc (mulC p (a : Int) (c + c) P) / 4096 = enc P / 4096
        · rw [hx, show Nat.beq (enc P / 4096) (enc P / 4096) = true by rw [Nat.beq_eq]] at h2
          cases h2
        · rw [show Nat.beq (enc (mulC p (a : Int) (c + c) P) / 4096) (enc P / 4096) = false from Bool.eq_false_iff.2 fun h => hx (Nat.eq_of_beq_eq_true h), cond_false, fo_eq] at h2
          obtain ⟨k3, k4⟩ := add_enc hp2 (hm (c + c)) hP k2 hf hx
          have e3 : addC p (a : Int) (mulC p (a : Int) (c + c) P) P = mulC p (a : Int) (c + c + 1) P := rfl
          rw [e3] at k3 k4
          rw [k3] at h2
          have := mb_told hp hp2 hodd G hP hf n i (c + c + 1) k4 h2
          rw [e2, Nat.pow_succ]
          rwa [show c * (2 ^ i * 2) + (n % 2 ^ i + 2 ^ i) = (c + c + 1) * 2 ^ i + n % 2 ^ i by grind]
theorem mb_whole {p a : Nat} {b : Int} (hp : 5 ≤ p) (hp2 : p ≤ 2000) (hodd : p % 2 = 1) (G : AbG (okC p (a : Int) b) (addC p (a : Int)) farC (negC p)) {P : CP} (hP : okC p (a : Int) b P) (hf : P.far = false) {n : Nat} (hn : 0 < n)
    (h : mb p a n (enc P) (Nat.log2 n) (enc P) = true) : mulC p (a : Int) n P ≠ farC := by
  have e1 : mulC p (a : Int) 1 P = P := G.nm_one hP
  have h1 := mb_told hp hp2 hodd G hP hf n (Nat.log2 n) 1 (by rw [e1]; exact hf) (by rw [e1]; exact h)
  have l1 : n < 2 ^ (Nat.log2 n + 1) := Nat.lt_log2_self
  have l2 : 2 ^ Nat.log2 n ≤ n := Nat.log2_self_le (by omega)
  rw [Nat.pow_succ] at l1
  have e2 : n % 2 ^ Nat.log2 n = n - 2 ^ Nat.log2 n := by rw [Nat.mod_eq_sub_mod l2, Nat.mod_eq_of_lt (by omega)]
  rw [e2, show 1 * 2 ^ Nat.log2 n + (n - 2 ^ Nat.log2 n) = n by omega] at h1
  intro e
  rw [e] at h1
  cases h1

/-- a point that K does not kill -/
def Wit (p : Nat) (a b : Int) (K : Nat) : Prop := ∃ P, okC p a b P ∧ mulC p a K P ≠ farC
theorem wit_told {p a b K t z : Nat} (hp : 5 ≤ p) (hp2 : p ≤ 2000) (hodd : p % 2 = 1) (G : AbG (okC p (a : Int) (b : Int)) (addC p (a : Int)) farC (negC p)) (hK : 0 < K) (h : wit p a b K t z = true) : Wit p (a : Int) (b : Int) K := by
  have one : ∀ x, try1 p a b K t z x = true → Wit p (a : Int) (b : Int) K := by
    intro x h
    unfold try1 at h
    rw [fo_eq, Bool.and_eq_true] at h
    obtain ⟨_, h⟩ := h
    rw [fo_eq] at h
    simp only [Bool.and_eq_true, fo_eq] at h
    obtain ⟨h1, h2, h3, h4⟩ := h
    generalize sr p _ z 160 _ = y at h1 h2 h4
    have e1 : y * y % p = (x * (x * x + a) + b) % p := Nat.eq_of_beq_eq_true h1
    have e2 : y + 1 ≤ p := Nat.le_of_ble_eq_true h2
    have e3 : x + 1 ≤ p := Nat.le_of_ble_eq_true h3
    have hok : okC p (a : Int) (b : Int) ⟨(x : Int), (y : Int), false⟩ := by
      unfold okC
      rw [if_neg (by simp)]
      refine ⟨⟨by show (0 : Int) ≤ (x : Int); omega, by show (x : Int) < p; omega⟩, ⟨by show (0 : Int) ≤ (y : Int); omega, by show (y : Int) < p; omega⟩, ?_⟩
      show (y : Int) * (y : Int) % p = ((x : Int) * x * x + (a : Int) * x + (b : Int)) % p
      rw [← Int.natCast_mul, ← Int.natCast_emod, e1, Int.natCast_emod, Int.natCast_add, Int.natCast_mul, Int.natCast_add, Int.natCast_mul]
      congr 1
      grind
    exact ⟨_, hok, mb_whole hp hp2 hodd G hok rfl hK h4⟩
  obtain ⟨i, hi⟩ := rec_any (try1 p a b K t z) p h
  exact one i hi

/-- what is asked of a curve -/
def Cond (p : Nat) (a b : Int) (N : Nat) : Prop := ∀ l, Pr l → ∃ c, l ^ c ∣ p - 1 ∧ ((l ^ (c + c) ∣ N ∧ ¬ l ^ (c + 2) ∣ N) ∨ (l = 2 ∧ ¬ l ^ (c + c + 2) ∣ N) ∨ ((l = 2 ∨ l ^ (c + c) ∣ N) ∧ Wit p a b (N / l ^ (c + 1))))
theorem lgo_told {p a b N t z l : Nat} (hp : 5 ≤ p) (hp2 : p ≤ 2000) (hodd : p % 2 = 1) (G : AbG (okC p (a : Int) (b : Int)) (addC p (a : Int)) farC (negC p)) (hl : 2 ≤ l) (hN0 : 0 < N) :
    ∀ fuel c, l ^ c ∣ p - 1 → l ^ (c + c) ∣ N → lgo p a b N t z l fuel (l ^ c) = true → ∃ c, l ^ c ∣ p - 1 ∧ l ^ (c + c) ∣ N ∧ (¬ l ^ (c + 2) ∣ N ∨ Wit p (a : Int) (b : Int) (N / l ^ (c + 1)))
  | 0, c, _, _, h => by cases h
  | fuel + 1, c, h1, h2, h => by
    have h' : cond (and (Nat.beq ((p - 1) % (l ^ c * l)) 0) (Nat.beq (N % ((l ^ c * l) * (l ^ c * l))) 0)) (fo (l ^ c * l) (lgo p a b N t z l fuel))
      (cond (Nat.beq (N % (l ^ c * l * l)) 0) (fo (N / (l ^ c * l)) fun K => wit p a b K t z) true) = true := h
    rw [← Nat.pow_succ, fo_eq, fo_eq] at h'
    cases hc : and (Nat.beq ((p - 1) % l ^ (c + 1)) 0) (Nat.beq (N % (l ^ (c + 1) * l ^ (c + 1))) 0)
    · rw [hc] at h'
      refine ⟨c, h1, h2, ?_⟩
      rw [show c + 2 = (c + 1) + 1 by omega, Nat.pow_succ l (c + 1)]
      by_cases hd : N % (l ^ (c + 1) * l) = 0
      · right
        have h3 : cond (Nat.beq (N % (l ^ (c + 1) * l)) 0) (wit p a b (N / l ^ (c + 1)) t z) true = true := h'
        rw [hd] at h3
        refine wit_told hp hp2 hodd G ?_ h3
        have h4 := Nat.le_of_dvd hN0 (Nat.dvd_of_mod_eq_zero hd)
        have h5 := Nat.mul_le_mul (Nat.le_refl (l ^ (c + 1))) hl
        have h6 : 0 < l ^ (c + 1) := Nat.pow_pos (by omega)
        exact Nat.div_pos (by omega) h6
      · left
        exact fun hd' => hd (Nat.mod_eq_zero_of_dvd hd')
    · rw [hc] at h'
      rw [Bool.and_eq_true] at hc
      refine lgo_told hp hp2 hodd G hl hN0 fuel (c + 1) (Nat.dvd_of_mod_eq_zero (Nat.eq_of_beq_eq_true hc.1)) ?_ h'
      rw [Nat.pow_add]
      exact Nat.dvd_of_mod_eq_zero (Nat.eq_of_beq_eq_true hc.2)
theorem pr_two : Pr 2 := ⟨by omega, fun d hd => by
  have := Nat.le_of_dvd (by omega) hd
  rcases (by omega : d = 0 ∨ d = 1 ∨ d = 2) with h | h | h
  · subst h; have := Nat.eq_zero_of_zero_dvd hd; omega
  · exact .inl h
  · exact .inr h⟩
theorem two_part (n : Nat) : ∃ c, Nat.gcd n 1024 = 2 ^ c := by
  have hg : 0 < Nat.gcd n 1024 := Nat.gcd_pos_of_pos_right n (by omega)
  obtain ⟨t, y, e, hy⟩ := strip (l := 2) (by omega) (Nat.gcd n 1024) hg
  have h1 : y ∣ 2 ^ 10 := Nat.dvd_trans ⟨2 ^ t, by rw [e, Nat.mul_comm]⟩ (Nat.gcd_dvd_right n 1024)
  have h2 := Nat.gcd_eq_right h1
  rw [pr_pow_cop pr_two hy 10] at h2
  exact ⟨t, by rw [e, ← h2, Nat.mul_one]⟩
theorem cchk_told {p a b N t z q m : Nat} (hp : 5 ≤ p) (hp2 : p ≤ 2000) (hP : Pr p) (hN0 : 0 < N) (hN : N < 2209) (hq : q = Nat.gcd (p - 1) 1024) (hm : m = 4 * q * q) (hd : (4 * (a : Int) * a * a + 27 * (b : Int) * b) % (p : Int) ≠ 0) (h : cchk p a t z q m b N = true) : Cond p (a : Int) (b : Int) N := by
  have hne : NeZero p := ⟨by omega⟩
  have G := curve_group hP hp hd
  have hodd : p % 2 = 1 := by
    rcases Nat.mod_two_eq_zero_or_one p with h | h
    · rcases hP.2 2 (Nat.dvd_of_mod_eq_zero h) with k | k <;> omega
    · exact h
  unfold cchk at h
  rcases (Bool.or_eq_true _ _).mp h with h | h
  · rw [Bool.and_eq_true] at h
    obtain ⟨h2, h⟩ := h
    intro l hl
    by_cases hl2 : l = 2
    · subst hl2
      obtain ⟨c, hc⟩ := two_part (p - 1)
      rw [hc] at hq
      refine ⟨c, by rw [← hc]; exact Nat.gcd_dvd_left _ _, .inr ?_⟩
      by_cases hz : N % m = 0
      · right
        refine ⟨.inl rfl, ?_⟩
        have h3 : cond (Nat.beq (N % m) 0) (fo (N / (q * 2)) fun K => wit p a b K t z) true = true := h2
        rw [hz, fo_eq, hq, ← Nat.pow_succ] at h3
        refine wit_told hp hp2 hodd G ?_ h3
        have h4 := Nat.le_of_dvd hN0 (Nat.dvd_of_mod_eq_zero hz)
        have h5 : 2 ^ (c + 1) ≤ m := by
          rw [hm, hq, Nat.pow_succ]
          have h6 : 0 < 2 ^ c := Nat.pow_pos (by omega)
          have h7 := Nat.mul_le_mul (Nat.le_refl (4 * 2 ^ c)) h6
          omega
        exact Nat.div_pos (by omega) (Nat.pow_pos (by omega))
      · left
        refine ⟨rfl, fun hd => hz (Nat.mod_eq_zero_of_dvd ?_)⟩
        rw [hm, hq]
        rwa [show c + c + 2 = 2 + c + c by omega, Nat.pow_add, Nat.pow_add] at hd
    · have zero_case : N % (l * l) ≠ 0 → ∃ c, l ^ c ∣ p - 1 ∧ ((l ^ (c + c) ∣ N ∧ ¬ l ^ (c + 2) ∣ N) ∨ (l = 2 ∧ ¬ l ^ (c + c + 2) ∣ N) ∨ ((l = 2 ∨ l ^ (c + c) ∣ N) ∧ Wit p (a : Int) (b : Int) (N / l ^ (c + 1)))) := fun hz =>
        ⟨0, by simp, .inl ⟨by simp, fun hc => hz (by rw [Nat.zero_add, Nat.pow_two] at hc; exact Nat.mod_eq_zero_of_dvd hc)⟩⟩
      by_cases h47 : 47 ≤ l
      · refine zero_case fun hz => ?_
        have h1 := Nat.le_of_dvd hN0 (Nat.dvd_of_mod_eq_zero hz)
        have h2 := Nat.mul_le_mul h47 h47
        omega
      · have hmem : l ∈ [3, 5, 7, 11, 13, 17, 19, 23, 29, 31, 37, 41, 43] := by
          have key : ∀ l, l < 47 → 3 ≤ l → (∀ d, d < l → d ∣ l → d = 1) → l ∈ [3, 5, 7, 11, 13, 17, 19, 23, 29, 31, 37, 41, 43] := by decide
          exact key l (by omega) (by have := hl.1; omega) fun d h1 h2 => (hl.2 d h2).resolve_right (by omega)
        rcases (Bool.or_eq_true _ _).mp h with h | h
        · have h1 := List.all_eq_true.1 sqf_ok N (List.mem_range.2 hN)
          rcases (Bool.or_eq_true _ _).mp h1 with h1 | h1
          · rw [h] at h1; cases h1
          · have h3 := List.all_eq_true.1 h1 l hmem
            refine zero_case fun hz => ?_
            have h4 : (!Nat.beq (N % (l * l)) 0) = true := h3
            rw [hz] at h4
            cases h4
        · have h1 : lchk p a b N t z l = true := by
            simp only [Bool.and_eq_true] at h
            obtain ⟨k1, k2, k3, k4, k5, k6, k7, k8, k9, k10, k11, k12, k13⟩ := h
            simp only [List.mem_cons, List.not_mem_nil, or_false] at hmem
            rcases hmem with rfl | rfl | rfl | rfl | rfl | rfl | rfl | rfl | rfl | rfl | rfl | rfl | rfl <;> assumption
          unfold lchk at h1
          by_cases hz : N % (l * l) = 0
          · have h3 : cond (Nat.beq (N % (l * l)) 0) (lgo p a b N t z l 7 1) true = true := h1
            rw [hz] at h3
            obtain ⟨c, c1, c2, c3⟩ := lgo_told hp hp2 hodd G hl.1 hN0 7 0 (by simp) (by simp) h3
            refine ⟨c, c1, ?_⟩
            rcases c3 with c3 | c3
            · exact .inl ⟨c2, c3⟩
            · exact .inr (.inr ⟨.inr c2, c3⟩)
          · exact zero_case hz
  · refine absurd ?_ hd
    have e : (4 * (a * (a * a)) + 27 * (b * b)) % p = 0 := Nat.eq_of_beq_eq_true h
    have e2 : (((4 * (a * (a * a)) + 27 * (b * b)) % p : Nat) : Int) = 0 := by rw [e]; rfl
    rw [Int.natCast_emod, Int.natCast_add, Int.natCast_mul, Int.natCast_mul, Int.natCast_mul, Int.natCast_mul, Int.natCast_mul] at e2
    rw [← e2]
    congr 1
    show _ = (4 : Int) * _ + 27 * _
    grind
end SH
end Go.Proofs.YtofjmnodfabohaaGreatDoor

namespace Go.Proofs.YtofjmnodfabohaaGreatDoor
open CV
namespace SH
open HS

/-- f at each digit -/
def tr (f : Nat → Nat → Bool) (K : Nat) : Nat → Nat → Bool :=
  Nat.rec (motive := fun _ => Nat → Nat → Bool) f (fun i ih k m => and (ih k (Nat.mod m (Nat.pow 16777216 (Nat.pow 2 i)))) (ih (Nat.add k (Nat.pow 2 i)) (Nat.div m (Nat.pow 16777216 (Nat.pow 2 i))))) K
theorem tr_told {f : Nat → Nat → Bool} : ∀ {K k : Nat} {D : Nat → Nat}, (∀ j, j < 2 ^ K → D j < 16777216) → tr f K k (dg 16777216 D (2 ^ K)) = true → ∀ j, j < 2 ^ K → f (k + j) (D j) = true
  | 0, k, D, _, h, j, hj => by
    have hj0 : j = 0 := by simpa using hj
    subst hj0
    have h' : f k (dg 16777216 D (2 ^ 0)) = true := h
    have e : dg 16777216 D (2 ^ 0) = D 0 := by
      show 0 + D 0 * 16777216 ^ 0 = D 0
      omega
    rwa [e] at h'
  | K + 1, k, D, hD, h, j, hj => by
    have h2 : 2 ^ (K + 1) = 2 ^ K + 2 ^ K := by rw [Nat.pow_succ]; omega
    have hs := dg_split 16777216 D (2 ^ K) (2 ^ K)
    rw [← h2] at hs
    have hl := dg_lt (T := 16777216) (by omega) (D := D) (n := 2 ^ K) fun j hj => hD j (by omega)
    have h' : and (tr f K k (dg 16777216 D (2 ^ (K + 1)) % 16777216 ^ 2 ^ K)) (tr f K (k + 2 ^ K) (dg 16777216 D (2 ^ (K + 1)) / 16777216 ^ 2 ^ K)) = true := h
    rw [hs, Nat.add_mul_mod_self_left, Nat.mod_eq_of_lt hl, Nat.add_mul_div_left _ _ (Nat.pow_pos (by omega)), Nat.div_eq_of_lt hl, Nat.zero_add, Bool.and_eq_true] at h'
    by_cases hjk : j < 2 ^ K
    · exact tr_told (fun j hj => hD j (by omega)) h'.1 j hjk
    · have := tr_told (D := fun j => D (2 ^ K + j)) (fun j hj => hD (2 ^ K + j) (by omega)) h'.2 (j - 2 ^ K) (by omega)
      rwa [show k + 2 ^ K + (j - 2 ^ K) = k + j by omega, show 2 ^ K + (j - 2 ^ K) = j by omega] at this

def sleaf (p a t z q m h k d : Nat) : Bool :=
  cond (Nat.blt k p) (fo (Nat.sub (Nat.sub p 1) k) fun b => cond (Nat.ble b h) (fo (Nat.succ d) fun N => and (Nat.blt N 2209) (cchk p a t z q m b N)) true) true
def prd (p G a : Nat) : Nat := Nat.mod (Nat.mul (bs (leafx p a) p 11) G) (Nat.sub (Nat.pow 16777216 p) 1)
def sA (p t z q m h G a : Nat) : Bool := tr (sleaf p a t z q m h) (Nat.succ (Nat.log2 p)) 0 (prd p G a)
def s0 (p g t z q m M : Nat) : Bool :=
  List.all [0, 1, 2, 3, 4, 5] fun r => fo (Nat.mod (Nat.pow g r) p) fun b => fo (Nat.succ (Nat.mod (Nat.div M (Nat.pow 16777216 (Nat.sub (Nat.sub p 1) b))) 16777216)) fun N => and (Nat.blt N 2209) (cchk p 0 t z q m b N)
def schk1 (p g t z q m h G : Nat) : Bool :=
  and (s0 p g t z q m (prd p G 0)) (and (sA p t z q m h G 1) (and (sA p t z q m h G g)
    (cond (Nat.beq (Nat.mod p 4) 3) true (fo (Nat.mod (Nat.mul g g) p) fun a => and (sA p t z q m h G a) (fo (Nat.mod (Nat.mul g a) p) fun a => sA p t z q m h G a)))))
/-- t the odd part of p - 1, z = g^t, q the greatest power of two in p - 1, m = 4 q q, h: up to which b is looked -/
def schk (p g t z h q m : Nat) : Bool :=
  and (Nat.beq q (Nat.gcd (Nat.sub p 1) 1024)) (and (Nat.beq m (Nat.mul (Nat.mul 4 q) q)) (and (Nat.beq h (cond (Nat.beq (Nat.mod p 4) 1) (Nat.div p 2) p))
    (schk1 p g t z q m h (bs (leafy p) p 11))))

theorem prd_eq {p a : Nat} (hp : 5 ≤ p) (hp2 : p ≤ 2000) : prd p (bs (leafy p) p 11) a = dg 16777216 (cc (ux p a) (vy p) p p) p := by
  have hpp : p * p ≤ 4000000 := Nat.mul_le_mul hp2 hp2
  have hb : p < 2 ^ 11 := by omega
  rw [← prod_cc (by omega) (by omega)]
  unfold prd
  rw [bs_eq _ hb, bs_eq _ hb]
  rfl
def Fine (p a b : Nat) : Prop := (4 * (a : Int) * a * a + 27 * (b : Int) * b) % (p : Int) ≠ 0 → Cond p (a : Int) (b : Int) (ptsC p (a : Int) (b : Int)).length
theorem sA_told {p t z q m h a : Nat} (hp : 5 ≤ p) (hp2 : p ≤ 2000) (hP : Pr p) (hq : q = Nat.gcd (p - 1) 1024) (hm : m = 4 * q * q) (hs : sA p t z q m h (bs (leafy p) p 11) a = true) {b : Nat} (hb : b < p) (hbh : b ≤ h) : Fine p a b := by
  intro hd
  have hpp : p * p ≤ 4000000 := Nat.mul_le_mul hp2 hp2
  unfold sA at hs
  rw [prd_eq hp hp2] at hs
  have hK : p < 2 ^ (Nat.log2 p + 1) := Nat.lt_log2_self
  obtain ⟨D, hD⟩ : ∃ D : Nat → Nat, ∀ j, D j = if j < p then cc (ux p a) (vy p) p p j else 0 := ⟨_, fun j => rfl⟩
  have e : dg 16777216 (cc (ux p a) (vy p) p p) p = dg 16777216 D (2 ^ (Nat.log2 p + 1)) := by
    obtain ⟨r, hr⟩ : ∃ r, 2 ^ (Nat.log2 p + 1) = p + r := ⟨2 ^ (Nat.log2 p + 1) - p, by omega⟩
    rw [hr, dg_split]
    have e1 : dg 16777216 (fun k => D (p + k)) r = 0 := by
      unfold dg
      rw [sm_congr (g := fun _ => 0) fun k _ => (show D (p + k) * 16777216 ^ k = 0 by rw [hD, if_neg (by omega), Nat.zero_mul]), sm_zero]
    have e2 : dg 16777216 D p = dg 16777216 (cc (ux p a) (vy p) p p) p := by
      unfold dg
      exact sm_congr fun k hk => (show D k * 16777216 ^ k = cc (ux p a) (vy p) p p k * 16777216 ^ k by rw [hD, if_pos hk])
    rw [e1, e2, Nat.mul_zero, Nat.add_zero]
  rw [e] at hs
  have h1 := tr_told (fun j _ => by
    rw [hD]
    have := cc_le (ux p a) (vy p) p p j
    split <;> omega) hs (p - 1 - b) (by omega)
  rw [hD, if_pos (by omega), Nat.zero_add] at h1
  unfold sleaf at h1
  rw [show Nat.blt (p - 1 - b) p = true from Nat.ble_eq_true_of_le (by omega)] at h1
  simp only [cond_true, fo_eq] at h1
  rw [show Nat.sub (Nat.sub p 1) (p - 1 - b) = b from (show p - 1 - (p - 1 - b) = b by omega), show Nat.ble b h = true from Nat.ble_eq_true_of_le hbh, cond_true, Bool.and_eq_true] at h1
  have hN : cc (ux p a) (vy p) p p (p - 1 - b) + 1 + 1 ≤ 2209 := Nat.le_of_ble_eq_true h1.1
  rw [len_cc hb, Nat.add_comm 1]
  exact cchk_told hp hp2 hP (by omega) (by omega) hq hm hd h1.2
theorem s0_told {p g t z q m : Nat} (hp : 5 ≤ p) (hp2 : p ≤ 2000) (hP : Pr p) (hq : q = Nat.gcd (p - 1) 1024) (hm : m = 4 * q * q) (hs : s0 p g t z q m (prd p (bs (leafy p) p 11) 0) = true) {r : Nat} (hr : r < 6) : Fine p 0 (g ^ r % p) := by
  intro hd
  have hpp : p * p ≤ 4000000 := Nat.mul_le_mul hp2 hp2
  have hb : g ^ r % p < p := Nat.mod_lt _ (by omega)
  have h1 := List.all_eq_true.1 hs r (by simp; omega)
  rw [prd_eq hp hp2] at h1
  simp only [fo_eq] at h1
  have h2 : and (Nat.blt (dg 16777216 (cc (ux p 0) (vy p) p p) p / 16777216 ^ (p - 1 - g ^ r % p) % 16777216 + 1) 2209) (cchk p 0 t z q m (g ^ r % p) (dg 16777216 (cc (ux p 0) (vy p) p p) p / 16777216 ^ (p - 1 - g ^ r % p) % 16777216 + 1)) = true := h1
  rw [dg_at (by omega) (fun j _ => by have := cc_le (ux p 0) (vy p) p p j; omega) (by omega), Bool.and_eq_true] at h2
  have hN : cc (ux p 0) (vy p) p p (p - 1 - g ^ r % p) + 1 + 1 ≤ 2209 := Nat.le_of_ble_eq_true h2.1
  have e := len_cc (a := 0) hb
  rw [e, Nat.add_comm 1]
  exact cchk_told hp hp2 hP (by omega) (by omega) hq hm hd h2.2

/-- what the check of a prime tells -/
structure STold (p g : Nat) : Prop where
  z : ∀ r, r < 6 → Fine p 0 (g ^ r % p)
  two : ∀ r, r < 2 → ∀ b, b < p → (p % 4 = 1 → b ≤ p / 2) → ∃ a, a % p = g ^ r % p ∧ Fine p a b
  four : p % 4 = 1 → ∀ r, r < 4 → ∀ b, b < p → b ≤ p / 2 → ∃ a, a % p = g ^ r % p ∧ Fine p a b
theorem schk_told {p g t z h q m : Nat} (hp : 5 ≤ p) (hp2 : p ≤ 2000) (hP : Pr p) (hs : schk p g t z h q m = true) : STold p g := by
  unfold schk at hs
  rw [Bool.and_eq_true, Bool.and_eq_true, Bool.and_eq_true] at hs
  obtain ⟨hq, hm, hhh, hs⟩ := hs
  have hq : q = Nat.gcd (p - 1) 1024 := Nat.eq_of_beq_eq_true hq
  have hm : m = 4 * q * q := Nat.eq_of_beq_eq_true hm
  have hhh : h = cond (Nat.beq (p % 4) 1) (p / 2) p := Nat.eq_of_beq_eq_true hhh
  unfold schk1 at hs
  simp only [fo_eq, Bool.and_eq_true] at hs
  obtain ⟨h0, h1, h2, h3⟩ := hs
  have hh : ∀ b, b < p → (p % 4 = 1 → b ≤ p / 2) → b ≤ h := by
    intro b hb hb2
    rw [hhh]
    cases hc : Nat.beq (p % 4) 1
    · show b ≤ p
      omega
    · exact hb2 (Nat.eq_of_beq_eq_true hc)
  have two : ∀ r, r < 2 → ∀ b, b < p → (p % 4 = 1 → b ≤ p / 2) → ∃ a, a % p = g ^ r % p ∧ Fine p a b := by
    intro r hr b hb hb2
    match r, hr with
    | 0, _ => exact ⟨1, by simp, sA_told hp hp2 hP hq hm h1 hb (hh b hb hb2)⟩
    | 1, _ => exact ⟨g, by simp, sA_told hp hp2 hP hq hm h2 hb (hh b hb hb2)⟩
    | r + 2, hr => exact absurd hr (by omega)
  refine ⟨fun r hr => s0_told hp hp2 hP hq hm h0 hr, two, fun h4 r hr b hb hb2 => ?_⟩
  have hne : Nat.beq (Nat.mod p 4) 3 = false := Bool.eq_false_iff.2 fun hc => by
    have : p % 4 = 3 := Nat.eq_of_beq_eq_true hc
    omega
  rw [hne] at h3
  have h3' : and _ _ = true := h3
  rw [Bool.and_eq_true] at h3'
  match r, hr with
  | 0, _ => exact two 0 (by omega) b hb fun _ => hb2
  | 1, _ => exact two 1 (by omega) b hb fun _ => hb2
  | 2, _ => exact ⟨g * g % p, by rw [Nat.mod_mod, Nat.pow_two], sA_told hp hp2 hP hq hm h3'.1 hb (hh b hb fun _ => hb2)⟩
  | 3, _ => exact ⟨g * (g * g % p) % p, by rw [Nat.mod_mod, Nat.mul_mod, Nat.mod_mod, ← Nat.mul_mod, Nat.pow_succ, Nat.pow_two, Nat.mul_comm], sA_told hp hp2 hP hq hm h3'.2 hb (hh b hb fun _ => hb2)⟩
  | r + 4, hr => exact absurd hr (by omega)
end SH
end Go.Proofs.YtofjmnodfabohaaGreatDoor

namespace Go.Proofs.YtofjmnodfabohaaGreatDoor
open CV
namespace SH
open HS

section
variable {p : Nat} [NeZero p]
def sc (u : Fin p) : Pt p → Pt p
  | .far => .far
  | .at x y => .at (u * u * x) (u * u * u * y)
theorem sc_c2 {w u x y : Fin p} (h : w * u = 1) (k : u * u * x = u * u * y) : x = y := by
  have e : ∀ z : Fin p, z = w * u * (w * u) * z := fun z => by rw [h]; grind only
  rw [e x, e y, show w * u * (w * u) * x = w * w * (u * u * x) by grind only, show w * u * (w * u) * y = w * w * (u * u * y) by grind only, k]
theorem sc_c3 {w u z : Fin p} (h : w * u = 1) (k : u * u * u * z = 0) : z = 0 := by
  have e : z = w * u * (w * u) * (w * u) * z := by rw [h]; grind only
  rw [e, show w * u * (w * u) * (w * u) * z = w * w * w * (u * u * u * z) by grind only, k]
  grind only
theorem sc_s1 {u k x1 x2 y1 y2 : Fin p} (h : k * (x2 - x1) = y2 - y1) : u * k * (u * u * x2 - u * u * x1) = u * u * u * y2 - u * u * u * y1 := by grind only
theorem sc_s2 {a u k x1 x2 y1 y2 : Fin p} (h : k * (y1 + y2) = x1 * x1 + x1 * x2 + x2 * x2 + a) : u * k * (u * u * u * y1 + u * u * u * y2) = u * u * x1 * (u * u * x1) + u * u * x1 * (u * u * x2) + u * u * x2 * (u * u * x2) + a * (u * u * u * u) := by grind only
theorem sc_x {u k x1 x2 x3 : Fin p} (h : x3 = k * k - x1 - x2) : u * u * x3 = u * k * (u * k) - u * u * x1 - u * u * x2 := by grind only
theorem sc_y {u k x1 y1 x3 y3 : Fin p} (h : y3 = k * (x1 - x3) - y1) : u * u * u * y3 = u * k * (u * u * x1 - u * u * x3) - u * u * u * y1 := by grind only
theorem sc_o {u y y' : Fin p} (h : y + y' = 0) : u * u * u * y + u * u * u * y' = 0 := by grind only
theorem sc_d {u y y' : Fin p} : u * u * u * y + u * u * u * y' = u * u * u * (y + y') := by grind only
theorem sum_sc {w u a : Fin p} (h : w * u = 1) {P Q R : Pt p} (s : Sum a P Q R) : Sum (a * (u * u * u * u)) (sc u P) (sc u Q) (sc u R) := by
  cases s with
  | farL => exact .farL _
  | farR => exact .farR _
  | opp x y y' e => exact .opp _ _ _ (sc_o e)
  | line x1 y1 x2 y2 k x3 y3 hs hn hx hy =>
    refine .line _ _ _ _ (u * k) _ _ ⟨sc_s1 hs.1, sc_s2 hs.2⟩ (fun hc => hn ⟨sc_c2 h hc.1, sc_c3 h ?_⟩) (sc_x hx) (sc_y hy)
    rw [← sc_d]
    exact hc.2
end

def phC (p : Nat) (u : Int) (P : CP) : CP := if P.far = true then farC else ⟨u * u * P.x % p, u * u * u * P.y % p, false⟩
theorem phC_ok {p : Nat} (hp : 0 < p) {a b a' b' u : Int} (ha : Cg p a' (a * (u * u * u * u))) (hb : Cg p b' (b * (u * u * u * u * u * u))) {P : CP} (hP : okC p a b P) : okC p a' b' (phC p u P) := by
  unfold phC
  cases hf : P.far
  · obtain ⟨p1, p2, p3⟩ := hP.near hf
    simp only [Bool.false_eq_true, if_false]
    unfold okC
    rw [if_neg (by simp)]
    have hp' : (0 : Int) < p := by omega
    refine ⟨⟨Int.emod_nonneg _ (by omega), Int.emod_lt_of_pos _ hp'⟩, ⟨Int.emod_nonneg _ (by omega), Int.emod_lt_of_pos _ hp'⟩, ?_⟩
    have cx := Cg.of p (u * u * P.x)
    have cy := Cg.of p (u * u * u * P.y)
    have c1 : Cg p (u * u * u * P.y % p * (u * u * u * P.y % p)) (u * u * u * (u * u * u) * (P.y * P.y)) := by
      rw [show u * u * u * (u * u * u) * (P.y * P.y) = u * u * u * P.y * (u * u * u * P.y) by grind]
      exact cy.mul cy
    have c2 : Cg p (u * u * u * (u * u * u) * (P.y * P.y)) (u * u * u * (u * u * u) * (P.x * P.x * P.x + a * P.x + b)) := (Cg.refl _).mul p3
    have c3 : Cg p (u * u * P.x % p * (u * u * P.x % p) * (u * u * P.x % p) + a' * (u * u * P.x % p) + b') (u * u * u * (u * u * u) * (P.x * P.x * P.x + a * P.x + b)) := by
      rw [show u * u * u * (u * u * u) * (P.x * P.x * P.x + a * P.x + b) = u * u * P.x * (u * u * P.x) * (u * u * P.x) + a * (u * u * u * u) * (u * u * P.x) + b * (u * u * u * u * u * u) by grind]
      exact (((cx.mul cx).mul cx).add (ha.mul cx)).add hb
    exact (c1.trans c2).trans c3.symm
  · simp only [if_true]
    exact okC_far
theorem phC_pt {p : Nat} [NeZero p] (u : Int) (P : CP) : pt p (phC p u P) = sc (fi p u) (pt p P) := by
  unfold phC
  cases hf : P.far
  · simp only [Bool.false_eq_true, if_false]
    rw [pt_near rfl, pt_near hf]
    show Pt.at (fi p (u * u * P.x % p)) (fi p (u * u * u * P.y % p)) = Pt.at _ _
    rw [fi_mod, fi_mod, fi_mul, fi_mul, fi_mul, fi_mul, fi_mul]
  · simp only [if_true]
    rw [pt_far hf, pt_far (show farC.far = true from rfl)]
    rfl
theorem phC_add {p : Nat} (hP : Pr p) (hp : 5 ≤ p) {a b a' b' u w : Int} (hw : Cg p (w * u) 1) (ha : Cg p a' (a * (u * u * u * u))) (hb : Cg p b' (b * (u * u * u * u * u * u))) {P Q : CP} (kP : okC p a b P) (kQ : okC p a b Q) :
    phC p u (addC p a P Q) = addC p a' (phC p u P) (phC p u Q) := by
  have hne : NeZero p := ⟨by omega⟩
  have F := fld_of hP hp
  have oP := phC_ok (by omega) ha hb kP
  have oQ := phC_ok (by omega) ha hb kQ
  have s1 := addC_sum hP hp oP oQ
  have s2 := sum_sc (w := fi p w) (u := fi p u) (by rw [← fi_mul, ← fi_lit1]; exact fi_iff.2 hw) (addC_sum hP hp kP kQ)
  have ea : fi p a' = fi p a * (fi p u * fi p u * fi p u * fi p u) := by
    rw [← fi_mul, ← fi_mul, ← fi_mul, ← fi_mul]
    exact fi_iff.2 ha
  rw [← ea, ← phC_pt, ← phC_pt, ← phC_pt] at s2
  exact pt_inj (phC_ok (by omega) ha hb (addC_ok hP hp kP kQ)) (addC_ok hP hp oP oQ) (s2.one F s1)
theorem phC_mul {p : Nat} (hP : Pr p) (hp : 5 ≤ p) {a b a' b' u w : Int} (G : AbG (okC p a b) (addC p a) farC (negC p)) (hw : Cg p (w * u) 1) (ha : Cg p a' (a * (u * u * u * u))) (hb : Cg p b' (b * (u * u * u * u * u * u))) {P : CP} (kP : okC p a b P) :
    ∀ k, phC p u (mulC p a k P) = mulC p a' k (phC p u P)
  | 0 => rfl
  | k + 1 => by
    show phC p u (addC p a (mulC p a k P) P) = addC p a' (mulC p a' k (phC p u P)) (phC p u P)
    rw [phC_add hP hp hw ha hb (show okC p a b (mulC p a k P) from G.nmok kP k) kP, phC_mul hP hp G hw ha hb kP k]
theorem Cond.scale {p : Nat} (hP : Pr p) (hp : 5 ≤ p) {a b a' b' u w : Int} (G : AbG (okC p a b) (addC p a) farC (negC p)) (hw : Cg p (w * u) 1) (ha : Cg p a' (a * (u * u * u * u))) (hb : Cg p b' (b * (u * u * u * u * u * u))) {N : Nat} (h : Cond p a b N) : Cond p a' b' N := by
  intro l hl
  obtain ⟨c, h1, h3⟩ := h l hl
  refine ⟨c, h1, h3.imp_right fun h => h.imp_right fun h => h.imp_right fun ⟨P, kP, hk⟩ => ⟨phC p u P, phC_ok (by omega) ha hb kP, fun e => hk ?_⟩⟩
  rw [← phC_mul hP hp G hw ha hb kP] at e
  have hok : okC p a b (mulC p a (N / l ^ (c + 1)) P) := G.nmok kP _
  refine hok.isfar ?_
  cases hf : (mulC p a (N / l ^ (c + 1)) P).far
  · unfold phC at e
    rw [if_neg (by rw [hf]; simp)] at e
    have := congrArg CP.far e
    cases this
  · rfl

theorem cub1 {p : Nat} [NeZero p] {A B x y : Fin p} (hx : x * x * x + A * x + B = 0) (hy : y * y * y + A * y + B = 0) : (x - y) * (x * x + x * y + y * y + A) = 0 := by grind only
theorem cub2 {p : Nat} [NeZero p] {A x y z : Fin p} (hy : x * x + x * y + y * y + A = 0) (hz : x * x + x * z + z * z + A = 0) : (y - z) * (x + y + z) = 0 := by grind only
theorem cub3 {p : Nat} [NeZero p] {x y z w : Fin p} (hz : x + y + z = 0) (hw : x + y + w = 0) : z = w := by grind only
theorem four_roots {p : Nat} [NeZero p] (F : Fld p) {A B : Fin p} {x y z w : Fin p} (hx : x * x * x + A * x + B = 0) (hy : y * y * y + A * y + B = 0) (hz : z * z * z + A * z + B = 0) (hw : w * w * w + A * w + B = 0)
    (xy : x ≠ y) (xz : x ≠ z) (xw : x ≠ w) (yz : y ≠ z) (yw : y ≠ w) (zw : z ≠ w) : False := by
  have ne : ∀ {u v t : Fin p}, u ≠ v → (u - v) * t = 0 → t = 0 := fun hne h => (F.dom _ _ h).resolve_left fun e => hne (from_zero e)
  have e1 := ne xy (cub1 hx hy)
  have e2 := ne xz (cub1 hx hz)
  have e3 := ne xw (cub1 hx hw)
  have e4 := ne yz (cub2 e1 e2)
  have e5 := ne yw (cub2 e1 e3)
  exact zw (cub3 e4 e5)
theorem two_tors {p : Nat} (hP : Pr p) (hp : 5 ≤ p) (a b : Int) (M : List CP) (hM : M.Nodup) (h : ∀ P ∈ M, okC p a b P ∧ addC p a P P = farC) : M.length ≤ 4 := by
  have hne : NeZero p := ⟨by omega⟩
  have F := fld_of hP hp
  have hodd : p % 2 = 1 := by
    rcases Nat.mod_two_eq_zero_or_one p with h | h
    · rcases hP.2 2 (Nat.dvd_of_mod_eq_zero h) with k | k <;> omega
    · exact h
  obtain ⟨R, hR⟩ : ∃ R, (List.range p).filter (fun x : Nat => decide (((x : Int) * x * x + a * x + b) % (p : Int) = 0)) = R := ⟨_, rfl⟩
  have hRm : ∀ x ∈ R, x < p ∧ fi p x * fi p x * fi p x + fi p a * fi p x + fi p b = 0 := by
    intro x hx
    rw [← hR, List.mem_filter, List.mem_range] at hx
    refine ⟨hx.1, ?_⟩
    rw [← fi_mul, ← fi_mul, ← fi_mul, ← fi_add, ← fi_add]
    exact fi_zero.2 (by simpa using hx.2)
  have hRn : R.Nodup := by
    rw [← hR, List.nodup_iff_pairwise_ne]
    exact List.Pairwise.filter _ (List.nodup_iff_pairwise_ne.1 List.nodup_range)
  have hfi : ∀ x y : Nat, x ∈ R → y ∈ R → x ≠ y → fi p (x : Int) ≠ fi p (y : Int) := fun x y hx hy hxy e => by
    have := fi_small (by omega) (by have := (hRm _ hx).1; omega) (by omega) (by have := (hRm _ hy).1; omega) e
    omega
  have h3 : R.length ≤ 3 := by
    clear hR
    match R, hRm, hRn, hfi with
    | [], _, _, _ => simp
    | [_], _, _, _ => simp
    | [_, _], _, _, _ => simp
    | [_, _, _], _, _, _ => simp
    | x :: y :: z :: w :: R, hRm, hRn, hfi =>
      exfalso
      rw [List.nodup_cons, List.nodup_cons, List.nodup_cons] at hRn
      obtain ⟨k1, k2, k3, _⟩ := hRn
      simp only [List.mem_cons, not_or] at k1 k2 k3
      exact four_roots F (hRm x (by simp)).2 (hRm y (by simp)).2 (hRm z (by simp)).2 (hRm w (by simp)).2 (hfi _ _ (by simp) (by simp) k1.1) (hfi _ _ (by simp) (by simp) k1.2.1) (hfi _ _ (by simp) (by simp) k1.2.2.1) (hfi _ _ (by simp) (by simp) k2.1) (hfi _ _ (by simp) (by simp) k2.2.1) (hfi _ _ (by simp) (by simp) k3.1)
  have h4 := nodup_le (L := M) (M := farC :: R.map fun x : Nat => (⟨(x : Int), 0, false⟩ : CP)) hM fun P hPm => by
    obtain ⟨hok, hz⟩ := h P hPm
    cases hf : P.far
    · refine List.mem_cons_of_mem _ ?_
      obtain ⟨p1, p2, p3⟩ := hok.near hf
      have hy : P.y = 0 := by
        unfold addC at hz
        rw [if_neg (by rw [hf]; simp), if_neg (by rw [hf]; simp), if_neg (by simp)] at hz
        by_cases hc : (P.y + P.y) % (p : Int) = 0
        · obtain ⟨t, ht⟩ := Int.dvd_of_emod_eq_zero hc
          rcases (by omega : t ≤ 0 ∨ t = 1 ∨ 2 ≤ t) with k | k | k
          · have := Int.mul_nonneg (show (0 : Int) ≤ p by omega) (show 0 ≤ -t by omega)
            rw [Int.mul_neg] at this
            omega
          · rw [k] at ht; omega
          · have := Int.mul_le_mul_of_nonneg_left k (show (0 : Int) ≤ p by omega)
            omega
        · rw [if_neg hc] at hz
          have := congrArg CP.far hz
          cases this
      refine List.mem_map.2 ⟨P.x.toNat, ?_, ?_⟩
      · rw [← hR, List.mem_filter, List.mem_range]
        refine ⟨by omega, ?_⟩
        rw [hy] at p3
        simp only [decide_eq_true_eq]
        rw [Int.toNat_of_nonneg p1.1, ← p3]
        simp
      · obtain ⟨x, y, f⟩ := P
        simp only at hy hf p1
        subst hy hf
        rw [Int.toNat_of_nonneg p1.1]
    · rw [hok.isfar hf]
      simp
  rw [List.length_cons, List.length_map] at h4
  omega

/-- from a curve that was checked to one that is a scaled one -/
theorem scaled {p : Nat} (hP : Pr p) (hp : 5 ≤ p) {a b u w : Int} {a0 b0 : Nat} (hw : Cg p (w * u) 1) (hd : (4 * a * a * a + 27 * b * b) % (p : Int) ≠ 0)
    (ha : Cg p a ((a0 : Int) * (u * u * u * u))) (hb : Cg p b ((b0 : Int) * (u * u * u * u * u * u))) (hf : Fine p a0 b0) : Cond p a b (ptsC p a b).length := by
  have hne : NeZero p := ⟨by omega⟩
  have hd0 : (4 * (a0 : Int) * a0 * a0 + 27 * (b0 : Int) * b0) % (p : Int) ≠ 0 := by
    intro e
    apply hd
    have e0 : Cg p (4 * (a0 : Int) * a0 * a0 + 27 * (b0 : Int) * b0) 0 := by unfold Cg; rw [e]; simp
    have c1 : Cg p (4 * a * a * a + 27 * b * b) (4 * ((a0 : Int) * (u * u * u * u)) * ((a0 : Int) * (u * u * u * u)) * ((a0 : Int) * (u * u * u * u)) + 27 * ((b0 : Int) * (u * u * u * u * u * u)) * ((b0 : Int) * (u * u * u * u * u * u))) :=
      ((((Cg.refl 4).mul ha).mul ha).mul ha).add (((Cg.refl 27).mul hb).mul hb)
    rw [show 4 * ((a0 : Int) * (u * u * u * u)) * ((a0 : Int) * (u * u * u * u)) * ((a0 : Int) * (u * u * u * u)) + 27 * ((b0 : Int) * (u * u * u * u * u * u)) * ((b0 : Int) * (u * u * u * u * u * u))
      = (4 * (a0 : Int) * a0 * a0 + 27 * (b0 : Int) * b0) * (u * u * u * u * u * u * (u * u * u * u * u * u)) by grind] at c1
    have c2 := c1.trans (e0.mul (Cg.refl (u * u * u * u * u * u * (u * u * u * u * u * u))))
    rw [Int.zero_mul] at c2
    have c3 : (4 * a * a * a + 27 * b * b) % (p : Int) = 0 % (p : Int) := c2
    rw [c3]
    simp
  have hC := hf hd0
  have hu2 : Cg p (u * w) 1 := by rw [Int.mul_comm]; exact hw
  have w4 : Cg p (u * u * u * u * (w * w * w * w)) 1 := by
    have := (inv_pow (inv_pow hu2).1).1
    rwa [show u * u * u * u * (w * w * w * w) = u * u * (u * u) * (w * w * (w * w)) by grind]
  have w6 : Cg p (u * u * u * u * u * u * (w * w * w * w * w * w)) 1 := by
    have := (inv_pow (inv_pow hu2).2).1
    rwa [show u * u * u * u * u * u * (w * w * w * w * w * w) = u * u * u * (u * u * u) * (w * w * w * (w * w * w)) by grind]
  have back : ∀ {A A0 U W : Int}, Cg p (U * W) 1 → Cg p A (A0 * U) → Cg p A0 (A * W) := by
    intro A A0 U W hUW hA
    have h1 := hA.mul (Cg.refl W)
    have h2 := (Cg.refl (p := p) A0).mul hUW
    rw [Int.mul_one, ← Int.mul_assoc] at h2
    exact (h1.trans h2).symm
  have hA' := back w4 ha
  have hB' := back w6 hb
  have hlen : (ptsC p a b).length = (ptsC p (a0 : Int) (b0 : Int)).length := Nat.le_antisymm (scale_le (by omega) hu2 hA' hB') (scale_le (by omega) hw ha hb)
  rw [hlen]
  exact Cond.scale hP hp (curve_group hP hp hd0) hw ha hb hC
theorem cg_nat {p : Nat} {x y : Nat} (h : x % p = y % p) : Cg p (x : Int) (y : Int) := by
  unfold Cg
  rw [← Int.natCast_emod, ← Int.natCast_emod, h]
theorem gen_inv {p g : Nat} (hp : 5 ≤ p) (hf : g ^ (p - 1) % p = 1) (j : Nat) : Cg p (((g ^ ((p - 2) * j) : Nat) : Int) * ((g ^ j : Nat) : Int)) 1 := by
  rw [← Int.natCast_mul, ← Nat.pow_add, show (p - 2) * j + j = (p - 1) * j by rw [show p - 1 = p - 2 + 1 by omega, Nat.add_mul, Nat.one_mul], Nat.pow_mul]
  have := cg_nat (p := p) (x := (g ^ (p - 1)) ^ j) (y := 1) (by rw [Nat.pow_mod, hf, Nat.one_pow])
  exact this
theorem four_pow (g j : Nat) : ((g ^ j : Nat) : Int) * ((g ^ j : Nat) : Int) * ((g ^ j : Nat) : Int) * ((g ^ j : Nat) : Int) = ((g ^ (4 * j) : Nat) : Int) := by
  rw [← Int.natCast_mul, ← Int.natCast_mul, ← Int.natCast_mul, ← Nat.pow_add, ← Nat.pow_add, ← Nat.pow_add, show j + j + j + j = 4 * j by omega]
theorem six_pow (g j : Nat) : ((g ^ j : Nat) : Int) * ((g ^ j : Nat) : Int) * ((g ^ j : Nat) : Int) * ((g ^ j : Nat) : Int) * ((g ^ j : Nat) : Int) * ((g ^ j : Nat) : Int) = ((g ^ (6 * j) : Nat) : Int) := by
  rw [four_pow, ← Int.natCast_mul, ← Int.natCast_mul, ← Nat.pow_add, ← Nat.pow_add, show 4 * j + j + j = 6 * j by omega]
/-- what is told of the checked ones is told of all -/
theorem all_cond {p g s : Nat} (T : HS.Told p g s) (S : STold p g) {a b : Int} (h : OkCv p a b) : Cond p a b (ptsC p a b).length := by
  obtain ⟨h5, h6, hpr, ha1, ha2, hb1, hb2, hd⟩ := h
  have hP : Pr p := Pr_of (by simpa using hpr)
  have hp5 : 5 ≤ p := by omega
  have hodd : p % 2 = 1 := by
    rcases Nat.mod_two_eq_zero_or_one p with h | h
    · rcases hP.2 2 (Nat.dvd_of_mod_eq_zero h) with k | k <;> omega
    · exact h
  have hgp : ¬ p ∣ g := fun hd => by
    have h1 : g ^ ((p - 1) / 2) % p = 0 := Nat.mod_eq_zero_of_dvd (Nat.dvd_trans hd (Nat.dvd_of_mod_eq_zero (by
      obtain ⟨k, hk⟩ : ∃ k, (p - 1) / 2 = k + 1 := ⟨(p - 1) / 2 - 1, by omega⟩
      rw [hk, Nat.pow_succ, Nat.mul_mod_left])))
    have := T.gh
    omega
  have hf := hP.fermat1 hgp
  have cgp : ∀ {x : Int}, 0 ≤ x → x < p → ∀ i, g ^ i % p = x.toNat → Cg p x ((g ^ i : Nat) : Int) := by
    intro x x1 x2 i hi
    unfold Cg
    rw [← Int.natCast_emod, hi, Int.toNat_of_nonneg x1, Int.emod_eq_of_lt x1 x2]
  have turn : ∀ i, (g ^ (i + (p - 1))) % p = g ^ i % p := fun i => by
    rw [Nat.pow_add, Nat.mul_mod, hf, Nat.mul_one, Nat.mod_mod]
  by_cases ha0 : a = 0
  · subst ha0
    have hb0 : b ≠ 0 := fun e => by subst e; simp at hd
    obtain ⟨i, hi⟩ := T.gen b.toNat (by omega) (by omega)
    refine scaled hP hp5 (gen_inv hp5 hf (i / 6)) hd (a0 := 0) (b0 := g ^ (i % 6) % p) (by simp; exact Cg.refl _) ?_ (S.z _ (by omega))
    rw [six_pow]
    refine Cg.trans' (cgp hb1 hb2 i hi) (Cg.symm' ?_)
    have h1 : Cg p ((g ^ (i % 6) % p : Nat) : Int) ((g ^ (i % 6) : Nat) : Int) := cg_nat (Nat.mod_mod _ _)
    have h2 := h1.mul (Cg.refl ((g ^ (6 * (i / 6)) : Nat) : Int))
    rwa [← Int.natCast_mul (g ^ (i % 6)), ← Nat.pow_add, show i % 6 + 6 * (i / 6) = i by omega] at h2
  · obtain ⟨i0, hi0⟩ := T.gen a.toNat (by omega) (by omega)
    -- the scaled b, for an exponent i
    obtain ⟨B, hB⟩ : ∃ B : Nat → Nat, ∀ i, B i = (b * ((g ^ (6 * ((p - 2) * (i / 4))) : Nat) : Int) % p).toNat := ⟨_, fun i => rfl⟩
    have hBp : ∀ i, B i < p ∧ ((B i : Nat) : Int) = b * ((g ^ (6 * ((p - 2) * (i / 4))) : Nat) : Int) % p := fun i => by
      have h1 := Int.emod_lt_of_pos (b * ((g ^ (6 * ((p - 2) * (i / 4))) : Nat) : Int)) (show (0 : Int) < p by omega)
      have h2 := Int.emod_nonneg (b * ((g ^ (6 * ((p - 2) * (i / 4))) : Nat) : Int)) (show (p : Int) ≠ 0 by omega)
      rw [hB]
      exact ⟨by omega, Int.toNat_of_nonneg h2⟩
    have go : ∀ i, g ^ i % p = a.toNat → (∃ a0, a0 % p = g ^ (i % 4) % p ∧ Fine p a0 (B i)) → Cond p a b (ptsC p a b).length := by
      rintro i hi ⟨a0, hr, hF⟩
      have hw := gen_inv hp5 hf (i / 4)
      refine scaled hP hp5 hw hd (a0 := a0) (b0 := B i) ?_ ?_ hF
      · rw [four_pow]
        refine Cg.trans' (cgp ha1 ha2 i hi) (Cg.symm' ?_)
        have h2 := (cg_nat hr).mul (Cg.refl ((g ^ (4 * (i / 4)) : Nat) : Int))
        rwa [← Int.natCast_mul (g ^ (i % 4)), ← Nat.pow_add, show i % 4 + 4 * (i / 4) = i by omega] at h2
      · rw [six_pow, (hBp i).2]
        have h1 := (Cg.of p (b * ((g ^ (6 * ((p - 2) * (i / 4))) : Nat) : Int))).mul (Cg.refl ((g ^ (6 * (i / 4)) : Nat) : Int))
        refine Cg.symm' (Cg.trans' h1 ?_)
        rw [Int.mul_assoc, ← Int.natCast_mul, ← Nat.pow_add, show 6 * ((p - 2) * (i / 4)) + 6 * (i / 4) = (p - 1) * (6 * (i / 4)) by rw [show p - 1 = p - 2 + 1 by omega, Nat.add_mul, Nat.one_mul]; grind, Nat.pow_mul]
        have h3 := cg_nat (p := p) (x := (g ^ (p - 1)) ^ (6 * (i / 4))) (y := 1) (by rw [Nat.pow_mod, hf, Nat.one_pow])
        have h4 := (Cg.refl (p := p) b).mul h3
        rwa [show b * ((1 : Nat) : Int) = b by simp] at h4
    rcases (by omega : p % 4 = 1 ∨ p % 4 = 3) with h4 | h4
    · by_cases hbh : B i0 ≤ p / 2
      · exact go i0 hi0 (S.four h4 _ (by omega) _ (hBp i0).1 hbh)
      · refine go (i0 + (p - 1)) (by rw [turn]; exact hi0) ?_
        have hlow : B (i0 + (p - 1)) ≤ p / 2 := by
          obtain ⟨q, hq⟩ : ∃ q, p = 4 * q + 1 := ⟨p / 4, by omega⟩
          have e1 : (i0 + (p - 1)) / 4 = i0 / 4 + q := by omega
          have e2 : 6 * ((p - 2) * ((i0 + (p - 1)) / 4)) = 6 * ((p - 2) * (i0 / 4)) + 2 * q * (3 * (p - 2)) := by rw [e1]; grind
          have e3 : ((g ^ (2 * q * (3 * (p - 2))) : Nat) : Int) % p = (-1 : Int) % p := by
            have k1 : g ^ (2 * q) % p = p - 1 := by have := T.gh; rwa [show (p - 1) / 2 = 2 * q by omega] at this
            rw [Nat.pow_mul, ← Int.natCast_emod, Nat.pow_mod, k1, show 3 * (p - 2) = 2 * ((3 * (p - 2) - 1) / 2) + 1 by omega, Nat.pow_succ, Nat.pow_mul]
            have k2 : (p - 1) ^ 2 % p = 1 := by
              rw [Nat.pow_two]
              obtain ⟨r, rfl⟩ : ∃ r, p = r + 2 := ⟨p - 2, by omega⟩
              rw [show r + 2 - 1 = r + 1 by omega, show (r + 1) * (r + 1) = 1 + (r + 2) * r by grind, Nat.add_mul_mod_self_left]
              exact Nat.mod_eq_of_lt (by omega)
            rw [Nat.mul_mod, Nat.pow_mod, k2, Nat.one_pow, Nat.mod_eq_of_lt (show 1 < p by omega), Nat.one_mul, Nat.mod_mod, Int.natCast_emod, Int.natCast_sub (by omega)]
            rw [show ((p : Int) - ((1 : Nat) : Int)) = -1 + p * 1 by omega, Int.add_mul_emod_self_left]
          have e4 : Cg p ((B (i0 + (p - 1)) : Nat) : Int) (-((B i0 : Nat) : Int)) := by
            rw [(hBp _).2, (hBp i0).2, e2, Nat.pow_add, Int.natCast_mul, ← Int.mul_assoc]
            refine Cg.trans' (Cg.of p _) ?_
            have k1 := (Cg.of p (b * ((g ^ (6 * ((p - 2) * (i0 / 4))) : Nat) : Int))).mul (Cg.refl (-1))
            have k2 := (Cg.refl (p := p) (b * ((g ^ (6 * ((p - 2) * (i0 / 4))) : Nat) : Int))).mul (show Cg p _ (-1) from e3)
            rw [Int.mul_neg_one] at k1
            exact Cg.trans' k2 (Cg.symm' k1)
          have h1 := (hBp i0).1
          have h2 := (hBp (i0 + (p - 1))).1
          have e5 : Cg p ((B (i0 + (p - 1)) : Nat) : Int) ((p : Int) - (B i0 : Nat)) := by
            refine Cg.trans' e4 ?_
            unfold Cg
            rw [show (p : Int) - (B i0 : Nat) = -((B i0 : Nat) : Int) + p * 1 by omega, Int.add_mul_emod_self_left]
          have := e5.low (by omega) (by omega)
          omega
        have := S.four h4 ((i0 + (p - 1)) % 4) (by omega) _ (hBp (i0 + (p - 1))).1 hlow
        exact this
    · by_cases hi : i0 % 4 < 2
      · exact go i0 hi0 (S.two _ hi _ (hBp i0).1 fun h => absurd h (by omega))
      · exact go (i0 + (p - 1)) (by rw [turn]; exact hi0) (S.two _ (by omega) _ (hBp _).1 fun h => absurd h (by omega))

/-- the shape of every curve -/
theorem shape_curve {p g s : Nat} (T : HS.Told p g s) (S : STold p g) {a b : Int} (h : OkCv p a b) {n : Nat} (hm : MaxOrd p a b n) :
    ∃ m, (ptsC p a b).length = m * n ∧ 0 < m ∧ m ∣ n ∧ m ∣ p - 1 := by
  have hp0 : 0 < p := by have := h.p1; omega
  obtain ⟨⟨P0, hP0, hO⟩, hmax⟩ := hm
  exact shape (cgroup h) (pts_nodup hp0 a b) (fun x => mem_pts hp0) ((mem_pts hp0).1 hP0) hO (fun x hx k hk => hmax x ((mem_pts hp0).2 hx) k hk) (two_tors (Pr_of (by simpa using h.pr)) (by have := h.p1; omega) a b) (all_cond T S h)
end SH
end Go.Proofs.YtofjmnodfabohaaGreatDoor

