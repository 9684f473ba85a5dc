/- Gauss's theorem on squares of classes, as the law FormGenera asks it of the list of all classes. -/
import Derived.Test.YtkfjjljdhfjpbaaKGenD
import Derived.Test.YtkfjjljdhfjpbaaKGenE
import Derived.Test.YtkfjjljdhfjpbaaK0
namespace Go.Proofs.Ytkfjjljdhfjpbaa
open GN

theorem mem_rowF {d a : Int} {t : Int × Int × Int} (j : Nat) : t ∈ rowF d a j ↔ ∃ i : Nat, i < j ∧ okF d a (-a + i) = true ∧ t = frm d a (-a + i) := by
  induction j with
  | zero => simp [rowF]
  | succ j ih =>
    rw [rowF, List.mem_append, ih]
    constructor
    · rintro (⟨i, h1, h2, h3⟩ | h)
      · exact ⟨i, by omega, h2, h3⟩
      · by_cases hk : okF d a (-a + j) = true
        · rw [if_pos hk, List.mem_singleton] at h
          exact ⟨j, by omega, hk, h⟩
        · rw [if_neg hk] at h
          simp at h
    · rintro ⟨i, h1, h2, h3⟩
      by_cases hi : i = j
      · subst hi
        right
        rw [if_pos h2, h3]
        simp
      · exact .inl ⟨i, by omega, h2, h3⟩
theorem mem_allF {d : Int} {t : Int × Int × Int} (n : Nat) : t ∈ allF d n ↔ ∃ a b : Int, 1 ≤ a ∧ a ≤ n ∧ okF d a b = true ∧ t = frm d a b := by
  induction n with
  | zero =>
    simp only [allF]
    constructor
    · intro h; simp at h
    · rintro ⟨a, b, h1, h2, _⟩; omega
  | succ n ih =>
    rw [allF, List.mem_append, ih, mem_rowF]
    constructor
    · rintro (⟨a, b, h1, h2, h3, h4⟩ | ⟨i, h1, h2, h3⟩)
      · exact ⟨a, b, h1, by omega, h3, h4⟩
      · exact ⟨(n : Int) + 1, _, by omega, by omega, h2, h3⟩
    · rintro ⟨a, b, h1, h2, h3, h4⟩
      by_cases ha : a = (n : Int) + 1
      · right
        have hb := h3
        unfold okF at hb
        rw [decide_eq_true_eq] at hb
        obtain ⟨i, hi⟩ : ∃ i : Nat, b = -a + i := ⟨(b + a).toNat, by omega⟩
        subst ha
        rw [hi] at h3 h4
        exact ⟨i, by omega, h3, h4⟩
      · exact .inl ⟨a, b, h1, by omega, h3, h4⟩
theorem cls_ok {d : Nat} {a b : Int} (ha : 1 ≤ a) (h : okF (-(d : Int)) a b = true) : Cls d a b ((b * b - -(d : Int)) / (4 * a)) := by
  unfold okF at h
  rw [decide_eq_true_eq] at h
  obtain ⟨h1, h2, h3, h4, h5, h6⟩ := h
  have e := Int.mul_ediv_cancel' h1
  obtain ⟨c, hc⟩ : ∃ c, (b * b - -(d : Int)) / (4 * a) = c := ⟨_, rfl⟩
  rw [hc] at h4 h5 h6 e ⊢
  exact ⟨⟨by omega, h2, h3, h4, fun e => by
    by_cases hb : 0 ≤ b
    · exact hb
    · exact absurd ⟨e.symm, by omega⟩ h5⟩, by omega, h6⟩
theorem ok_cls {d : Nat} {a b c : Int} (h : Cls d a b c) : okF (-(d : Int)) a b = true ∧ (a, b, c) = frm (-(d : Int)) a b := by
  obtain ⟨⟨h0, h1, h2, h3, h4⟩, hD, hg⟩ := h
  have e : b * b - -(d : Int) = 4 * a * c := by omega
  have e2 : (b * b - -(d : Int)) / (4 * a) = c := by rw [e]; exact Int.mul_ediv_cancel_left _ (by omega)
  refine ⟨?_, by unfold frm; rw [e2]⟩
  unfold okF
  rw [decide_eq_true_eq, e2]
  exact ⟨⟨c, e⟩, h1, h2, h3, fun h => by have := h4 h.1.symm; omega, hg⟩
theorem cls_low {d n : Nat} {a b c : Int} (h : Cls d a b c) (hn : (d : Int) < 3 * ((n : Int) + 1) * ((n : Int) + 1)) : a ≤ n := by
  obtain ⟨⟨h0, h1, h2, h3, h4⟩, hD, hg⟩ := h
  have e1 : b * b ≤ a * a := sq_up (by omega) h2
  have e2 : a * a ≤ a * c := Int.mul_le_mul_of_nonneg_left h3 (by omega)
  have e3 : 4 * a * c = 4 * (a * c) := Int.mul_assoc ..
  have e4 : 3 * ((n : Int) + 1) * ((n : Int) + 1) = 3 * (((n : Int) + 1) * ((n : Int) + 1)) := Int.mul_assoc ..
  by_cases hl : a ≤ n
  · exact hl
  · have := Int.mul_le_mul (show (n : Int) + 1 ≤ a by omega) (show (n : Int) + 1 ≤ a by omega) (by omega) (by omega)
    omega
theorem mem_cls {d n : Nat} (hn : (d : Int) < 3 * ((n : Int) + 1) * ((n : Int) + 1)) {a b c : Int} : (a, b, c) ∈ allF (-(d : Int)) n ↔ Cls d a b c := by
  rw [mem_allF]
  constructor
  · rintro ⟨a', b', h1, h2, h3, h4⟩
    unfold frm at h4
    injection h4 with e1 e2
    injection e2 with e2 e3
    subst e1
    subst e2
    subst e3
    exact cls_ok h1 h3
  · intro h
    exact ⟨a, b, h.1.pos, cls_low h hn, (ok_cls h).1, (ok_cls h).2⟩
/-- one of the first i classes, times itself, is the class of the reduced form A, B, C -/
def SqIn (D : Int) (L : List (Int × Int × Int)) (A B : Int) (i : Nat) : Prop := ∃ t ∈ L.take i, Sim D (Pr D (Lf t.1 t.2.1) (Lf t.1 t.2.1)) (Lf A B)
theorem SqIn.zero {D : Int} {L : List (Int × Int × Int)} {A B : Int} : ¬ SqIn D L A B 0 := by
  rintro ⟨t, h, _⟩
  simp at h
theorem SqIn.up {D : Int} {L : List (Int × Int × Int)} {A B : Int} {i : Nat} (h : SqIn D L A B i) : SqIn D L A B (i + 1) := by
  obtain ⟨t, h1, h2⟩ := h
  exact ⟨t, (List.take_subset_take_left L (Nat.le_succ i)) h1, h2⟩
/-- one class more -/
theorem SqIn.step {D : Int} (hD : D < 0) {L : List (Int × Int × Int)} {A B C x y z A' B' C' : Int} {i : Nat} (ht : L[i]? = some (x, y, z)) (rA : RedF A B C) (eA : D = B * B - 4 * A * C) (r : RedF A' B' C') (e : D = B' * B' - 4 * A' * C') (s : Sim D (Pr D (Lf x y) (Lf x y)) (Lf A' B')) :
    SqIn D L A B (i + 1) ↔ SqIn D L A B i ∨ (A', B', C') = (A, B, C) := by
  have hs : L.take (i + 1) = L.take i ++ [(x, y, z)] := by
    rw [List.take_add_one, ht]
    rfl
  constructor
  · rintro ⟨t, h1, h2⟩
    rw [hs, List.mem_append, List.mem_singleton] at h1
    rcases h1 with h1 | rfl
    · exact .inl ⟨t, h1, h2⟩
    · right
      obtain ⟨e1, e2, e3⟩ := sim_unique hD e eA r rA ((s.symm).trans hD h2)
      rw [e1, e2, e3]
  · rintro (h | h)
    · exact h.up
    · injection h with e1 e2
      injection e2 with e2 e3
      subst e1
      subst e2
      exact ⟨(x, y, z), by rw [hs]; simp, s⟩
/-- what the law compares -/
theorem genera {d n : Nat} (h1 : 3 ≤ d) (h2 : d ≤ 2000) (h3 : d % 4 = 0 ∨ d % 4 = 3) (hn : (d : Int) < 3 * ((n : Int) + 1) * ((n : Int) + 1)) {a b c A B C : Int} (ha : 0 < a) (hab : -(d : Int) = b * b - 4 * a * c) (r : RedF A B C) (e : -(d : Int) = B * B - 4 * A * C) (g : Int.gcd A (Int.gcd B C) = 1) (s : Sim (-(d : Int)) (Lf a b) (Lf A B)) :
    SqIn (-(d : Int)) (allF (-(d : Int)) n) A B (allF (-(d : Int)) n).length ↔ gset d a b c = gset d 1 ((d % 2 : Nat) : Int) (((d + d % 2) / 4 : Nat) : Int) := by
  have hD : -(d : Int) < 0 := by omega
  have hC : Cls d A B C := ⟨r, e, g⟩
  obtain ⟨p, q, u, v, t⟩ := sim_turn_back hD hab e ha r.pos s
  rw [gset_turn (by omega) t, gset_eq (by omega), ← gauss h1 h2 h3 hC]
  unfold SqIn
  rw [List.take_length]
  constructor
  · rintro ⟨⟨x, y, z⟩, h, k⟩
    exact ⟨x, y, z, (mem_cls hn).1 h, k⟩
  · rintro ⟨x, y, z, h, k⟩
    exact ⟨(x, y, z), (mem_cls hn).2 h, k⟩
theorem disc_mod {d : Nat} {a b c : Int} (h : -(d : Int) = b * b - 4 * a * c) : d % 4 = 0 ∨ d % 4 = 3 := by
  have e : 4 * a * c = 4 * (a * c) := Int.mul_assoc ..
  rcases (show b % 2 = 0 ∨ b % 2 = 1 by omega) with k | k
  · obtain ⟨x, hx⟩ : ∃ x, b = 2 * x := ⟨b / 2, by omega⟩
    have : b * b = 4 * (x * x) := by rw [hx]; grind
    omega
  · obtain ⟨x, hx⟩ : ∃ x, b = 2 * x + 1 := ⟨b / 2, by omega⟩
    have : b * b = 4 * (x * x + x) + 1 := by rw [hx]; grind
    omega
end Go.Proofs.Ytkfjjljdhfjpbaa
