/- The lists that Genus hands back: the units that a form takes; what they tell (plain). -/
import Derived.Test.YtkfjjljdhfjpbaaKGenD
namespace Go.Proofs.Ytkfjjljdhfjpbaa
namespace GN

/-- is n left by d by a value at x, y below d -/
def hit (d : Nat) (a b c : Int) (n : Nat) : Bool := (List.range d).any fun x => (List.range d).any fun y => decide (val a b c (x : Int) (y : Int) % (d : Int) = (n : Int))
def gset (d : Nat) (a b c : Int) : List Nat := (List.range d).filter fun n => Nat.beq (Nat.gcd n d) 1 && hit d a b c n
theorem val_low (d : Nat) (a b c X Y : Int) : val a b c (X % d) (Y % d) % (d : Int) = val a b c X Y % d := by
  obtain ⟨u, hu⟩ : ∃ u, X / (d : Int) = u := ⟨_, rfl⟩
  obtain ⟨v, hv⟩ : ∃ v, Y / (d : Int) = v := ⟨_, rfl⟩
  have e1 : X = X % d + d * u := by rw [← hu]; exact (Int.emod_add_mul_ediv X d).symm
  have e2 : Y = Y % d + d * v := by rw [← hv]; exact (Int.emod_add_mul_ediv Y d).symm
  obtain ⟨x, hx⟩ : ∃ x, X % (d : Int) = x := ⟨_, rfl⟩
  obtain ⟨y, hy⟩ : ∃ y, Y % (d : Int) = y := ⟨_, rfl⟩
  rw [hx] at e1 ⊢
  rw [hy] at e2 ⊢
  rw [show val a b c X Y = val a b c x y + d * (a * (2 * x * u + d * u * u) + b * (x * v + y * u + d * u * v) + c * (2 * y * v + d * v * v)) by unfold val; rw [e1, e2]; grind, Int.add_mul_emod_self_left]
theorem hit_iff {d : Nat} (hd : 0 < d) {a b c : Int} {n : Nat} (hn : n < d) : hit d a b c n = true ↔ Vm d a b c n := by
  have e : (n : Int) % d = n := Int.emod_eq_of_lt (by omega) (by omega)
  unfold hit Vm
  rw [List.any_eq_true, e]
  constructor
  · rintro ⟨x, _, h⟩
    obtain ⟨y, _, h⟩ := List.any_eq_true.1 h
    exact ⟨x, y, of_decide_eq_true h⟩
  · rintro ⟨X, Y, h⟩
    have h1 := Int.emod_nonneg X (show (d : Int) ≠ 0 by omega)
    have h2 := Int.emod_lt_of_pos X (show (0 : Int) < d by omega)
    have h3 := Int.emod_nonneg Y (show (d : Int) ≠ 0 by omega)
    have h4 := Int.emod_lt_of_pos Y (show (0 : Int) < d by omega)
    refine ⟨(X % d).toNat, List.mem_range.2 (by omega), List.any_eq_true.2 ⟨(Y % d).toNat, List.mem_range.2 (by omega), decide_eq_true ?_⟩⟩
    rw [Int.toNat_of_nonneg h1, Int.toNat_of_nonneg h3, val_low, h]
theorem mem_gset {d : Nat} (hd : 0 < d) {a b c : Int} {n : Nat} : n ∈ gset d a b c ↔ n < d ∧ Nat.gcd n d = 1 ∧ Vm d a b c n := by
  unfold gset
  rw [List.mem_filter, List.mem_range, Bool.and_eq_true]
  constructor
  · rintro ⟨h1, h2, h3⟩
    exact ⟨h1, Nat.eq_of_beq_eq_true h2, (hit_iff hd h1).1 h3⟩
  · rintro ⟨h1, h2, h3⟩
    exact ⟨h1, by rw [h2]; rfl, (hit_iff hd h1).2 h3⟩
/-- forms that take the same have the same list, and the other way round -/
theorem gset_eq {d : Nat} (hd : 0 < d) {a b c a' b' c' : Int} : gset d a b c = gset d a' b' c' ↔ ∀ m : Int, Int.gcd m d = 1 → (Vm d a b c m ↔ Vm d a' b' c' m) := by
  constructor
  · intro h m hm
    have h1 := Int.emod_nonneg m (show (d : Int) ≠ 0 by omega)
    have h2 := Int.emod_lt_of_pos m (show (0 : Int) < d by omega)
    have e : ((m % d).toNat : Int) % d = m % d := by rw [Int.toNat_of_nonneg h1]; exact Int.emod_emod_of_dvd _ (Int.dvd_refl _)
    have hg : Nat.gcd (m % d).toNat d = 1 := by
      refine Nat.dvd_one.1 ?_
      obtain ⟨g, hgg⟩ : ∃ g, Nat.gcd (m % d).toNat d = g := ⟨_, rfl⟩
      rw [hgg]
      have d1 : g ∣ (m % d).toNat := by rw [← hgg]; exact Nat.gcd_dvd_left _ _
      have d2 : g ∣ d := by rw [← hgg]; exact Nat.gcd_dvd_right _ _
      have d3 : (g : Int) ∣ m % d := by rw [← Int.toNat_of_nonneg h1]; exact Int.natCast_dvd_natCast.2 d1
      have d4 : (g : Int) ∣ (d : Int) := Int.natCast_dvd_natCast.2 d2
      have d5 : (g : Int) ∣ m := by
        rw [← Int.mul_ediv_add_emod m d]
        exact Int.dvd_add (Int.dvd_trans d4 (Int.dvd_mul_right _ _)) d3
      have d6 : (g : Int) ∣ ((Int.gcd m d : Nat) : Int) := Int.dvd_coe_gcd d5 d4
      rw [hm] at d6
      exact Int.natCast_dvd_natCast.1 d6
    have k := mem_gset hd (a := a) (b := b) (c := c) (n := (m % d).toNat)
    have k' := mem_gset hd (a := a') (b := b') (c := c') (n := (m % d).toNat)
    rw [h] at k
    constructor
    · intro hv
      exact ((k'.1 (k.2 ⟨by omega, hg, hv.congr e.symm⟩)).2.2).congr e
    · intro hv
      exact ((k.1 (k'.2 ⟨by omega, hg, hv.congr e.symm⟩)).2.2).congr e
  · intro h
    unfold gset
    refine List.filter_congr fun n hn => ?_
    have hn := List.mem_range.1 hn
    cases hg : Nat.beq (Nat.gcd n d) 1
    · rfl
    · have hg1 : Nat.gcd n d = 1 := Nat.eq_of_beq_eq_true hg
      have := h n (by rw [Int.gcd_natCast_natCast]; exact hg1)
      rw [Bool.true_and, Bool.true_and]
      have e1 := hit_iff hd (a := a) (b := b) (c := c) hn
      have e2 := hit_iff hd (a := a') (b := b') (c := c') hn
      cases h1 : hit d a b c n <;> cases h2 : hit d a' b' c' n <;> simp_all
/-- turned forms take the same -/
theorem vm_turn {d : Nat} {a b c A B C p q r s : Int} (t : Turn A B C a b c p q r s) (m : Int) : Vm d A B C m ↔ Vm d a b c m := by
  have half : ∀ {a b c A B C p q r s : Int}, Turn A B C a b c p q r s → Vm d A B C m → Vm d a b c m := by
    rintro a b c A B C p q r s ⟨_, rfl, rfl, rfl⟩ ⟨x, y, h⟩
    exact ⟨p * x + q * y, r * x + s * y, by rw [← h]; congr 1; unfold val; grind⟩
  exact ⟨half t, half t.back⟩
theorem gset_turn {d : Nat} (hd : 0 < d) {a b c A B C p q r s : Int} (t : Turn A B C a b c p q r s) : gset d A B C = gset d a b c := (gset_eq hd).2 fun m _ => vm_turn t m
theorem gset_sorted (d : Nat) (a b c : Int) : (gset d a b c).Pairwise (· < ·) := List.Pairwise.filter _ List.pairwise_lt_range
end GN
end Go.Proofs.Ytkfjjljdhfjpbaa
