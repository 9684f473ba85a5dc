/- Plain facts on faults and their cells that the laws on powers share. -/
import Derived.Test.YtddnchjnbgdocaaWholeC
import Derived.Test.YtddnchjnbgdocaaDividesW
namespace Go.Proofs.Ytddnchjnbgdocaa
open Go.RowKit

/-- w = F(..) if w is none so far and b holds -/
def stepF (F : Int × Int) (b : Bool) (v : Int × Int) : Int × Int := if F.1 = 0 ∧ b = true then v else F
theorem powF_step (a n m : Int) : stepF (stepF (lookK 0 [a, n, m]) (decide (n < 0)) (3, 1)) (decide (m < 1)) (3, 2) = powF a n m := by
  unfold powF stepF
  rcases lookK_cases 0 [a, n, m] with ⟨h, _⟩ | ⟨i, h⟩
  · rw [h]
    by_cases h1 : n < 0
    · simp [h1]
    · by_cases h2 : m < 1 <;> simp [h1, h2]
  · rw [h]; simp
theorem invF_step (a m : Int) : stepF (stepF (lookK 0 [a, m]) (decide (m < 1)) (3, 1)) (decide (Int.gcd a m ≠ 1)) (5, 0) = invF a m := by
  unfold invF stepF
  rcases lookK_cases 0 [a, m] with ⟨h, _⟩ | ⟨i, h⟩
  · rw [h]
    by_cases h1 : m < 1
    · simp [h1]
    · by_cases h2 : Int.gcd a m = 1 <;> simp [h1, h2]
  · rw [h]; simp

/-- the state at a cut: a fault's cell, nothing old turned -/
def St (w wc : World) (g : Nat) (F : Int × Int) : Prop := Below w.heap.size w wc ∧ FC wc g F.1 F.2 ∧ w.heap.size ≤ g

theorem St.set {w wc : World} {g : Nat} {F : Int × Int} (h : St w wc g F) (v : Int × Int) : St w ((wc.setCell ⟨g, 0, none⟩ (.int .i64 v.1)).setCell ⟨g, 1, none⟩ (.int .i64 v.2)) g v :=
  ⟨below_fault h.1 h.2.2, (h.2.1.set0 v.1).set1 v.2, h.2.2⟩
theorem St.below {w wc wd : World} {g : Nat} {F : Int × Int} (h : St w wc g F) (k : Below wc.heap.size wc wd) : St w wd g F :=
  ⟨h.1.trans (k.mono h.1.size), h.2.1.below k, h.2.2⟩

theorem FC.keep {w : World} {g h : Nat} {a b : Int} (f : FC w h a b) (hne : g ≠ h) (u v : Value) : FC ((w.setCell ⟨g, 0, none⟩ u).setCell ⟨g, 1, none⟩ v) h a b := by
  unfold FC at f ⊢
  rw [Below.heap_setCell _ _ _ _ (by exact fun e => hne e.symm), Below.heap_setCell _ _ _ _ (by exact fun e => hne e.symm)]
  exact f
/-- some fault's cell -/
def FCx (w : World) (g : Nat) : Prop := ∃ a b, FC w g a b
theorem FCx.below {w w' : World} {g : Nat} (h : FCx w g) (k : Below w.heap.size w w') : FCx w' g := by
  obtain ⟨a, b, h⟩ := h
  exact ⟨a, b, h.below k⟩
theorem FCx.keep {w : World} {g h : Nat} (f : FCx w h) (hne : g ≠ h) (u v : Value) : FCx ((w.setCell ⟨g, 0, none⟩ u).setCell ⟨g, 1, none⟩ v) h := by
  obtain ⟨a, b, f⟩ := f
  exact ⟨a, b, f.keep hne u v⟩
/-- writing the other cell -/
theorem St.other {w wc : World} {g h : Nat} {F : Int × Int} (s : St w wc g F) (hh : w.heap.size ≤ h) (hne : h ≠ g) (u v : Value) : St w ((wc.setCell ⟨h, 0, none⟩ u).setCell ⟨h, 1, none⟩ v) g F :=
  ⟨below_fault s.1 hh, s.2.1.keep hne u v, s.2.2⟩
theorem powF_ok {a n m : Int} (h : (powF a n m).1 = 0) : -1000000000000000000 ≤ a ∧ a ≤ 1000000000000000000 ∧ 0 ≤ n ∧ n ≤ 1000000000000000000 ∧ 1 ≤ m ∧ m ≤ 1000000000000000000 := by
  unfold powF at h
  rcases lookK_cases 0 [a, n, m] with ⟨e, hok⟩ | ⟨i, e⟩
  · rw [e, if_neg (by decide)] at h
    have ha := ok_bounds (hok a (by simp))
    have hn := ok_bounds (hok n (by simp))
    have hm := ok_bounds (hok m (by simp))
    split at h
    · simp at h
    · split at h
      · simp at h
      · omega
  · rw [e, if_pos (by simp)] at h
    simp at h
theorem invS_ok {a m : Int} (h : (stepF (lookK 0 [a, m]) (decide (m < 1)) (3, 1)).1 = 0) : -1000000000000000000 ≤ a ∧ a ≤ 1000000000000000000 ∧ 1 ≤ m ∧ m ≤ 1000000000000000000 := by
  unfold stepF at h
  rcases lookK_cases 0 [a, m] with ⟨e, hok⟩ | ⟨i, e⟩
  · rw [e] at h
    have ha := ok_bounds (hok a (by simp))
    have hm := ok_bounds (hok m (by simp))
    by_cases h1 : m < 1
    · rw [if_pos (by simpa using h1)] at h; simp at h
    · omega
  · rw [e] at h
    rw [if_neg (by simp)] at h
    simp at h
theorem invF_ok {a m : Int} (h : (invF a m).1 = 0) : -1000000000000000000 ≤ a ∧ a ≤ 1000000000000000000 ∧ 1 ≤ m ∧ m ≤ 1000000000000000000 := by
  unfold invF at h
  rcases lookK_cases 0 [a, m] with ⟨e, hok⟩ | ⟨i, e⟩
  · rw [e, if_neg (by decide)] at h
    have ha := ok_bounds (hok a (by simp))
    have hm := ok_bounds (hok m (by simp))
    split at h
    · simp at h
    · omega
  · rw [e, if_pos (by simp)] at h
    simp at h
theorem rootF_ok {n k : Int} (h : (rootF n k).1 = 0) : 0 ≤ n ∧ n ≤ 1000000000000000000 ∧ 1 ≤ k ∧ k ≤ 60 := by
  unfold rootF at h
  split at h
  · simp at h
  · rename_i h1
    split at h
    · simp at h
    · have hok : okB n = true := by
        cases h : okB n
        · exact (h1 (.inr h)).elim
        · rfl
      have := ok_bounds hok
      have : ¬ n < 0 := fun h => h1 (.inl h)
      omega
theorem inv_emod {a p m : Int} (h : m ∣ a * p - 1) : a * p % m = 1 % m := by
  obtain ⟨x, hx⟩ := h
  rw [show a * p = 1 + m * x from by omega, Int.add_mul_emod_self_left]
theorem gcd_bne (a m : Int) : (((Int.gcd a m : Nat) : Int) != 1) = !decide (Int.gcd a m = 1) := by
  by_cases h : Int.gcd a m = 1
  · rw [h]; rfl
  · have : (((Int.gcd a m : Nat) : Int) != 1) = true := by rw [bne_iff_ne]; omega
    rw [this]; simp [h]
theorem rootF_B (n k : Int) (B : Bool) (hB : B = (!okB n || decide (n < 0))) : (B = true → rootF n k = (3, 0)) ∧ (B = false → (k < 1 ∨ 60 < k → rootF n k = (3, 1)) ∧ (¬ (k < 1 ∨ 60 < k) → rootF n k = (0, 0))) := by
  unfold rootF
  subst hB
  refine ⟨fun h => ?_, fun h => ?_⟩
  · rw [if_pos]
    cases ho : okB n
    · exact .inr rfl
    · rw [ho] at h; left; simpa using h
  · have h1 : ¬ (n < 0 ∨ okB n = false) := by
      cases ho : okB n
      · rw [ho] at h; simp at h
      · rw [ho] at h; simp at h ⊢; omega
    rw [if_neg h1]
    exact ⟨fun h => if_pos h, fun h => if_neg h⟩

end Go.Proofs.Ytddnchjnbgdocaa
