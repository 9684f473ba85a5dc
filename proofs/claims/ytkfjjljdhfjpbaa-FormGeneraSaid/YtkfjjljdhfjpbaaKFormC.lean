/- Plain facts for the walk of Classes: which forms are taken; lists of forms in memory. -/
import Derived.Test.YtkfjjljdhfjpbaaKFormB
import Derived.OwnWalk
namespace Go.Proofs.Ytkfjjljdhfjpbaa
open Go.RowKit

theorem small_of {n : Int} (h : -1000000 ≤ n ∧ n ≤ 1000000) : smallB n = true := by unfold smallB; simpa using h

/-- the cells of a list of forms -/
def fcs (l : List (Int × Int × Int)) : List Value := l.flatMap fun f => [.int .i64 f.1, .int .i64 f.2.1, .int .i64 f.2.2]
theorem fcs_append (l r : List (Int × Int × Int)) : fcs (l ++ r) = fcs l ++ fcs r := by unfold fcs; rw [List.flatMap_append]
theorem fcs_one (f : Int × Int × Int) : fcs [f] = [.int .i64 f.1, .int .i64 f.2.1, .int .i64 f.2.2] := by simp [fcs]
theorem fcs_len (l : List (Int × Int × Int)) : (fcs l).length = l.length * 3 := by
  induction l with
  | nil => rfl
  | cons f l ih =>
    have : fcs (f :: l) = fcs [f] ++ fcs l := fcs_append [f] l
    rw [this, List.length_append, ih, fcs_one]; simp; omega
theorem fcs_get (l : List (Int × Int × Int)) (i : Nat) (f : Int × Int × Int) (h : l[i]? = some f) : (fcs l)[i * 3]? = some (.int .i64 f.1) ∧ (fcs l)[i * 3 + 1]? = some (.int .i64 f.2.1) ∧ (fcs l)[i * 3 + 2]? = some (.int .i64 f.2.2) := by
  induction l generalizing i with
  | nil => simp at h
  | cons g l ih =>
    have e : fcs (g :: l) = fcs [g] ++ fcs l := fcs_append [g] l
    rw [e, fcs_one]
    cases i with
    | zero => simp at h; subst h; simp
    | succ i =>
      simp at h
      obtain ⟨h1, h2, h3⟩ := ih i h
      refine ⟨?_, ?_, ?_⟩
      · rw [List.getElem?_append_right (by simp; omega)]; simpa [show (i + 1) * 3 - 3 = i * 3 from by omega] using h1
      · rw [List.getElem?_append_right (by simp; omega)]; simpa [show (i + 1) * 3 + 1 - 3 = i * 3 + 1 from by omega] using h2
      · rw [List.getElem?_append_right (by simp; omega)]; simpa [show (i + 1) * 3 + 2 - 3 = i * 3 + 2 from by omega] using h3

theorem finfo : (Try.prog.info? 23).map (fun i => (i.zero, i.size, i.bytes)) = some (some (.agg #[.int .i64 0, .int .i64 0, .int .i64 0]), 3, 24) := by kernel_rfl

/-- a slice of forms that a call has made -/
def Forms (w : World) (base : Nat) (v : Value) (l : List (Int × Int × Int)) : Prop := w.ownsRow base 23 3 v l.length (fcs l)
theorem Forms.nil0 (w : World) (base : Nat) : Forms w base (.slice none 0 0) [] := ⟨rfl, .inl ⟨rfl, rfl⟩⟩

theorem okF_rest {d a b r : Int} (hr : (b * b - d) % (4 * a) = r) (h : r ≠ 0) : okF d a b = false := by
  unfold okF
  rw [decide_eq_false_iff_not]
  rintro ⟨h1, _⟩
  exact h (by rw [← hr]; exact Int.emod_eq_zero_of_dvd h1)
theorem okF_less {d a b c : Int} (hc : (b * b - d) / (4 * a) = c) (h : c < a ∨ (c = a ∧ b < 0)) : okF d a b = false := by
  unfold okF
  rw [hc, decide_eq_false_iff_not]
  rintro ⟨_, _, _, h3, h4, _⟩
  omega
theorem formF_at {d a b c : Int} (ha : 1 ≤ a) (ha2 : a ≤ 1000) (hb : -a ≤ b) (hb2 : b ≤ a) (hd : d < 0) (hd2 : -200000 ≤ d) (hc : (b * b - d) / (4 * a) = c) (hr : (b * b - d) % (4 * a) = 0) (hca : a ≤ c) :
    formF a b c = if Int.gcd a (Int.gcd b c) ≠ 1 then (6, 0) else (0, 0) := by
  have h1 := abs_mul_le (x := b) (y := b) (p := 1000) (q := 1000) (by omega) (by omega)
  have h2 := Int.mul_ediv_add_emod (b * b - d) (4 * a)
  rw [hc, hr] at h2
  have hcb : c ≤ 1000000 := by
    have h3 : 4 * a * c ≥ 4 * c := by
      have := Int.mul_le_mul_of_nonneg_right (show 4 ≤ 4 * a by omega) (show 0 ≤ c by omega)
      omega
    omega
  unfold formF
  have hs : smallF a b c = (0, 0) := by
    unfold smallF
    rw [lookS, if_pos (small_of (by omega)), lookS, if_pos (small_of (by omega)), lookS, if_pos (small_of (by omega)), lookS]
  rw [hs, if_neg (by simp), if_neg (by omega)]
theorem okF_form {d a b c : Int} (ha : 1 ≤ a) (ha2 : a ≤ 1000) (hb : -a < b) (hb2 : b ≤ a) (hd : d < 0) (hd2 : -200000 ≤ d) (hc : (b * b - d) / (4 * a) = c) (hr : (b * b - d) % (4 * a) = 0) (hca : a ≤ c) (hcb : ¬ (c = a ∧ b < 0)) :
    (formF a b c).1 = (if okF d a b = true then 0 else 6) := by
  rw [formF_at ha ha2 (by omega) hb2 hd hd2 hc hr hca]
  unfold okF
  rw [hc]
  by_cases hg : Int.gcd a (Int.gcd b c) = 1
  · rw [if_neg (by omega), if_pos]
    rw [decide_eq_true_eq]
    exact ⟨Int.dvd_of_emod_eq_zero hr, hb, hb2, hca, hcb, hg⟩
  · rw [if_pos hg, if_neg]
    rw [decide_eq_true_eq]
    rintro ⟨_, _, _, _, _, h⟩
    exact hg h
/-- what Reduced says of such a form -/
theorem redB_at {a b c : Int} (ha : 1 ≤ a) (hb : -a ≤ b) (hb2 : b ≤ a) : redB a b c = decide (-a < b ∧ a ≤ c ∧ ¬ (c = a ∧ b < 0)) := by
  unfold redB
  rw [Bool.eq_iff_iff]
  simp only [Bool.and_eq_true, Bool.or_eq_true, decide_eq_true_eq]
  omega
theorem rowF_yes {d a b : Int} {j : Nat} (hb : b = -a + j) (h : okF d a b = true) : rowF d a (j + 1) = rowF d a j ++ [frm d a b] := by
  rw [rowF, ← hb, if_pos h]
theorem rowF_no {d a b : Int} {j : Nat} (hb : b = -a + j) (h : okF d a b = false) : rowF d a (j + 1) = rowF d a j := by
  rw [rowF, ← hb, if_neg (by rw [h]; simp), List.append_nil]
theorem allF_next {d a : Int} {n : Nat} (ha : a = (n : Int) + 1) : allF d (n + 1) = allF d n ++ rowF d a (2 * (n + 1) + 1) := by rw [allF, ha]
end Go.Proofs.Ytkfjjljdhfjpbaa
