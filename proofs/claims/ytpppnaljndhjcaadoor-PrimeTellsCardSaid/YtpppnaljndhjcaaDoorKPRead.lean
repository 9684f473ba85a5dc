/- A slice of powers that may be read; a small number's parts. -/
import Derived.Test.YtpppnaljndhjcaaDoorKPartsW
namespace Go.Proofs.YtpppnaljndhjcaaDoor
open Go.RowKit

theorem PRow.far {w : World} {base : Nat} {v : Value} {l : List (Nat × Nat)} (h : PRow w base v l) {p : Addr} (hp : p.block < base) (u : Value) : PRow (w.setCell p u) base v l := ownsRow_setCell_below h hp u
/-- a slice of powers that may be read -/
def PRead (w : World) (v : Value) (l : List (Nat × Nat)) : Prop := (v = .slice none 0 0 ∧ l = []) ∨ ∃ g c, v = .slice (some ⟨g, 0, none⟩) l.length c ∧ g < w.heap.size ∧ ∀ (j : Nat) (x : Nat × Nat), l[j]? = some x → w.cell? ⟨g, j * 2, none⟩ = some (.int .i64 (x.1 : Nat)) ∧ w.cell? ⟨g, j * 2 + 1, none⟩ = some (.int .i64 (x.2 : Nat))
theorem pcs_get (l : List (Nat × Nat)) (i : Nat) (x : Nat × Nat) (h : l[i]? = some x) : (pcs l)[i * 2]? = some (.int .i64 (x.1 : Nat)) ∧ (pcs l)[i * 2 + 1]? = some (.int .i64 (x.2 : Nat)) := by
  induction l generalizing i with
  | nil => simp at h
  | cons g l ih =>
    have e : pcs (g :: l) = pcs [g] ++ pcs l := pcs_app [g] l
    rw [e, pcs_one]
    cases i with
    | zero => simp at h; subst h; simp
    | succ i =>
      simp at h
      obtain ⟨h1, h2⟩ := ih i h
      constructor
      · rw [List.getElem?_append_right (by simp; omega)]; simpa [show (i + 1) * 2 - 2 = i * 2 from by omega] using h1
      · rw [List.getElem?_append_right (by simp; omega)]; simpa [show (i + 1) * 2 + 1 - 2 = i * 2 + 1 from by omega] using h2
theorem PRow.read {w : World} {base : Nat} {v : Value} {l : List (Nat × Nat)} (h : PRow w base v l) : PRead w v l := by
  have h0 := h
  rcases h0.2 with ⟨rfl, h1⟩ | ⟨g, cap, cur, rfl, hg, hh, _⟩
  · exact .inl ⟨rfl, List.eq_nil_of_length_eq_zero h1⟩
  · refine .inr ⟨g, cap, rfl, heap_lt hh, fun j x hx => ?_⟩
    have hj : j < l.length := (List.getElem?_eq_some_iff.1 hx).1
    have := pcs_get l j x hx
    exact ⟨(World.ownsRow.cellAt h (j * 2) (by omega)).trans this.1, (World.ownsRow.cellAt h (j * 2 + 1) (by omega)).trans this.2⟩
theorem PRead.below {w w' : World} {v : Value} {l : List (Nat × Nat)} (h : PRead w v l) (k : Below w.heap.size w w') : PRead w' v l := by
  rcases h with h | ⟨g, c, e, hg, hc⟩
  · exact .inl h
  · exact .inr ⟨g, c, e, Nat.lt_of_lt_of_le hg k.size, fun j x hx => ⟨(k.cell (p := ⟨g, j * 2, none⟩) hg).trans (hc j x hx).1, (k.cell (p := ⟨g, j * 2 + 1, none⟩) hg).trans (hc j x hx).2⟩⟩
theorem PRead.form {w : World} {v : Value} {l : List (Nat × Nat)} (h : PRead w v l) : ∃ A c, v = .slice A l.length c := by
  rcases h with ⟨rfl, rfl⟩ | ⟨g, c, rfl, _⟩
  · exact ⟨none, 0, rfl⟩
  · exact ⟨_, _, rfl⟩
theorem PRead.at_ {w : World} {v : Value} {l : List (Nat × Nat)} (h : PRead w v l) {j : Nat} (hj : j < l.length) : ∃ g c x, v = .slice (some ⟨g, 0, none⟩) l.length c ∧ g < w.heap.size ∧ l[j]? = some x ∧ w.cell? ⟨g, j * 2, none⟩ = some (.int .i64 (x.1 : Nat)) ∧ w.cell? ⟨g, j * 2 + 1, none⟩ = some (.int .i64 (x.2 : Nat)) := by
  rcases h with ⟨_, rfl⟩ | ⟨g, c, e, hg, hc⟩
  · simp at hj
  · exact ⟨g, c, l[j], e, hg, List.getElem?_eq_getElem hj, hc j _ (List.getElem?_eq_getElem hj)⟩

theorem told_pr {n : Nat} {S : List Nat} (hn : n ≤ 100000000) (h1 : 1 ≤ n) (h : Told0 n S) : ∀ p ∈ S, Pr p := by
  intro p hp
  have h2 := h.2 p hp
  have h3 : p ∣ n := by rw [← h.1]; exact mem_dvd hp
  have h4 := Nat.le_of_dvd (by omega) h3
  have h5 := isB_mid h2.1 (by omega)
  rw [h2.2] at h5
  exact Pr_of h5.symm
/-- a prime by trial -/
theorem pr_chk {p : Nat} (h2 : 2 ≤ p) (h : (List.range p).all (fun d => decide (d < 2) || p % d != 0) = true) : Pr p := by
  refine ⟨h2, fun d hd => ?_⟩
  rcases Nat.lt_or_ge d p with h1 | h1
  · rw [List.all_eq_true] at h
    have h3 := h d (List.mem_range.2 h1)
    rw [Nat.mod_eq_zero_of_dvd hd] at h3
    simp at h3
    have : d ≠ 0 := fun h0 => by subst h0; have := Nat.eq_zero_of_zero_dvd hd; omega
    omega
  · exact .inr (Nat.le_antisymm (Nat.le_of_dvd (by omega) hd) h1)
/-- a small number's parts are known as soon as one rising list of primes is -/
theorem told_is {n : Nat} {S L : List Nat} (hn : n ≤ 100000000) (h1 : 1 ≤ n) (hS : Rise S) (h : Told0 n S) (hL : Rise L) (hp : ∀ p ∈ L, Pr p) (hpr : prod L = n) : S = L :=
  rise_unique hS hL (told_pr hn h1 h) hp (h.1.trans hpr.symm)
end Go.Proofs.YtpppnaljndhjcaaDoor
