/- A row of numbers of the call's own, and the library's sort of it. -/
import Derived.Test.YtpppnaljndhjcaaDoorK0
import Derived.Test.YtpppnaljndhjcaaDoorKPadD
import Derived.Test.YtpppnaljndhjcaaDoorKShelfS
import Derived.Sort.OwnSortedInts
import Derived.Deep.Onto
namespace Go.Proofs.YtpppnaljndhjcaaDoor
open Go.RowKit Go.Sort

/-- a row of numbers of the call's own -/
def Row (w : World) (base : Nat) (v : Value) (L : List Nat) : Prop := w.ownsRow base 3 1 v L.length (L.map fun p => Value.int .i64 (p : Nat))
theorem Row.below {w w' : World} {base : Nat} {v : Value} {L : List Nat} (h : Row w base v L) (k : Below w.heap.size w w') : Row w' base v L := own_below h k
theorem Row.nil (w : World) (base : Nat) : Row w base (.slice none 0 0) [] := ⟨rfl, .inl ⟨rfl, rfl⟩⟩
theorem Row.base {w : World} {base : Nat} {v : Value} {L : List Nat} (h : Row w base v L) : ∀ k, v.ownBlock = some k → base ≤ k := own_base h

theorem rise_of {S : List Nat} (h : S.Pairwise (fun a b => decide (a ≤ b) = true)) : Rise S := by
  induction S with
  | nil => trivial
  | cons p r ih =>
    rw [List.pairwise_cons] at h
    exact ⟨fun q hq => by simpa using h.1 q hq, ih h.2⟩
theorem sorted_nat (L : List Nat) : ∃ S : List Nat, ((L.map fun p => ((p : Nat) : Int)).mergeSort fun x y => decide (x ≤ y)) = S.map (fun p => ((p : Nat) : Int)) ∧ Rise S ∧ S.Perm L := by
  refine ⟨L.mergeSort fun x y => decide (x ≤ y), ?_, ?_, List.mergeSort_perm _ _⟩
  · rw [List.map_mergeSort (s := fun x y => decide (x ≤ y))]
    intro a _ b _
    simp
  · refine rise_of (List.pairwise_mergeSort (fun a b c h1 h2 => ?_) (fun a b => ?_) L)
    · simp only [decide_eq_true_eq] at *; omega
    · simp only [Bool.or_eq_true, decide_eq_true_eq]; omega

theorem map_cast (L : List Nat) : (L.map fun p => Value.int .i64 (p : Nat)) = (L.map fun p => ((p : Nat) : Int)).map (Value.int .i64) := by
  rw [List.map_map]; rfl

/-- the library's sort of a row of the call's own -/
theorem sort_row (w : World) (base : Nat) (v : Value) (L : List Nat) (hb : base ≤ w.heap.size) (hL : L.length ≤ 1000) (hR : Row w base v L) :
    Calls Tryd.prog 38 #[v] w fun e w' => e = .returned (.tuple #[]) ∧ ∃ S, Rise S ∧ S.Perm L ∧ Row w' base v S ∧ Below base w w' := by
  obtain ⟨S, hs, hr, hp⟩ := sorted_nat L
  have hlen : S.length = L.length := hp.length_eq
  obtain ⟨h1, h2⟩ := hR
  rcases h2 with ⟨rfl, h0⟩ | ⟨g, cap, cur, rfl, hg, hh, hc1, hc2, hc3, hc4⟩
  · have hLn : L = [] := List.eq_nil_of_length_eq_zero h0
    subst hLn
    have hSn : S = [] := List.eq_nil_of_length_eq_zero hlen
    subst hSn
    refine (Tryd.slices_Sort_int_none none 0 w).mono ?_
    rintro e w' ⟨rfl, rfl⟩
    exact ⟨rfl, [], trivial, List.Perm.nil, Row.nil _ _, Below.refl _ _⟩
  · have hz : (L.map fun p => ((p : Nat) : Int)).length = L.length := List.length_map _
    have hH : Holds (Value.int .i64) w g 0 (L.map fun p => ((p : Nat) : Int)).toArray := holds_of_blockI hh (by rw [hz, ← map_cast]; rw [Nat.mul_one] at hc4; exact hc4)
    have hC := Tryd.slices_Sort_int g 0 cap (L.map fun p => ((p : Nat) : Int)) w hH (heap_lt hh) (by rw [hz]; omega)
    rw [hz, hs] at hC
    refine hC.mono ?_
    rintro e w' ⟨rfl, n, os, rfl⟩
    refine ⟨rfl, S, hr, hp, ?_, ?_⟩
    · have := ownsRow_sortedI (w := w) (base := base) (g := g) (cap := cap) (n := n) (os := os) (ss := L.map fun p => ((p : Nat) : Int)) (ts := S.map fun p => ((p : Nat) : Int)) (by simp [hlen]) hg hh (by rw [hz]; exact hc1) hc2 hc3
      rw [hz, ← map_cast] at this
      unfold Row
      rw [hlen]
      exact this
    · exact (Below.refl _ _).grown (grownBy_sortedI _) hb (fun k hk => by injection hk with hk; omega)
end Go.Proofs.YtpppnaljndhjcaaDoor
