/- Rows of numbers of the call's own: the library's sort and Compact of them. -/
import Derived.Test.YtkfjjljdhfjpbaaKFormB
import Derived.Test.YtkfjjljdhfjpbaaKShelfS
import Derived.Test.YtkfjjljdhfjpbaaKShelfC
import Derived.Sort.OwnSortedInts
import Derived.Deep.Onto
namespace Go.Proofs.Ytkfjjljdhfjpbaa
open Go.RowKit Go.Sort

/-- a row of numbers of the call's own -/
def NRow (w : World) (base : Nat) (v : Value) (L : List Nat) : Prop := w.ownsRow base 3 1 v L.length (L.map fun p => Value.int .i64 (p : Nat))
theorem NRow.below {w w' : World} {base : Nat} {v : Value} {L : List Nat} (h : NRow w base v L) (k : Below w.heap.size w w') : NRow w' base v L := by
  obtain ⟨h1, h2⟩ := h
  refine ⟨h1, ?_⟩
  rcases h2 with h2 | ⟨g, cap, cur, hv, hg, hh, r⟩
  · exact .inl h2
  · exact .inr ⟨g, cap, cur, hv, hg, by rw [k.block g (Array.getElem?_eq_some_iff.1 hh).1]; exact hh, r⟩
theorem NRow.nil (w : World) (base : Nat) : NRow w base (.slice none 0 0) [] := ⟨rfl, .inl ⟨rfl, rfl⟩⟩
theorem NRow.base {w : World} {base : Nat} {v : Value} {L : List Nat} (h : NRow w base v L) : ∀ k, v.ownBlock = some k → base ≤ k := fun k hk => (h.lt k hk).1
theorem nmap_cast (L : List Nat) : (L.map fun p => Value.int .i64 (p : Nat)) = (L.map fun p => ((p : Nat) : Int)).map (Value.int .i64) := by
  rw [List.map_map]; rfl
/-- two rising lists of the same numbers are one -/
theorem rising_one {L M : List Nat} (hp : L.Perm M) (hL : L.Pairwise (· ≤ ·)) (hM : M.Pairwise (· < ·)) : L = M :=
  hp.eq_of_pairwise (fun _ _ _ _ h1 h2 => Nat.le_antisymm h1 h2) hL (hM.imp Nat.le_of_lt)
theorem sorted_nat' (L : List Nat) : ∃ S : List Nat, ((L.map fun p => ((p : Nat) : Int)).mergeSort fun x y => decide (x ≤ y)) = S.map (fun p => ((p : Nat) : Int)) ∧ S.Pairwise (· ≤ ·) ∧ S.Perm L := by
  refine ⟨L.mergeSort fun x y => decide (x ≤ y), ?_, ?_, List.mergeSort_perm _ _⟩
  · rw [List.map_mergeSort (s := fun x y => decide (x ≤ y))]
    intro a _ b _
    simp
  · refine (List.pairwise_mergeSort (le := fun x y => decide (x ≤ y)) (fun a b c h1 h2 => ?_) (fun a b => ?_) L).imp fun h => by simpa using h
    · simp only [decide_eq_true_eq] at *; omega
    · simp only [Bool.or_eq_true, decide_eq_true_eq]; omega
/-- the library's sort of a row of the call's own -/
theorem sort_nrow (w : World) (base : Nat) (v : Value) (L M : List Nat) (hb : base ≤ w.heap.size) (hL : L.length ≤ 10000) (hR : NRow w base v L) (hp : L.Perm M) (hM : M.Pairwise (· < ·)) :
    Calls Try.prog 21 #[v] w fun e w' => e = .returned (.tuple #[]) ∧ NRow w' base v M ∧ Below base w w' := by
  obtain ⟨S, hs, hr, hsp⟩ := sorted_nat' L
  obtain rfl : S = M := rising_one (hsp.trans hp) hr hM
  have hlen : S.length = L.length := hsp.length_eq
  obtain ⟨h1, h2⟩ := hR
  rcases h2 with ⟨rfl, h0⟩ | ⟨g, cap, cur, rfl, hg, hh, hc1, hc2, hc3, hc4⟩
  · have hLn : L = [] := List.eq_nil_of_length_eq_zero h0
    subst hLn
    have hSn : S = [] := List.eq_nil_of_length_eq_zero hlen
    subst hSn
    refine (Try.slices_Sort_int_none none 0 w).mono ?_
    rintro e w' ⟨rfl, rfl⟩
    exact ⟨rfl, NRow.nil _ _, Below.refl _ _⟩
  · have hz : (L.map fun p => ((p : Nat) : Int)).length = L.length := List.length_map _
    have hH : Holds (Value.int .i64) w g 0 (L.map fun p => ((p : Nat) : Int)).toArray := holds_of_blockI hh (by rw [hz, ← nmap_cast]; rw [Nat.mul_one] at hc4; exact hc4)
    have hC := Try.slices_Sort_int g 0 cap (L.map fun p => ((p : Nat) : Int)) w hH (Array.getElem?_eq_some_iff.1 hh).1 (by rw [hz]; omega)
    rw [hz, hs] at hC
    refine hC.mono ?_
    rintro e w' ⟨rfl, n, os, rfl⟩
    refine ⟨rfl, ?_, ?_⟩
    · have := ownsRow_sortedI (w := w) (base := base) (g := g) (cap := cap) (n := n) (os := os) (ss := L.map fun p => ((p : Nat) : Int)) (ts := S.map fun p => ((p : Nat) : Int)) (by simp [hlen]) hg hh (by rw [hz]; exact hc1) hc2 hc3
      rw [hz, ← nmap_cast] at this
      unfold NRow
      rw [hlen]
      exact this
    · exact (Below.refl _ _).grown (grownBy_sortedI _) hb (fun k hk => by injection hk with hk; omega)
theorem grow_none (W : World) : grow W #[] = W := by
  cases W
  simp [grow]
theorem compact_rising {zs : List Int} (h : zs.Pairwise (· < ·)) : Lib.compact zs = zs := by
  have hall : ∀ j, j < zs.toArray.size → Lib.keeps zs.toArray j = true := by
    intro j hj
    unfold Lib.keeps
    rw [decide_eq_true_eq]
    by_cases h0 : j = 0
    · exact .inl h0
    · right
      have hj' : j < zs.length := by simpa using hj
      have := List.pairwise_iff_getElem.1 h (j - 1) j (by omega) hj' (by omega)
      simp [hj', show j - 1 < zs.length by omega]
      omega
  unfold Lib.compact
  have e := Lib.compactUpTo_all zs.toArray zs.toArray.size hall
  rw [Lib.range_map_get] at e
  simpa using e
/-- the library's Compact of a rising row -/
theorem compact_nrow (w : World) (base : Nat) (v : Value) (M : List Nat) (hb : base ≤ w.heap.size) (hL : M.length ≤ 10000) (hR : NRow w base v M) (hM : M.Pairwise (· < ·)) :
    Calls Try.prog 22 #[v] w fun e w' => e = .returned v ∧ NRow w' base v M ∧ Below base w w' := by
  obtain ⟨h1, h2⟩ := hR
  rcases h2 with ⟨rfl, h0⟩ | ⟨g, cap, cur, rfl, hg, hh, hc1, hc2, hc3, hc4⟩
  · have hLn : M = [] := List.eq_nil_of_length_eq_zero h0
    subst hLn
    refine (Try.slices_Compact_int_empty none 0 w).mono ?_
    rintro e w' ⟨rfl, rfl⟩
    exact ⟨rfl, NRow.nil _ _, Below.refl _ _⟩
  · have hz : (M.map fun p => ((p : Nat) : Int)).length = M.length := List.length_map _
    have hH : Holds (Value.int .i64) w g 0 (M.map fun p => ((p : Nat) : Int)).toArray := holds_of_blockI hh (by rw [hz, ← nmap_cast]; rw [Nat.mul_one] at hc4; exact hc4)
    have hC := Try.slices_Compact_int g 0 cap (M.map fun p => ((p : Nat) : Int)) w hH (by rw [hz]; omega) (by rw [hz]; exact hc1)
    have hcp : Lib.compact (M.map fun p => ((p : Nat) : Int)) = M.map fun p => ((p : Nat) : Int) := compact_rising (by rw [List.pairwise_map]; exact hM.imp fun h => by omega)
    rw [hcp, hz, Nat.sub_self, List.replicate_zero, List.append_nil] at hC
    refine hC.mono ?_
    rintro e w' ⟨rfl, q, rfl⟩
    have hgr : w.grownBy (putRow (Value.int .i64) (Sort.ahead w q) g 0 (M.map fun p => ((p : Nat) : Int)).toArray) (some g) := by
      have := grownBy_sortedI (w := w) (g := g) (n := q) (os := #[]) (M.map fun p => ((p : Nat) : Int)).toArray
      rwa [grow_none] at this
    refine ⟨rfl, ?_, (Below.refl _ _).grown hgr hb (fun k hk => by injection hk with hk; omega)⟩
    have := ownsRow_sortedI (w := w) (base := base) (g := g) (cap := cap) (n := q) (os := #[]) (ss := M.map fun p => ((p : Nat) : Int)) (ts := M.map fun p => ((p : Nat) : Int)) rfl hg hh (by rw [hz]; exact hc1) hc2 hc3
    rw [hz, ← nmap_cast] at this
    rw [grow_none] at this
    exact this
end Go.Proofs.Ytkfjjljdhfjpbaa
