/- The document's Ints of two rows of numbers. -/
import Derived.Test.YtkfjjljdhfjpbaaKGenR
namespace Go.Proofs.Ytkfjjljdhfjpbaa
open Go.RowKit

/-- a row, read -/
theorem NRow.open_ {w : World} {base : Nat} {v : Value} {L : List Nat} (h : NRow w base v L) : ∃ A c, v = .slice A L.length c ∧ ∀ (j z : Nat), L[j]? = some z → ∃ g, A = some ⟨g, 0, none⟩ ∧ g < w.heap.size ∧ w.cell? ⟨g, j, none⟩ = some (.int .i64 (z : Nat)) := by
  obtain ⟨h1, h2 | ⟨g, cap, cur, rfl, h3, h4, h5, h6, h7, h8⟩⟩ := h
  · obtain ⟨rfl, h2⟩ := h2
    refine ⟨none, 0, by rw [h2], fun j z hj => ?_⟩
    rw [List.eq_nil_of_length_eq_zero h2] at hj
    simp at hj
  · refine ⟨_, cap, rfl, fun j z hj => ⟨g, rfl, (Array.getElem?_eq_some_iff.1 h4).1, ?_⟩⟩
    have hu : (L.map fun p => Value.int .i64 (p : Nat))[j]? = some (.int .i64 (z : Nat)) := by rw [List.getElem?_map, hj]; rfl
    rw [← h8, List.getElem?_take] at hu
    split at hu
    · rw [Array.getElem?_toList] at hu
      simp [World.cell?, h4, hu]
    · cases hu

set_option maxRecDepth 100000 in
set_option maxHeartbeats 1600000 in
theorem ints_nrow (v1 v2 : Value) (L M : List Nat) (b1 b2 : Nat) (w : World) (h1 : NRow w b1 v1 L) (h2 : NRow w b2 v2 M) (hl : L.length ≤ 10000) (hm : M.length ≤ 10000) :
    Calls Try.prog 9 #[v1, v2] w fun e w' => e = .returned (.bool (decide (L = M))) ∧ Below w.heap.size w w' := by
  obtain ⟨A, c1, rfl, HA⟩ := h1.open_
  obtain ⟨B, c2, rfl, HB⟩ := h2.open_
  have HA := hide HA
  have HB := hide HB
  obtain ⟨n, hn⟩ : ∃ n, L.length = n := ⟨_, rfl⟩
  obtain ⟨m, hm'⟩ : ∃ m, M.length = m := ⟨_, rfl⟩
  have HL := hide hn
  have HM := hide hm'
  rw [hn] at hl ⊢
  rw [hm'] at hm ⊢
  clear h1 h2 hn hm'
  go_enter Try.func9, Try.ntmps9
  by_cases hnm : n = m
  · subst hnm
    have q0 : ((n : Int) != (n : Int)) = false := by simp
    go_wp2_with fail
    go_loopw [5] (fun x wr => ∃ k : Nat, x = .int .i64 k ∧ k ≤ n ∧ Hid (L.take k = M.take k) ∧ Hid (Below w.heap.size w wr)) (fun x _ => n - (intOf x).toNat)
    case atStart => exact ⟨0, rfl, by omega, hide (by simp), hide (Below.refl _ _)⟩
    case round =>
      obtain ⟨k, rfl, hk, HT, HW⟩ := hrel
      by_cases hkn : k < n
      · obtain ⟨x, hx⟩ : ∃ x, L[k]? = some x := ⟨_, List.getElem?_eq_getElem (by rw [HL.out]; exact hkn)⟩
        obtain ⟨y, hy⟩ : ∃ y, M[k]? = some y := ⟨_, List.getElem?_eq_getElem (by rw [HM.out]; exact hkn)⟩
        obtain ⟨g, rfl, hg, hc⟩ := HA.out k x hx
        obtain ⟨g', rfl, hg', hc'⟩ := HB.out k y hy
        have a1 := (HW.out.cell (p := ⟨g, k, none⟩) hg).trans hc
        have a2 := (HW.out.cell (p := ⟨g', k, none⟩) hg').trans hc'
        have HX := hide hx
        have HY := hide hy
        have i1 : (k : Int) < (n : Int) := by omega
        clear hx hy hg hg' hc hc'
        by_cases hxy : x = y
        · subst hxy
          have q1 : ((x : Int) != (x : Int)) = false := by simp
          have HT2 : Hid (L.take (k + 1) = M.take (k + 1)) := hide (by rw [List.take_add_one, List.take_add_one, HT.out, HX.out, HY.out])
          go_wp2_with fail
          go_quiet (fail)
          go_wp2_with fail
          exact ⟨⟨k + 1, by simp, by omega, HT2, hide (below_drewN HW.out _)⟩, by simp [intOf]; omega⟩
        · have q1 : ((x : Int) != (y : Int)) = true := by simp; omega
          have HNE : Hid (decide (L = M) = false) := hide (by
            rw [decide_eq_false_iff_not]
            intro e
            have h := HX.out
            rw [e, HY.out] at h
            injection h with h
            exact hxy h.symm)
          clear hxy
          go_wp2_with fail
          go_quiet (fail)
          go_wp2_with fail
          go_ret
          exact ⟨by rw [HNE.out]; rfl, below_drewN HW.out _⟩
      · have HEQ : Hid (decide (L = M) = true) := hide (by
          rw [decide_eq_true_eq]
          have h := HT.out
          rwa [List.take_of_length_le (by rw [HL.out]; omega), List.take_of_length_le (by rw [HM.out]; omega)] at h)
        go_wp2_with fail
        go_ret
        exact ⟨by rw [HEQ.out]; rfl, HW.out⟩
  · have q0 : ((n : Int) != (m : Int)) = true := by simp; omega
    have HNE : Hid (decide (L = M) = false) := hide (by
      rw [decide_eq_false_iff_not]
      intro e
      rw [e, HM.out] at HL
      exact hnm HL.out.symm)
    go_wp2_with fail
    go_ret
    exact ⟨by rw [HNE.out]; rfl, Below.refl _ _⟩
end Go.Proofs.Ytkfjjljdhfjpbaa
