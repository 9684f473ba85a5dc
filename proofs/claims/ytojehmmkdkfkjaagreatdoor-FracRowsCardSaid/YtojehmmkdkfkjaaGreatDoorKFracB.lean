/- The walk of fracBegun: the document's examples. -/
import Derived.Test.YtojehmmkdkfkjaaGreatDoorKDecW
namespace Go.Proofs.YtojehmmkdkfkjaaGreatDoor
open Go.RowKit

theorem path_35 {l : List Bool} (h : node l = ((3 : Int).toNat, (5 : Int).toNat)) : l = [false, true, false] := node_inj _ _ (by rw [h]; decide)
theorem dec_16 {A K : Nat} (h : DecOk 6 1 A K) : A = 1 ∧ K = 1 := by
  have r0 : rst 6 1 0 = 1 := by decide
  have r1 : rst 6 1 1 = 4 := by decide
  have r2 : rst 6 1 2 = 4 := by decide
  have h1 : A + K ≤ 2 := by
    rcases Nat.lt_or_ge 2 (A + K) with h2 | h2
    · have := h.diff 1 2 (by omega) (by omega)
      rw [r1, r2] at this
      exact absurd rfl this
    · exact h2
  rcases Nat.eq_zero_or_pos K with hK | hK
  · have h2 := (h.fin hK).1
    have : A = 0 ∨ A = 1 ∨ A = 2 := by omega
    rcases this with rfl | rfl | rfl
    · rw [r0] at h2; omega
    · rw [r1] at h2; omega
    · rw [r2] at h2; omega
  · have h2 := (h.inf hK).2
    have : (A = 0 ∧ K = 1) ∨ (A = 0 ∧ K = 2) ∨ (A = 1 ∧ K = 1) := by omega
    rcases this with ⟨rfl, rfl⟩ | ⟨rfl, rfl⟩ | ⟨rfl, rfl⟩
    · rw [r0, show 0 + 1 = 1 from rfl, r1] at h2; omega
    · rw [r0, show 0 + 2 = 2 from rfl, r2] at h2; omega
    · exact ⟨rfl, rfl⟩
theorem dec_zero : Lib.decDigits 0 = [48] := by rw [Lib.decDigits, dif_pos (by omega)]; rfl
theorem text_16 {s : List UInt8} (h : DecText 1 6 s) : s = [48, 46, 49, 40, 54, 41] := by
  obtain ⟨A, K, hd, _, rfl⟩ := h.2 (by decide)
  obtain ⟨rfl, rfl⟩ := dec_16 hd
  rw [show (1 : Int).natAbs / (6 : Int).toNat = 0 from rfl, dec_zero]
  decide

set_option maxRecDepth 100000 in
set_option maxHeartbeats 3200000 in
theorem fracBegun_any (w : World) (hT : TabW w) (hP : PowW w) : Calls Tryz.prog 7 #[] w fun e w' => e = .returned (.bool true) ∧ Below w.heap.size w w' := by
  have C1 := hide (path_any 3 5 w)
  have HT := hide hT
  have HP := hide hP
  clear hT hP
  go_enter Tryz.func7, Tryz.ntmps7
  go_wp2_with fail
  refine C1.out.mono ?_
  rintro e w1 ⟨s, rfl, _, h1, hb⟩
  have e1 : pathF 3 5 = (0, 0) := by decide
  rw [e1] at h1 ⊢
  obtain ⟨l, rfl, hl, _⟩ := h1 rfl
  obtain rfl := path_35 hl
  rw [show wb [false, true, false] = [76, 82, 76] from by decide]
  simp only [fv]
  have HB1 := hide (hb.alloc hb.size (.cells #[.int .i64 0, .int .i64 0] 25))
  have F1 := hide (FC.made w1 0 0)
  have C2 := hide (decimal_any 1 6 (w1.alloc (.cells #[.int .i64 0, .int .i64 0] 25)) (HT.out.below HB1.out) (HP.out.below HB1.out))
  clear hb hl h1 e1 C1
  go_wp2_with fail
  refine C2.out.mono ?_
  rintro e w2 ⟨s, rfl, _, h1, hb⟩
  have e1 : decF 1 6 = (0, 0) := by decide
  rw [e1] at h1 ⊢
  obtain rfl := text_16 (h1 rfl)
  simp only [fv]
  have HB2 := hide (HB1.out.trans (hb.mono HB1.out.size))
  have HB3 := hide (HB2.out.alloc HB2.out.size (.cells #[.int .i64 0, .int .i64 0] 25))
  have F2 := hide ((F1.out.below hb).below (bel_f w2 (.cells #[.int .i64 0, .int .i64 0] 25)))
  obtain ⟨d0, d1, _, _⟩ := F2.out.cells
  obtain ⟨d2, d3, _, _⟩ := (FC.made w2 0 0).cells
  clear hb h1 e1 C2
  go_wp2_with fail
  go_ret
  exact ⟨rfl, HB3.out⟩
end Go.Proofs.YtojehmmkdkfkjaaGreatDoor
