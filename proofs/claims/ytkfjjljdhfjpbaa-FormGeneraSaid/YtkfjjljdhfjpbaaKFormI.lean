/- The walk of formBegun. -/
import Derived.Test.YtkfjjljdhfjpbaaKFormH
namespace Go.Proofs.Ytkfjjljdhfjpbaa
open Go.RowKit

theorem n23 {n : Nat} (h1 : 3 * (n : Int) * n ≤ 23) (h2 : 23 < 3 * ((n : Int) + 1) * ((n : Int) + 1)) : n = 2 := by
  rcases Nat.lt_or_ge n 2 with h | h
  · have : n = 0 ∨ n = 1 := by omega
    rcases this with rfl | rfl <;> simp at h2
  · rcases Nat.lt_or_ge 2 n with h | h
    · have := Int.mul_le_mul (a := 3) (b := 3) (c := (n : Int)) (d := (n : Int)) (by omega) (by omega) (by omega) (by omega)
      rw [Int.mul_assoc] at h1
      omega
    · omega
theorem Forms.len {w : World} {base : Nat} {v : Value} {l : List (Int × Int × Int)} (h : Forms w base v l) : ∃ a c, v = .slice a l.length c := by
  obtain ⟨_, h2⟩ := h
  rcases h2 with ⟨rfl, h2⟩ | ⟨g, cap, cur, rfl, _⟩
  · exact ⟨none, 0, by rw [h2]⟩
  · exact ⟨_, _, rfl⟩

set_option maxRecDepth 100000 in
set_option maxHeartbeats 3200000 in
theorem formBegun_any (w : World) : Calls Try.prog 8 #[] w fun e w' => e = .returned (.bool true) ∧ Below w.heap.size w w' := by
  have C1 := fun W => hide (compose_begun W)
  have C2 := fun W => hide (classes_any (-23) W)
  simp only [fv] at C1
  go_enter Try.func8, Try.ntmps8
  go_wp2_with fail
  refine (C1 _).out.mono ?_
  rintro e w1 ⟨rfl, hb⟩
  have B1 := hide ((bel_obj w _).trans (hb.mono (by simp)))
  clear hb
  go_wp2_with fail
  refine (C2 _).out.mono ?_
  rintro e w2 ⟨v, rfl, _, hv, hb⟩
  obtain ⟨n, hn1, hn2, _, hf⟩ := hv (by decide)
  obtain rfl := n23 (by simpa using hn1) (by simpa using hn2)
  rw [show ClsF (-23) = (0, 0) from by decide]
  obtain ⟨aa, cc, rfl⟩ := hf.len
  rw [show (allF (-23) 2).length = 3 from by decide]
  simp only [fv]
  have N1 := ((MC.made w1 2 (-1) 3).below (bel_obj _ (.cells #[.int .i64 0, .int .i64 0] 26))).below hb
  have N2 := (FC.fresh (w1.alloc (.cells #[.int .i64 2, .int .i64 (-1), .int .i64 3] 23))).below hb
  rw [World.size_alloc] at N2
  have B2 := hide (B1.out.trans ((below_new (below_new hb)).mono B1.out.size))
  obtain ⟨a0, a1, a2⟩ := N1.cells
  obtain ⟨b0, b1, _, _⟩ := N2.cells
  have hl1 := N1.lt
  have hl2 := N2.lt
  clear hb N1 N2 hf hv hn1 hn2
  go_wp2_with fail
  go_ret
  exact ⟨rfl, B2.out.alloc B2.out.size _⟩
end Go.Proofs.Ytkfjjljdhfjpbaa
