/- The walk of the law WholeJoins. -/
import Derived.Test.YtddnchjnbgdocaaJoined
import Derived.Test.YtddnchjnbgdocaaSlices
import Derived.Test.YtddnchjnbgdocaaBegunW
import Derived.Test.YtddnchjnbgdocaaDividesW
namespace Go.Proofs.Ytddnchjnbgdocaa
open Go.RowKit

theorem joined_any (A B : Option Addr) (n c m d : Nat) (rs ms : List Int) (w : World) (hrs : rs.length = n) (hms : ms.length = m) (hA : Ints w w.heap.size A rs) (hB : Ints w w.heap.size B ms) :
    Calls Try.prog 8 #[.slice A n c, .slice B m d] w (RetJoin w rs ms) := by
  by_cases h : 1000 < n ∨ 1000 < m
  · exact joined_many A B n c m d rs ms w hrs hms h
  · by_cases h2 : n = m
    · subst h2
      exact joined_main A B n c d rs ms w hrs hms (by omega) hA hB
    · exact joined_size A B n c m d rs ms w hrs hms (by omega) (by omega) h2

set_option maxRecDepth 100000 in
set_option maxHeartbeats 1600000 in
theorem joins_law (A B : Option Addr) (n c m d : Nat) (l1 l2 : List Int) (w : World) (h1 : Ints w w.heap.size A l1 ∧ l1.length = n ∧ n * 8 ≤ 140737488351232 ∧ (A = none → n = 0 ∧ c = 0)) (h2 : Ints w w.heap.size B l2 ∧ l2.length = m ∧ m * 8 ≤ 140737488351232 ∧ (B = none → m = 0 ∧ d = 0)) :
    Calls Try.prog 3 #[.slice A n c, .slice B m d] w fun e w' => e = .returned (.bool true) ∧ Below w.heap.size w w' := by
  have H1 := hide h1
  have H2 := hide h2
  have CW := fun W => hide (begun_any W)
  clear h1 h2
  go_enter Try.func3, Try.ntmps3
  go_wp2_with (at_builtin; refine wpList_copy_ints rfl _ _ rfl rfl w.heap.size A n c l1 rfl H1.out.2.1 H1.out.1 H1.out.2.2.2 (by have := H1.out.2.2.1; omega) ?_)
  intro A1 c1 w1 hI hb
  have B1 := hide hb
  have I1 := hide hI
  clear hI hb
  go_wp2_with (at_builtin; refine wpList_copy_ints rfl _ _ rfl rfl w.heap.size B m d l2 rfl H2.out.2.1 (H2.out.1.below B1.out (Nat.le_refl _)) H2.out.2.2.2 (by have := H2.out.2.2.1; omega) ?_)
  intro A2 c2 w2 hI hb
  have B2 := hide (B1.out.trans (hb.mono B1.out.size))
  have I12 := hide ((I1.out.below hb (Nat.le_refl _)).more hb.size)
  have I2 := hide hI
  have CJ := hide (join_any A1 A2 n c1 m c2 l1 l2 w2 H1.out.2.1 H2.out.2.1 I12.out I2.out)
  clear hI hb
  go_wp2_with fail
  refine CJ.out.mono ?_
  rintro e w3 ⟨o, hj, rfl, hb⟩
  have HJ := hide hj
  have B3 := hide (B2.out.trans (hb.mono B2.out.size))
  have I13 := hide ((I12.out.below hb (Nat.le_refl _)).more hb.size)
  have I23 := hide ((I2.out.below hb (Nat.le_refl _)).more hb.size)
  obtain ⟨o1, o2, o3, o4⟩ := o
  simp only [fv]
  have bn := bel_new w3 (.cells #[.int .i64 o3, .int .i64 o4] 24)
  have CD := hide (joined_any A B n c m d l1 l2 _ H1.out.2.1 H2.out.2.1 (((H1.out.1.below B3.out (Nat.le_refl _)).below bn (Nat.le_trans B3.out.size (Nat.le_refl _))).more (Nat.le_trans B3.out.size bn.size)) (((H2.out.1.below B3.out (Nat.le_refl _)).below bn (Nat.le_trans B3.out.size (Nat.le_refl _))).more (Nat.le_trans B3.out.size bn.size)))
  have BN := hide bn
  clear hj hb bn CJ
  go_wp2_with fail
  refine CD.out.mono ?_
  rintro e w4 ⟨o, hj, rfl, hb⟩
  obtain rfl := joinAll_one HJ.out hj
  simp only [fv]
  have G1 := (FC.made w3 o3 o4).below hb
  have B4 := hide (B3.out.trans ((BN.out.trans (hb.mono BN.out.size)).mono B3.out.size))
  have I14 := hide ((I13.out.below (BN.out.trans (hb.mono BN.out.size)) (Nat.le_refl _)).more (BN.out.trans (hb.mono BN.out.size)).size)
  have I24 := hide ((I23.out.below (BN.out.trans (hb.mono BN.out.size)) (Nat.le_refl _)).more (BN.out.trans (hb.mono BN.out.size)).size)
  have hl1 := G1.lt
  have BN4 := hide (bel_new w4 (.cells #[.int .i64 o3, .int .i64 o4] 24))
  clear hj hb CD
  go_wp2_with fail
  refine (CW _).out.mono ?_
  rintro e w5 ⟨rfl, hb⟩
  have E1 := ((G1.below (bel_new w4 (.cells #[.int .i64 o3, .int .i64 o4] 24)))).below hb
  have E2 := (FC.made w4 o3 o4).below hb
  have b45 := BN4.out.trans (hb.mono BN4.out.size)
  have B5 := hide (B4.out.trans (b45.mono B4.out.size))
  have I15 := hide ((I14.out.below b45 (Nat.le_refl _)).more b45.size)
  have I25 := hide ((I24.out.below b45 (Nat.le_refl _)).more b45.size)
  have J15 := hide ((H1.out.1.below B5.out (Nat.le_refl _)).more B5.out.size)
  have J25 := hide ((H2.out.1.below B5.out (Nat.le_refl _)).more B5.out.size)
  obtain ⟨a0, a1, _, _⟩ := E1.cells
  obtain ⟨b0, b1, _, _⟩ := E2.cells
  have CI := hide (ints_same A1 A n c1 c l1 w5 H1.out.2.1 (by have := H1.out.2.2.1; omega) I15.out J15.out)
  clear hb G1 E1 E2 hl1 b45
  go_wp2_with fail
  refine CI.out.mono ?_
  rintro e w6 ⟨rfl, k, rfl⟩
  have b56 := below_drewN (Below.refl w5.heap.size w5) k
  have CI2 := hide (ints_same A2 B m c2 d l2 (w5.drewN k) H2.out.2.1 (by have := H2.out.2.2.1; omega) (I25.out.below b56 (Nat.le_refl _)) (J25.out.below b56 (Nat.le_refl _)))
  have B6 := hide (B5.out.trans (b56.mono B5.out.size))
  clear b56
  go_wp2_with fail
  refine CI2.out.mono ?_
  rintro e w7 ⟨rfl, k2, rfl⟩
  go_wp2_with fail
  go_ret
  exact ⟨rfl, below_drewN B5.out (k + k2)⟩

theorem joins_any (A : Option Addr) (n c : Nat) (z1 : List Int) (B : Option Addr) (m d : Nat) (z2 : List Int) (w : World) (h1 : IsRow .i64 w A n c z1) (h2 : IsRow .i64 w B m d z2) :
    Calls Try.prog 3 #[.slice A n c, .slice B m d] w fun e w' => e = .returned (.bool true) ∧ Below w.heap.size w w' := by
  have a := h1.ints
  have b := h2.ints
  exact joins_law A B n c m d _ _ w ⟨a.1, a.2.1, a.2.2.1, a.2.2.2.1⟩ ⟨b.1, b.2.1, b.2.2.1, b.2.2.2.1⟩
end Go.Proofs.Ytddnchjnbgdocaa
