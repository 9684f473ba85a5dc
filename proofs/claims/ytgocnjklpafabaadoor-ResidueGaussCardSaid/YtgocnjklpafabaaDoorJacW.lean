/- The walks of residue.symbol and Jacobi. Under the bounds of the document's numbers. -/
import Derived.Test.YtgocnjklpafabaaDoorJacLaw
import Derived.Test.YtgocnjklpafabaaDoorWholeB
import Derived.Test.YtgocnjklpafabaaDoorPolyLaw
import Derived.Test.YtgocnjklpafabaaDoorLook
import Derived.Deep.LoopGhost
namespace Go.Proofs.YtgocnjklpafabaaDoor
open Go.RowKit

theorem neg_sign {s : Int} (h : s = 1 ∨ s = -1) : -s = 1 ∨ -s = -1 := by omega
set_option maxRecDepth 100000 in
set_option maxHeartbeats 6400000 in
theorem symbol_any (a : Int) (n : Nat) (w : World) (hn : n % 2 = 1) (hn2 : n ≤ 1000000000000000000) (ha : -1000000000000000000 ≤ a) (ha2 : a ≤ 1000000000000000000) :
    Calls Tryd.prog 18 #[.int .i64 a, .int .i64 n] w fun e w' => e = .returned (.int .i64 (jac (a % n).toNat n)) ∧ w = w' := by
  have C1 := hide (mod_any a n w (by omega) (by omega) (by omega) (by omega))
  have y0 := Int.emod_nonneg a (b := (n : Int)) (by omega)
  have y1 := Int.emod_lt_of_pos a (show (0 : Int) < n by omega)
  obtain ⟨A, hA⟩ : ∃ A : Nat, a % (n : Int) = A := ⟨(a % (n : Int)).toNat, by omega⟩
  rw [hA] at C1 y1 ⊢
  rw [show ((A : Int)).toNat = A from rfl]
  have hAn : A < n := by omega
  obtain ⟨J, hJ⟩ : ∃ J, jac A n = J := ⟨_, rfl⟩
  rw [hJ]
  have HJ := hide hJ
  clear ha ha2 y0 y1 hA hJ
  go_enter Tryd.func18, Tryd.ntmps18
  go_wp2_with fail
  refine C1.out.mono ?_
  rintro e w1 ⟨rfl, rfl⟩
  go_wp2_with fail
  go_loopg [0, 1, 5] A (fun N x y o wr => ∃ (A M : Nat) (s : Int), N = A ∧ x = .int .i64 A ∧ y = .int .i64 M ∧ o = .int .i64 s ∧ A < M ∧ M ≤ 1000000000000000000 ∧ M % 2 = 1 ∧ (s = 1 ∨ s = -1) ∧ Hid (s * jac A M = J) ∧ wr = w)
  case atStart => exact ⟨A, n, 1, rfl, rfl, rfl, rfl, hAn, hn2, hn, .inl rfl, by unfold Hid; rw [Int.one_mul]; exact HJ.out, rfl⟩
  case round =>
    clear HJ hAn hn2 hn C1
    obtain ⟨A, M, s, hN, rfl, rfl, rfl, hAM, hM, hMo, hs, HJ, rfl⟩ := hrel
    by_cases hA0 : A = 0
    · as_aux_lemma =>
      subst hA0
      by_cases hM1 : M = 1
      · have HE : Hid (s = J) := by have := HJ.out; rw [jac_zero, if_pos hM1, Int.mul_one] at this; exact this
        subst hM1
        clear hN hAM hM hMo hs
        go_wp2_with fail
        go_ret
        exact ⟨ret_int HE.out, rfl⟩
      · have HE : Hid ((0 : Int) = J) := by have := HJ.out; rw [jac_zero, if_neg hM1, Int.mul_zero] at this; exact this
        have q1 : ((M : Int) != 1) = true := by simp; omega
        clear hN hAM hM hMo hs hM1
        go_wp2_with fail
        go_ret
        exact ⟨ret_int HE.out, rfl⟩
    · have q1 : ((A : Int) != 0) = true := by simp; omega
      go_wp2_with fail
      go_loopg [0, 5] A (fun K x o wq => ∃ (B : Nat) (s : Int), K = B ∧ x = .int .i64 B ∧ o = .int .i64 s ∧ 1 ≤ B ∧ B ≤ A ∧ (s = 1 ∨ s = -1) ∧ Hid (s * jac B M = J) ∧ wq = wr)
      case atStart => exact ⟨A, s, rfl, rfl, rfl, by omega, Nat.le_refl _, hs, HJ, rfl⟩
      case round =>
        clear HJ hs
        obtain ⟨B, s, hK, rfl, rfl, hB1, hBA, hs, HJ, rfl⟩ := hrel
        by_cases hB2 : B % 2 = 0
        · as_aux_lemma =>
          have hj := HJ.out
          rw [jac_even (by omega) hB2] at hj
          have e1 : (B : Int) % 2 = 0 := by omega
          obtain ⟨D, hD⟩ : ∃ D, B / 2 = D := ⟨_, rfl⟩
          have e2 : (B : Int) / 2 = (D : Int) := by omega
          have hD1 : 1 ≤ D := by omega
          have hDB : D < B := by omega
          rw [hD] at hj
          rcases (by omega : M % 8 = 1 ∨ M % 8 = 3 ∨ M % 8 = 5 ∨ M % 8 = 7) with h8 | h8 | h8 | h8
          · have e3 : (M : Int) % 8 = 1 := by omega
            rw [if_neg (by omega), Int.one_mul] at hj
            have HJ2 := hide hj
            clear hj h8 hD hB2
            go_wp2_with fail
            go_roundg D
            case measure => omega
            case rel => exact ⟨D, s, rfl, rfl, rfl, hD1, by omega, hs, HJ2, rfl⟩
          · have e3 : (M : Int) % 8 = 3 := by omega
            rw [if_pos (by omega), ← Int.mul_assoc, Int.mul_neg, Int.mul_one] at hj
            have HJ2 := hide hj
            have hs2 := neg_sign hs
            have W1 : wrap64 (-s) = -s := by unfold wrap64; omega
            have W2 : IntKind.i64.wrap (-s) = -s := by rw [IntKind.wrap_i64]; omega
            clear hj h8 hD hB2
            go_wp2_with fail
            go_roundg D
            case measure => omega
            case rel => exact ⟨D, -s, rfl, rfl, rfl, hD1, by omega, hs2, HJ2, rfl⟩
          · have e3 : (M : Int) % 8 = 5 := by omega
            rw [if_pos (by omega), ← Int.mul_assoc, Int.mul_neg, Int.mul_one] at hj
            have HJ2 := hide hj
            have hs2 := neg_sign hs
            have W1 : wrap64 (-s) = -s := by unfold wrap64; omega
            have W2 : IntKind.i64.wrap (-s) = -s := by rw [IntKind.wrap_i64]; omega
            clear hj h8 hD hB2
            go_wp2_with fail
            go_roundg D
            case measure => omega
            case rel => exact ⟨D, -s, rfl, rfl, rfl, hD1, by omega, hs2, HJ2, rfl⟩
          · have e3 : (M : Int) % 8 = 7 := by omega
            rw [if_neg (by omega), Int.one_mul] at hj
            have HJ2 := hide hj
            clear hj h8 hD hB2
            go_wp2_with fail
            go_roundg D
            case measure => omega
            case rel => exact ⟨D, s, rfl, rfl, rfl, hD1, by omega, hs, HJ2, rfl⟩
        · as_aux_lemma =>
          have hj := HJ.out
          have hBo : B % 2 = 1 := by omega
          rw [jac_odd hBo] at hj
          have e1 : (B : Int) % 2 = 1 := by omega
          have hmn : M % B < B := Nat.mod_lt _ (by omega)
          have C2 := fun W => hide (mod_any (M : Int) (B : Int) W (by omega) (by omega) (by omega) (by omega))
          rw [show (M : Int) % (B : Int) = ((M % B : Nat) : Int) from (Int.natCast_emod M B).symm] at C2
          obtain ⟨E, hE⟩ : ∃ E, M % B = E := ⟨_, rfl⟩
          rw [hE] at hj hmn C2
          have hEA : E < A := by omega
          by_cases h4 : M % 4 = 3
          · have e3 : (M : Int) % 4 = 3 := by omega
            by_cases h5 : B % 4 = 3
            · have e4 : (B : Int) % 4 = 3 := by omega
              rw [if_pos ⟨h5, h4⟩, ← Int.mul_assoc, Int.mul_neg, Int.mul_one] at hj
              have HJ2 := hide hj
              have hs2 := neg_sign hs
              have W1 : wrap64 (-s) = -s := by unfold wrap64; omega
              have W2 : IntKind.i64.wrap (-s) = -s := by rw [IntKind.wrap_i64]; omega
              clear hj hE h4 h5 hB2
              go_wp2_with fail
              refine (C2 _).out.mono ?_
              rintro e w2 ⟨rfl, rfl⟩
              go_wp2_with fail
              go_roundg E
              case measure => omega
              case rel => exact ⟨E, B, -s, rfl, rfl, rfl, rfl, hmn, by omega, hBo, hs2, HJ2, rfl⟩
            · have e4 : ((B : Int) % 4 == 3) = false := by rw [beq_eq_false_iff_ne]; omega
              rw [if_neg (fun h => h5 h.1), Int.one_mul] at hj
              have HJ2 := hide hj
              clear hj hE h4 h5 hB2
              go_wp2_with fail
              refine (C2 _).out.mono ?_
              rintro e w2 ⟨rfl, rfl⟩
              go_wp2_with fail
              go_roundg E
              case measure => omega
              case rel => exact ⟨E, B, s, rfl, rfl, rfl, rfl, hmn, by omega, hBo, hs, HJ2, rfl⟩
          · have e3 : ((M : Int) % 4 == 3) = false := by rw [beq_eq_false_iff_ne]; omega
            rw [if_neg (fun h => h4 h.2), Int.one_mul] at hj
            have HJ2 := hide hj
            clear hj hE h4 hB2
            go_wp2_with fail
            refine (C2 _).out.mono ?_
            rintro e w2 ⟨rfl, rfl⟩
            go_wp2_with fail
            go_roundg E
            case measure => omega
            case rel => exact ⟨E, B, s, rfl, rfl, rfl, rfl, hmn, by omega, hBo, hs, HJ2, rfl⟩

set_option maxRecDepth 100000 in
set_option maxHeartbeats 3200000 in
theorem jacobi_ok (a : Int) (n : Nat) (w : World) (hn : n % 2 = 1) (hn2 : n ≤ 1000000000000000000) (ha : -1000000000000000000 ≤ a) (ha2 : a ≤ 1000000000000000000) :
    Calls Tryd.prog 7 #[.int .i64 a, .int .i64 n] w fun e w' => e = .returned (.tuple #[.int .i64 (jac (a % n).toNat n), fv (0, 0)]) ∧ Below w.heap.size w w' := by
  have L : ∀ (W : World) (g : Nat), g = W.heap.size → Hid (Calls Tryd.prog 16 #[.slice (some ⟨g, 0, none⟩) 2 2] (W.alloc (.cells #[.int .i64 a, .int .i64 n] 3)) (RetFault (W.alloc (.cells #[.int .i64 a, .int .i64 n] 3)) (lookK 0 [a, (n : Int)]))) := fun W g hg => hg ▸ look_any _ 2 2 [a, (n : Int)] _ rfl (by omega) (ints_new W [a, (n : Int)] _)
  have e0 : lookK 0 [a, (n : Int)] = (0, 0) := by
    rw [lookK, if_pos (by unfold okB; simp; omega), lookK, if_pos (by unfold okB; simp; omega), lookK]
  rw [e0] at L
  unfold RetFault at L
  have CS := fun W => hide (symbol_any a n W hn hn2 ha ha2)
  obtain ⟨J, hJ⟩ : ∃ J, jac (a % n).toNat n = J := ⟨_, rfl⟩
  rw [hJ] at CS ⊢
  have q1 : decide ((n : Int) < 1) = false := by rw [decide_eq_false_iff_not]; omega
  have q2 : (n : Int) % 2 = 1 := by omega
  clear hJ e0 hn ha ha2
  go_enter Tryd.func7, Tryd.ntmps7
  go_wp2_with fail
  refine (L _ _ (by simp)).out.mono ?_
  rintro e w1 ⟨rfl, hb⟩
  simp only [fv]
  have F1 := (((FC.fresh w).below ((Below.refl _ _).alloc (Nat.le_refl _) (.cells #[.int .i64 a, .int .i64 n] 3))).below hb)
  have HF := hide (F1.below ((Below.refl _ _).alloc (Nat.le_refl _) (.cells #[.int .i64 0, .int .i64 0] 25)))
  have HB := hide (below_new (below_new2 hb))
  have HB1 := hide (HB.out.alloc HB.out.size (.cells #[.int .i64 0, .int .i64 0] 25))
  have hlt := F1.lt
  obtain ⟨d0, d1, f0, f1⟩ := F1.cells
  obtain ⟨p0, p1⟩ := F1.put 0 0
  obtain ⟨p2, p3, _, _⟩ := ((F1.set0 0).set1 0).cells
  have hb2 := below_fault (u := .int .i64 0) (v := .int .i64 0) HB.out (Nat.le_refl w.heap.size)
  have HB2 := hide (hb2.alloc hb2.size (.cells #[.int .i64 0, .int .i64 0] 25))
  clear hb F1 hb2
  go_wp2_with fail
  refine (CS _).out.mono ?_
  rintro e w2 ⟨rfl, rfl⟩
  go_wp2_with fail
  exact bodyPost_ret (v := .tuple #[.int .i64 J, fv (0, 0)]) (by simp [results, Tryd.results7, go_sem, fv, p1, p2, hlt]) rfl ⟨by simp [fv], HB2.out⟩
end Go.Proofs.YtgocnjklpafabaaDoor
