/- The walks of quad.fault, disc, Check and of the answers' Disc, FormFault, Reduced. Each under the bounds of its arguments. -/
import Derived.Test.YtkfjjljdhfjpbaaKRefG
import Derived.Test.YtkfjjljdhfjpbaaK0
namespace Go.Proofs.Ytkfjjljdhfjpbaa
open Go.RowKit

/-- a form's value -/
def fmv (f : Int × Int × Int) : Value := .agg #[.int .i64 f.1, .int .i64 f.2.1, .int .i64 f.2.2]
/-- block g holds a form -/
def MC (w : World) (g : Nat) (a b c : Int) : Prop := w.heap[g]? = some (.cells #[.int .i64 a, .int .i64 b, .int .i64 c] 23 (0, 0))
theorem MC.made (w : World) (a b c : Int) : MC (w.alloc (.cells #[.int .i64 a, .int .i64 b, .int .i64 c] 23)) w.heap.size a b c := by
  show (w.heap.push _)[w.heap.size]? = _
  simp
theorem MC.lt {w : World} {g : Nat} {a b c : Int} (h : MC w g a b c) : g < w.heap.size := heap_lt h
theorem MC.below {w w' : World} {g : Nat} {a b c : Int} (h : MC w g a b c) (k : Below w.heap.size w w') : MC w' g a b c := (k.block g h.lt).trans h
theorem MC.cells {w : World} {g : Nat} {a b c : Int} (h : MC w g a b c) : w.cell? ⟨g, 0, none⟩ = some (.int .i64 a) ∧ w.cell? ⟨g, 1, none⟩ = some (.int .i64 b) ∧ w.cell? ⟨g, 2, none⟩ = some (.int .i64 c) := by
  unfold MC at h
  exact ⟨by simp [World.cell?, h], by simp [World.cell?, h], by simp [World.cell?, h]⟩

set_option maxRecDepth 100000 in
set_option maxHeartbeats 400000 in
theorem qfault_any (c n : Int) (w : World) :
    Calls Try.prog 17 #[.int .i64 c, .int .i64 n] w fun e w' => e = .returned (.agg #[.int .i64 c, .int .i64 n]) ∧ Below w.heap.size w w' := by
  go_enter Try.func17, Try.ntmps17
  go_wp2
  exact bodyPost_ret (v := .agg #[.int .i64 c, .int .i64 n]) (by simp [results, Try.results17, go_sem]) rfl ⟨rfl, (Below.refl _ _).alloc (Nat.le_refl _) _⟩

theorem abs_mul_le {x y : Int} {p q : Nat} (hx : x.natAbs ≤ p) (hy : y.natAbs ≤ q) : -((p * q : Nat) : Int) ≤ x * y ∧ x * y ≤ ((p * q : Nat) : Int) := by
  have : (x * y).natAbs ≤ p * q := by rw [Int.natAbs_mul]; exact Nat.mul_le_mul hx hy
  omega

theorem disc_bounds {A B C : Int} (hA : A.natAbs ≤ 1000000000) (hB : B.natAbs ≤ 1000000000) (hC : C.natAbs ≤ 1000000000) :
    IntKind.i64.wrap (B * B) = B * B ∧ IntKind.i64.wrap (4 * A) = 4 * A ∧ IntKind.i64.wrap (4 * A * C) = 4 * A * C ∧ IntKind.i64.wrap (B * B - 4 * A * C) = B * B - 4 * A * C ∧ wrap64 (B * B) = B * B ∧ wrap64 (4 * A * C) = 4 * A * C ∧ wrap64 (B * B - 4 * A * C) = B * B - 4 * A * C := by
  have h1 := abs_mul_le hB hB
  have h2 := abs_mul_le (x := 4 * A) (p := 4000000000) (by omega) hC
  simp only [IntKind.wrap_i64]
  unfold wrap64
  omega

set_option maxRecDepth 100000 in
set_option maxHeartbeats 400000 in
theorem disc_any (A B C : Int) (w : World) (hA : A.natAbs ≤ 1000000000) (hB : B.natAbs ≤ 1000000000) (hC : C.natAbs ≤ 1000000000) :
    Calls Try.prog 16 #[.agg #[.int .i64 A, .int .i64 B, .int .i64 C]] w fun e w' => e = .returned (.int .i64 (B * B - 4 * A * C)) ∧ Below w.heap.size w w' := by
  obtain ⟨e1, e2, e3, e4, e5, e6, e7⟩ := disc_bounds hA hB hC
  clear hA hB hC
  go_enter Try.func16, Try.ntmps16
  go_wp2_with fail
  go_ret
  exact ⟨rfl, (Below.refl _ _).alloc (Nat.le_refl _) _⟩

set_option maxRecDepth 100000 in
set_option maxHeartbeats 400000 in
theorem rdisc_any (A B C : Int) (w : World) (hA : A.natAbs ≤ 1000000000) (hB : B.natAbs ≤ 1000000000) (hC : C.natAbs ≤ 1000000000) :
    Calls Try.prog 6 #[.agg #[.int .i64 A, .int .i64 B, .int .i64 C]] w fun e w' => e = .returned (.int .i64 (B * B - 4 * A * C)) ∧ Below w.heap.size w w' := by
  obtain ⟨e1, e2, e3, e4, e5, e6, e7⟩ := disc_bounds hA hB hC
  clear hA hB hC
  go_enter Try.func6, Try.ntmps6
  go_wp2_with fail
  go_ret
  exact ⟨rfl, (Below.refl _ _).alloc (Nat.le_refl _) _⟩

/-- the fault of a number that is not small -/
def smallB (n : Int) : Bool := decide (-1000000 ≤ n ∧ n ≤ 1000000)
/-- the fault of the first that is not small -/
def lookS : Nat → List Int → Int × Int
  | _, [] => (0, 0)
  | k, x :: r => if smallB x = true then lookS (k + 1) r else (3, k)
def smallF (A B C : Int) : Int × Int := lookS 0 [A, B, C]
theorem lookS_yes {l : List Int} {k : Nat} {x : Int} (hx : l[k]? = some x) (h : smallB x = true) : lookS k (l.drop k) = lookS (k + 1) (l.drop (k + 1)) := by
  obtain ⟨hk, rfl⟩ := List.getElem?_eq_some_iff.1 hx
  rw [List.drop_eq_getElem_cons hk, lookS, if_pos h]
theorem lookS_no {l : List Int} {k : Nat} {x : Int} (hx : l[k]? = some x) (h : smallB x = false) : lookS k (l.drop k) = (3, (k : Int)) := by
  obtain ⟨hk, rfl⟩ := List.getElem?_eq_some_iff.1 hx
  rw [List.drop_eq_getElem_cons hk, lookS, if_neg (by rw [h]; simp)]
theorem lookS_zero {A B C : Int} (h : lookS 0 [A, B, C] = (0, 0)) : smallB A = true ∧ smallB B = true ∧ smallB C = true := by
  rw [lookS] at h
  split at h
  · rw [lookS] at h
    split at h
    · rw [lookS] at h
      split at h
      · exact ⟨‹_›, ‹_›, ‹_›⟩
      · simp at h
    · simp at h
  · simp at h
/-- a form's fault -/
def formF (A B C : Int) : Int × Int :=
  if (smallF A B C).1 ≠ 0 then smallF A B C else if A < 1 ∨ 0 ≤ B * B - 4 * A * C then (7, 0) else if Int.gcd A (Int.gcd B C) ≠ 1 then (6, 0) else (0, 0)

theorem small_bounds {n : Int} (h : smallB n = true) : -1000000 ≤ n ∧ n ≤ 1000000 := by unfold smallB at h; simpa using h
theorem small_out {n : Int} (h : smallB n = false) : n < -1000000 ∨ 1000000 < n := by unfold smallB at h; simp at h; omega

/-- what Reduced says -/
def redB (A B C : Int) : Bool := decide ((B.natAbs : Int) ≤ A) && decide (A ≤ C) && (decide (0 ≤ B) || (decide (-B ≠ A) && decide (A ≠ C)))

set_option maxRecDepth 100000 in
set_option maxHeartbeats 1600000 in
theorem reduced_any (A B C : Int) (w : World) (hB : -1000000000000 ≤ B) (hB2 : B ≤ 1000000000000) :
    Calls Try.prog 26 #[.agg #[.int .i64 A, .int .i64 B, .int .i64 C]] w fun e w' => e = .returned (.bool (redB A B C)) ∧ Below w.heap.size w w' := by
  have CS := fun W => hide (size_any B W (by omega) (by omega))
  have e1 : IntKind.i64.wrap (-B) = -B := by rw [IntKind.wrap_i64]; omega
  obtain ⟨S, hS⟩ : ∃ S, (B.natAbs : Int) = S := ⟨_, rfl⟩
  have HR : Hid (redB A B C = (decide (S ≤ A) && decide (A ≤ C) && (decide (0 ≤ B) || (decide (-B ≠ A) && decide (A ≠ C))))) := by unfold Hid redB; rw [hS]
  rw [hS] at CS
  clear hS
  by_cases h1 : S ≤ A
  · by_cases h2 : A ≤ C
    · by_cases h3 : 0 ≤ B
      · have HE : Hid (redB A B C = true) := by unfold Hid; rw [HR.out]; simp [h1, h2, h3]
        have q1 : decide (S ≤ A) = true := by simpa using h1
        have q2 : decide (A ≤ C) = true := by simpa using h2
        have q3 : decide (0 ≤ B) = true := by simpa using h3
        clear HR h1 h2 h3 hB hB2
        go_enter Try.func26, Try.ntmps26
        go_wp2_with fail
        go_quiet ((go_at_call 31; exact Calls.quiet_of_same (CS _).out))
        go_wp2_with fail
        go_ret
        exact ⟨by rw [HE.out]; rfl, below_drewN ((Below.refl _ _).alloc (Nat.le_refl _) _) _⟩
      · by_cases h4 : -B = A
        · have HE : Hid (redB A B C = false) := by unfold Hid; rw [HR.out]; simp [h3, h4]
          have q1 : decide (S ≤ A) = true := by simpa using h1
          have q2 : decide (A ≤ C) = true := by simpa using h2
          have q3 : decide (0 ≤ B) = false := by simpa using h3
          have q4 : (-B != A) = false := by simpa using h4
          clear HR h1 h2 h3 h4 hB hB2
          go_enter Try.func26, Try.ntmps26
          go_wp2_with fail
          go_quiet ((go_at_call 31; exact Calls.quiet_of_same (CS _).out))
          go_wp2_with fail
          go_ret
          exact ⟨by rw [HE.out]; rfl, below_drewN ((Below.refl _ _).alloc (Nat.le_refl _) _) _⟩
        · by_cases h5 : A = C
          · have HE : Hid (redB A B C = false) := by unfold Hid; rw [HR.out]; simp [h3, h5]
            have q1 : decide (S ≤ A) = true := by simpa using h1
            have q2 : decide (A ≤ C) = true := by simpa using h2
            have q3 : decide (0 ≤ B) = false := by simpa using h3
            have q4 : (-B != A) = true := by simpa using h4
            have q5 : (A != C) = false := by simpa using h5
            clear HR h1 h2 h3 h4 h5 hB hB2
            go_enter Try.func26, Try.ntmps26
            go_wp2_with fail
            go_quiet ((go_at_call 31; exact Calls.quiet_of_same (CS _).out))
            go_wp2_with fail
            go_ret
            exact ⟨by rw [HE.out]; rfl, below_drewN ((Below.refl _ _).alloc (Nat.le_refl _) _) _⟩
          · have HE : Hid (redB A B C = true) := by unfold Hid; rw [HR.out]; simp [h1, h2, h4, h5]
            have q1 : decide (S ≤ A) = true := by simpa using h1
            have q2 : decide (A ≤ C) = true := by simpa using h2
            have q3 : decide (0 ≤ B) = false := by simpa using h3
            have q4 : (-B != A) = true := by simpa using h4
            have q5 : (A != C) = true := by simpa using h5
            clear HR h1 h2 h3 h4 h5 hB hB2
            go_enter Try.func26, Try.ntmps26
            go_wp2_with fail
            go_quiet ((go_at_call 31; exact Calls.quiet_of_same (CS _).out))
            go_wp2_with fail
            go_ret
            exact ⟨by rw [HE.out]; rfl, below_drewN ((Below.refl _ _).alloc (Nat.le_refl _) _) _⟩
    · have HE : Hid (redB A B C = false) := by unfold Hid; rw [HR.out]; simp [h2]
      have q1 : decide (S ≤ A) = true := by simpa using h1
      have q2 : decide (A ≤ C) = false := by simpa using h2
      clear HR h1 h2 hB hB2
      go_enter Try.func26, Try.ntmps26
      go_wp2_with fail
      go_quiet ((go_at_call 31; exact Calls.quiet_of_same (CS _).out))
      go_wp2_with fail
      go_ret
      exact ⟨by rw [HE.out]; rfl, below_drewN ((Below.refl _ _).alloc (Nat.le_refl _) _) _⟩
  · have HE : Hid (redB A B C = false) := by unfold Hid; rw [HR.out]; simp [h1]
    have q1 : decide (S ≤ A) = false := by simpa using h1
    clear HR h1 hB hB2
    go_enter Try.func26, Try.ntmps26
    go_wp2_with fail
    go_quiet ((go_at_call 31; exact Calls.quiet_of_same (CS _).out))
    go_wp2_with fail
    go_ret
    exact ⟨by rw [HE.out]; rfl, below_drewN ((Below.refl _ _).alloc (Nat.le_refl _) _) _⟩
end Go.Proofs.Ytkfjjljdhfjpbaa
