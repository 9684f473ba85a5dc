/- The walk of the law EquationLegendre. -/
import Derived.Test.YtlchmaiflcnaoaaKEqBeg
import Derived.Test.YtlchmaiflcnaoaaKLgdG
import Derived.Test.YtlchmaiflcnaoaaKLinW
import Derived.Test.YtlchmaiflcnaoaaKMarkV
import Derived.Deep.LoopGhost
namespace Go.Proofs.Ytlchmaiflcnaoaa
open Go.RowKit

theorem new2L {w0 w : World} {L : List (Nat × Int)} (h : Own w0 w L) : Own w0 ((w.alloc (.cells #[.bool false, .slice none 0 0] 58)).alloc (.cells #[.bool false, .slice none 0 0] 58)) ((w.heap.size + 1, 0) :: (w.heap.size, 0) :: L) := by
  have := h.new.new
  rwa [World.size_alloc] at this
/-- the sum that is checked -/
def lgs (a b c : Int) (x y z : Int) : Nat → Int
  | 0 => 0
  | n + 1 => lgs a b c x y z n + tri a b c n * (tri x y z n * tri x y z n)
theorem lgs_three (a b c x y z : Int) : lgs a b c x y z 3 = a * x * x + b * y * y + c * z * z := by
  simp [lgs, tri]
  grind
theorem least_of {P : Nat → Prop} (n : Nat) (h : P n) : ∃ m, m ≤ n ∧ P m ∧ ∀ k, k < m → ¬ P k := by
  induction n using Nat.strongRecOn with
  | _ n ih =>
    by_cases hk : ∃ k, k < n ∧ P k
    · obtain ⟨k, hk, hp⟩ := hk
      obtain ⟨m, h1, h2, h3⟩ := ih k hk hp
      exact ⟨m, by omega, h2, h3⟩
    · exact ⟨n, Nat.le_refl _, h, fun k h1 h2 => hk ⟨k, h1, h2⟩⟩
/-- a divisor whose square divides: a small one does too -/
theorem form_small {a b c : Int} (h : Lg3 a b c) {p : Nat} (hp : 2 ≤ p) (hd : (a * b * c).natAbs % (p * p) = 0) : ∃ q, 2 ≤ q ∧ q ≤ 1000 ∧ (a * b * c).natAbs % (q * q) = 0 := by
  obtain ⟨h1, h2, h3, h4, h5, h6⟩ := h
  obtain ⟨q, hq, ⟨q2, q3⟩, ql⟩ := least_of (P := fun q => 2 ≤ q ∧ q ∣ p) p ⟨hp, Nat.dvd_refl _⟩
  have hdv : q * q ∣ (a * b * c).natAbs := Nat.dvd_trans (Nat.mul_dvd_mul q3 q3) (Nat.dvd_of_mod_eq_zero hd)
  have two : ∀ n : Nat, q ∣ n ∨ Nat.Coprime q n := fun n => by
    by_cases hg : Nat.gcd q n < 2
    · right
      have : Nat.gcd q n ≠ 0 := fun e => by
        have := (Nat.gcd_eq_zero_iff.1 e).1
        omega
      unfold Nat.Coprime
      omega
    · left
      have k1 := ql (Nat.gcd q n)
      by_cases hlt : Nat.gcd q n < q
      · exact absurd ⟨by omega, Nat.dvd_trans (Nat.gcd_dvd_left q n) q3⟩ (k1 hlt)
      · have k2 := Nat.le_of_dvd (by omega) (Nat.gcd_dvd_left q n)
        have k3 : Nat.gcd q n = q := by omega
        rw [← k3]
        exact Nat.gcd_dvd_right q n
  have one : ∀ x : Int, x ≠ 0 → x.natAbs ≤ 1000 → q ∣ x.natAbs → q ≤ 1000 := fun x hx hx2 hd => Nat.le_trans (Nat.le_of_dvd (by omega) hd) hx2
  refine ⟨q, q2, ?_, Nat.mod_eq_zero_of_dvd hdv⟩
  have hq1 : q ∣ a.natAbs * b.natAbs * c.natAbs := by
    rw [← Int.natAbs_mul, ← Int.natAbs_mul]
    exact Nat.dvd_trans (Nat.dvd_mul_right q q) hdv
  rcases two a.natAbs with k | k
  · exact one a h1 (by omega) k
  · rcases two b.natAbs with k' | k'
    · exact one b h2 (by omega) k'
    · refine one c h3 (by omega) ?_
      exact Nat.Coprime.dvd_of_dvd_mul_left (Nat.Coprime.mul_right k k') hq1
theorem sqf_of {n : Nat} (h : ∀ q, 2 ≤ q → ¬ n % (q * q) = 0) : Sqf n := fun p hp hd => h p hp (Nat.mod_eq_zero_of_dvd hd)
theorem tmod_natL {P : Int} {M : Nat} : (P.tmod (M : Int) = 0) ↔ P.natAbs % M = 0 := by
  constructor
  · intro h
    have h2 := congrArg Int.natAbs h
    rw [Int.natAbs_tmod] at h2
    exact h2
  · intro h
    exact Int.tmod_eq_zero_of_dvd (Int.ofNat_dvd_left.2 (Nat.dvd_of_mod_eq_zero h))
theorem three_bad (a b c : Int) : Lg3 a b c ∨ ∃ (k : Nat) (code : Int), k < 3 ∧ (∀ j, j < k → tri a b c j ≠ 0 ∧ -1000 ≤ tri a b c j ∧ tri a b c j ≤ 1000) ∧ ((code = 4 ∧ tri a b c k = 0) ∨ (code = 3 ∧ tri a b c k ≠ 0 ∧ (tri a b c k < -1000 ∨ 1000 < tri a b c k))) := by
  have one : ∀ x : Int, (x ≠ 0 ∧ -1000 ≤ x ∧ x ≤ 1000) ∨ ∃ code : Int, (code = 4 ∧ x = 0) ∨ (code = 3 ∧ x ≠ 0 ∧ (x < -1000 ∨ 1000 < x)) := fun x => by
    by_cases h0 : x = 0
    · exact .inr ⟨4, .inl ⟨rfl, h0⟩⟩
    · by_cases h1 : -1000 ≤ x ∧ x ≤ 1000
      · exact .inl ⟨h0, h1⟩
      · exact .inr ⟨3, .inr ⟨rfl, h0, by omega⟩⟩
  rcases one a with ha | ⟨k, hk⟩
  · rcases one b with hb | ⟨k, hk⟩
    · rcases one c with hc | ⟨k, hk⟩
      · exact .inl ⟨ha.1, hb.1, hc.1, ha.2, hb.2, hc.2⟩
      · exact .inr ⟨2, k, by omega, fun j hj => by rcases (by omega : j = 0 ∨ j = 1) with rfl | rfl; exact ha; exact hb, hk⟩
    · exact .inr ⟨1, k, by omega, fun j hj => by obtain rfl : j = 0 := by omega
                                                 exact ha, hk⟩
  · exact .inr ⟨0, k, by omega, fun j hj => by omega, hk⟩
theorem tri_three {a b c : Int} {j : Nat} (hj : j < 3) : [a, b, c][j]? = some (tri a b c j) := by
  rcases (by omega : j = 0 ∨ j = 1 ∨ j = 2) with rfl | rfl | rfl <;> rfl
theorem lg_no {x : Int} (h : x ≠ 0 ∧ -1000 ≤ x ∧ x ≤ 1000) : (x == 0) = false ∧ decide (1000 < x) = false ∧ decide (x < -1000) = false := by
  rw [decide_eq_false_iff_not, decide_eq_false_iff_not]
  exact ⟨by simpa using h.1, by omega, by omega⟩

set_option maxRecDepth 100000 in
set_option maxHeartbeats 3200000 in
theorem lglaw_bad (a b c : Int) (w : World) (k : Nat) (code : Int) (hk : k < 3) (hlow : ∀ j, j < k → tri a b c j ≠ 0 ∧ -1000 ≤ tri a b c j ∧ tri a b c j ≤ 1000) (hbad : (code = 4 ∧ tri a b c k = 0) ∨ (code = 3 ∧ tri a b c k ≠ 0 ∧ (tri a b c k < -1000 ∨ 1000 < tri a b c k))) :
    Calls Try.prog 6 #[.int .i64 a, .int .i64 b, .int .i64 c] w fun e w' => e = .returned (.bool true) ∧ Below w.heap.size w w' := by
  have CW := fun W => hide (eqBegun_any W)
  have CL := hide (legendre_bad a b c k w hk hlow code hbad)
  have CF := fun W => hide (refF_any code k W)
  have HLO := hide hlow
  have HX := hide hbad
  have hc0 : (code == 0) = false := by rcases hbad with ⟨rfl, _⟩ | ⟨rfl, _⟩ <;> rfl
  have hc1 : (code != 0) = true := by rcases hbad with ⟨rfl, _⟩ | ⟨rfl, _⟩ <;> rfl
  clear hlow hbad
  go_enter Try.func6, Try.ntmps6
  go_wp2_with fail
  refine CL.out.mono ?_
  rintro e w1 ⟨rfl, hb⟩
  simp only [fv]
  have F1 := FC.made w1 code (k : Int)
  have B1 := bel_e w1 (.cells #[.int .i64 code, .int .i64 (k : Int)] 26)
  have B2 := bel_e (w1.alloc (.cells #[.int .i64 code, .int .i64 (k : Int)] 26)) (.cells #[.int .i64 a, .int .i64 b, .int .i64 c] 3)
  have B3 := bel_e ((w1.alloc (.cells #[.int .i64 code, .int .i64 (k : Int)] 26)).alloc (.cells #[.int .i64 a, .int .i64 b, .int .i64 c] 3)) (.cells #[.int .i64 0, .int .i64 0] 26)
  have F3 := hide ((F1.below B2).below B3)
  have G3 := hide (FC.made ((w1.alloc (.cells #[.int .i64 code, .int .i64 (k : Int)] 26)).alloc (.cells #[.int .i64 a, .int .i64 b, .int .i64 c] 3)) 0 0)
  have L3 := hide ((B3.block _ (by simp)).trans (heap_alloc_new (w1.alloc (.cells #[.int .i64 code, .int .i64 (k : Int)] 26)) (.cells #[.int .i64 a, .int .i64 b, .int .i64 c] 3)))
  have HB3 := hide (((hb.trans (B1.mono hb.size)).trans (B2.mono (hb.trans (B1.mono hb.size)).size)).trans (B3.mono ((hb.trans (B1.mono hb.size)).trans (B2.mono (hb.trans (B1.mono hb.size)).size)).size))
  have e1 : (w1.alloc (.cells #[.int .i64 code, .int .i64 (k : Int)] 26)).heap.size = w1.heap.size + 1 := World.size_alloc ..
  have e2 : ((w1.alloc (.cells #[.int .i64 code, .int .i64 (k : Int)] 26)).alloc (.cells #[.int .i64 a, .int .i64 b, .int .i64 c] 3)).heap.size = w1.heap.size + 1 + 1 := by rw [World.size_alloc, e1]
  rw [e2] at G3
  rw [e1] at L3
  have hsz : w1.heap.size + 1 + 1 < (((w1.alloc (.cells #[.int .i64 code, .int .i64 (k : Int)] 26)).alloc (.cells #[.int .i64 a, .int .i64 b, .int .i64 c] 3)).alloc (.cells #[.int .i64 0, .int .i64 0] 26)).heap.size := by simp
  have hw1 := hb.size
  go_wp2_with fail
  obtain ⟨w3, hw3⟩ : ∃ Z, (((w1.alloc (.cells #[.int .i64 code, .int .i64 (k : Int)] 26)).alloc (.cells #[.int .i64 a, .int .i64 b, .int .i64 c] 3)).alloc (.cells #[.int .i64 0, .int .i64 0] 26)) = Z := ⟨_, rfl⟩
  rw [hw3] at F3 G3 L3 HB3 hsz
  (try rw [hw3])
  obtain ⟨q, hq⟩ : ∃ q, w1.heap.size = q := ⟨_, rfl⟩
  rw [hq] at F3 G3 L3 hsz hw1
  (try rw [hq])
  clear hw3 hq e1 e2 hb F1 B1 B2 B3 CL
  go_loopw [13] (fun iv wr => (∃ j : Nat, j ≤ k ∧ iv = .int .i64 j ∧ wr = w3) ∨ (iv = .int .i64 ((k + 1 : Nat) : Int) ∧ Hid (FC wr q code k) ∧ Hid (FC wr (q + 1 + 1) code k) ∧ Hid (Below w.heap.size w wr))) (fun iv _ => 5 - (intOf iv).toNat)
  case atStart => exact .inl ⟨0, by omega, rfl, rfl⟩
  case round =>
    rcases hrel with ⟨j, hj, rfl, rfl⟩ | ⟨rfl, FE, GE, BE⟩
    · have hj3 : j < 3 := by omega
      have cy := cell_three L3.out (tri_three hj3)
      obtain ⟨g0', g1', _, _⟩ := G3.out.cells
      by_cases hjk : j < k
      · obtain ⟨q1, q2, q3⟩ := lg_no (HLO.out j hjk)
        obtain ⟨y, hy⟩ : ∃ y, tri a b c j = y := ⟨_, rfl⟩
        rw [hy] at cy q1 q2 q3
        clear hy CW CF
        go_wp2_with fail
        go_roundw
        case rel => exact .inl ⟨j + 1, by omega, by go_num, by first | rfl | trivial⟩
        case measure => simp [intOf]; omega
      · obtain rfl : j = k := by omega
        have hX := HX.out
        obtain ⟨y, hy⟩ : ∃ y, tri a b c j = y := ⟨_, rfl⟩
        rw [hy] at cy hX
        clear hy hjk hj HLO HX
        rcases hX with ⟨rfl, hy0⟩ | ⟨rfl, hy0, hy1⟩
        · have q1 : (y == 0) = true := by simpa using hy0
          clear hy0
          go_wp2_with fail
          refine (CF _).out.mono ?_
          rintro e w4 ⟨rfl, hb⟩
          have F4 := F3.out.below hb
          have G4 := G3.out.below hb
          have HB4 := HB3.out.trans (hb.mono HB3.out.size)
          have hq4 : q + 1 + 1 < w4.heap.size := Nat.lt_of_lt_of_le hsz hb.size
          obtain ⟨g0, g1, k0, k1⟩ := G4.cells
          have F5 := hide (show FC ((w4.setCell ⟨q + 1 + 1, 0, none⟩ (.int .i64 4)).setCell ⟨q + 1 + 1, 1, none⟩ (.int .i64 j)) q 4 j from (far_set _ _ (by omega)).trans ((far_set w4 _ (by omega)).trans F4))
          have G5 := hide ((G4.set0 4).set1 j)
          have HB5 := hide (below_fault (u := .int .i64 4) (v := .int .i64 j) HB4 (show w.heap.size ≤ q + 1 + 1 by omega))
          clear hb F4 G4 HB4
          go_wp2_with fail
          go_roundw
          case rel => exact .inr ⟨by go_num, F5, G5, HB5⟩
          case measure => simp [intOf]; omega
        · have q1 : (y == 0) = false := by simpa using hy0
          by_cases hy2 : 1000 < y
          · have q2 : decide (1000 < y) = true := by simpa using hy2
            clear hy0 hy1 hy2
            go_wp2_with fail
            refine (CF _).out.mono ?_
            rintro e w4 ⟨rfl, hb⟩
            have F4 := F3.out.below hb
            have G4 := G3.out.below hb
            have HB4 := HB3.out.trans (hb.mono HB3.out.size)
            have hq4 : q + 1 + 1 < w4.heap.size := Nat.lt_of_lt_of_le hsz hb.size
            obtain ⟨g0, g1, k0, k1⟩ := G4.cells
            have F5 := hide (show FC ((w4.setCell ⟨q + 1 + 1, 0, none⟩ (.int .i64 3)).setCell ⟨q + 1 + 1, 1, none⟩ (.int .i64 j)) q 3 j from (far_set _ _ (by omega)).trans ((far_set w4 _ (by omega)).trans F4))
            have G5 := hide ((G4.set0 3).set1 j)
            have HB5 := hide (below_fault (u := .int .i64 3) (v := .int .i64 j) HB4 (show w.heap.size ≤ q + 1 + 1 by omega))
            clear hb F4 G4 HB4
            go_wp2_with fail
            go_roundw
            case rel => exact .inr ⟨by go_num, F5, G5, HB5⟩
            case measure => simp [intOf]; omega
          · have q2 : decide (1000 < y) = false := by simpa using hy2
            have q3 : decide (y < -1000) = true := by rw [decide_eq_true_eq]; omega
            clear hy0 hy1 hy2
            go_wp2_with fail
            refine (CF _).out.mono ?_
            rintro e w4 ⟨rfl, hb⟩
            have F4 := F3.out.below hb
            have G4 := G3.out.below hb
            have HB4 := HB3.out.trans (hb.mono HB3.out.size)
            have hq4 : q + 1 + 1 < w4.heap.size := Nat.lt_of_lt_of_le hsz hb.size
            obtain ⟨g0, g1, k0, k1⟩ := G4.cells
            have F5 := hide (show FC ((w4.setCell ⟨q + 1 + 1, 0, none⟩ (.int .i64 3)).setCell ⟨q + 1 + 1, 1, none⟩ (.int .i64 j)) q 3 j from (far_set _ _ (by omega)).trans ((far_set w4 _ (by omega)).trans F4))
            have G5 := hide ((G4.set0 3).set1 j)
            have HB5 := hide (below_fault (u := .int .i64 3) (v := .int .i64 j) HB4 (show w.heap.size ≤ q + 1 + 1 by omega))
            clear hb F4 G4 HB4
            go_wp2_with fail
            go_roundw
            case rel => exact .inr ⟨by go_num, F5, G5, HB5⟩
            case measure => simp [intOf]; omega
    · obtain ⟨g0', g1', _, _⟩ := GE.out.cells
      by_cases hk3 : k < 2
      all_goals
        go_wp2_with fail
        refine wp_loop_rounds 1 ?_
        rw [rounds_succ]
        go_wp2_with fail
        refine (CW _).out.mono ?_
        rintro e w8 ⟨rfl, hb⟩
        have F8 := FE.out.below hb
        have G8 := GE.out.below hb
        have HB8 := hide (BE.out.trans (hb.mono BE.out.size))
        obtain ⟨a0, a1, _, _⟩ := F8.cells
        obtain ⟨b0, b1, _, _⟩ := G8.cells
        clear hb F8 G8
        go_wp2_with fail
        go_ret
        exact ⟨rfl, HB8.out⟩

set_option maxRecDepth 100000 in
set_option maxHeartbeats 3200000 in
theorem lglaw_form (a b c : Int) (w : World) (p : Nat) (h : Lg3 a b c) (hp1 : p ≤ 1000) (hp2 : 2 ≤ p) (hp : (a * b * c).natAbs % (p * p) = 0) (hlow : ∀ q, 2 ≤ q → q < p → ¬ (a * b * c).natAbs % (q * q) = 0) :
    Calls Try.prog 6 #[.int .i64 a, .int .i64 b, .int .i64 c] w fun e w' => e = .returned (.bool true) ∧ Below w.heap.size w w' := by
  have CW := fun W => hide (eqBegun_any W)
  have CL := hide (legendre_form a b c p w h hp1 hp2 hp hlow)
  have CF := fun W => hide (refF_any 6 0 W)
  obtain ⟨v1, v2', v3, v4⟩ := h.prod
  obtain ⟨P, hP⟩ : ∃ P, a * b * c = P := ⟨_, rfl⟩
  have v2 := v2'.trans hP
  clear v2'
  rw [hP] at v3
  rw [hP] at hp hlow
  have HP0 := hide hP
  have HLO := hide hlow
  have HX := hide hp
  obtain ⟨h1, h2, h3, h4, h5, h6⟩ := h
  have HT0 := hide (show a ≠ 0 ∧ -1000 ≤ a ∧ a ≤ 1000 from ⟨h1, h4⟩)
  have HT1 := hide (show b ≠ 0 ∧ -1000 ≤ b ∧ b ≤ 1000 from ⟨h2, h5⟩)
  have HT2 := hide (show c ≠ 0 ∧ -1000 ≤ c ∧ c ≤ 1000 from ⟨h3, h6⟩)
  clear hlow hp hP h1 h2 h3 h4 h5 h6 v3 v4
  go_enter Try.func6, Try.ntmps6
  go_wp2_with fail
  refine CL.out.mono ?_
  rintro e w1 ⟨rfl, hb⟩
  simp only [fv]
  have F1 := FC.made w1 6 0
  have B1 := bel_e w1 (.cells #[.int .i64 6, .int .i64 0] 26)
  have B2 := bel_e (w1.alloc (.cells #[.int .i64 6, .int .i64 0] 26)) (.cells #[.int .i64 a, .int .i64 b, .int .i64 c] 3)
  have B3 := bel_e ((w1.alloc (.cells #[.int .i64 6, .int .i64 0] 26)).alloc (.cells #[.int .i64 a, .int .i64 b, .int .i64 c] 3)) (.cells #[.int .i64 0, .int .i64 0] 26)
  have F3 := hide ((F1.below B2).below B3)
  have G3 := hide (FC.made ((w1.alloc (.cells #[.int .i64 6, .int .i64 0] 26)).alloc (.cells #[.int .i64 a, .int .i64 b, .int .i64 c] 3)) 0 0)
  have L3 := hide ((B3.block _ (by simp)).trans (heap_alloc_new (w1.alloc (.cells #[.int .i64 6, .int .i64 0] 26)) (.cells #[.int .i64 a, .int .i64 b, .int .i64 c] 3)))
  have HB3 := hide (((hb.trans (B1.mono hb.size)).trans (B2.mono (hb.trans (B1.mono hb.size)).size)).trans (B3.mono ((hb.trans (B1.mono hb.size)).trans (B2.mono (hb.trans (B1.mono hb.size)).size)).size))
  have e1 : (w1.alloc (.cells #[.int .i64 6, .int .i64 0] 26)).heap.size = w1.heap.size + 1 := World.size_alloc ..
  have e2 : ((w1.alloc (.cells #[.int .i64 6, .int .i64 0] 26)).alloc (.cells #[.int .i64 a, .int .i64 b, .int .i64 c] 3)).heap.size = w1.heap.size + 1 + 1 := by rw [World.size_alloc, e1]
  rw [e2] at G3
  rw [e1] at L3
  have hsz : w1.heap.size + 1 + 1 < (((w1.alloc (.cells #[.int .i64 6, .int .i64 0] 26)).alloc (.cells #[.int .i64 a, .int .i64 b, .int .i64 c] 3)).alloc (.cells #[.int .i64 0, .int .i64 0] 26)).heap.size := by simp
  have hw1 := hb.size
  go_wp2_with fail
  obtain ⟨w3, hw3⟩ : ∃ Z, (((w1.alloc (.cells #[.int .i64 6, .int .i64 0] 26)).alloc (.cells #[.int .i64 a, .int .i64 b, .int .i64 c] 3)).alloc (.cells #[.int .i64 0, .int .i64 0] 26)) = Z := ⟨_, rfl⟩
  rw [hw3] at F3 G3 L3 HB3 hsz
  (try rw [hw3])
  obtain ⟨q, hq⟩ : ∃ q, w1.heap.size = q := ⟨_, rfl⟩
  rw [hq] at F3 G3 L3 hsz hw1
  (try rw [hq])
  clear hw3 hq e1 e2 hb F1 B1 B2 B3 CL
  have t0 := cell_three L3.out (j := 0) rfl
  have t1 := cell_three L3.out (j := 1) rfl
  have t2 := cell_three L3.out (j := 2) rfl
  obtain ⟨g0', g1', _, _⟩ := G3.out.cells
  obtain ⟨T1, T2, T3⟩ := lg_no HT0.out
  obtain ⟨T4, T5, T6⟩ := lg_no HT1.out
  obtain ⟨T7, T8, T9⟩ := lg_no HT2.out
  refine wp_loop_rounds 4 ?_
  rw [rounds_succ]
  go_wp2_with fail
  rw [rounds_succ]
  go_wp2_with fail
  rw [rounds_succ]
  go_wp2_with fail
  rw [rounds_succ]
  go_wp2_with fail
  clear t0 t1 t2 g0' g1' T1 T2 T3 T4 T5 T6 T7 T8 T9 L3
  go_loopw [14] (fun iv wr => (∃ j : Nat, j ≤ p ∧ 2 ≤ j ∧ iv = .int .i64 j ∧ wr = w3) ∨ (iv = .int .i64 ((p + 1 : Nat) : Int) ∧ Hid (FC wr q 6 0) ∧ Hid (FC wr (q + 1 + 1) 6 0) ∧ Hid (Below w.heap.size w wr))) (fun iv _ => 1003 - (intOf iv).toNat)
  case atStart => exact .inl ⟨2, hp2, by omega, rfl, rfl⟩
  case round =>
    rcases hrel with ⟨j, hj, hj2, rfl, rfl⟩ | ⟨rfl, FE, GE, BE⟩
    · obtain ⟨g0', g1', _, _⟩ := G3.out.cells
      have m0 := Nat.mul_le_mul (show j ≤ 1000 by omega) (show j ≤ 1000 by omega)
      have m1 := Nat.mul_le_mul hj2 hj2
      have hx := HX.out
      have hlo := HLO.out j hj2
      obtain ⟨M, hM⟩ : ∃ M, j * j = M := ⟨_, rfl⟩
      have wM : IntKind.i64.wrap ((j : Int) * (j : Int)) = (M : Int) := by rw [← hM, IntKind.wrap_i64]; simp only [← Int.natCast_mul]; omega
      rw [hM] at m0 m1 hlo
      by_cases hjk : j < p
      · have q0 := fun e => hlo hjk (tmod_natL.1 e)
        obtain ⟨r, hr⟩ : ∃ r, P.tmod (M : Int) = r := ⟨_, rfl⟩
        rw [hr] at q0
        have q1 : (r == 0) = false := by simpa using q0
        have hj5 : decide ((j : Int) < 32000) = true := by rw [decide_eq_true_eq]; omega
        have hj6 : decide (j < 32000) = true := by rw [decide_eq_true_eq]; omega
        clear hM hx hlo q0 CW CF m0
        go_wp2_with fail
        go_roundw
        case rel => exact .inl ⟨j + 1, by omega, by omega, by go_num, by first | rfl | trivial⟩
        case measure => simp [intOf]; omega
      · obtain rfl : j = p := by omega
        rw [hM] at hx
        have hr := tmod_natL.2 hx
        have hj5 : decide ((j : Int) < 32000) = true := by rw [decide_eq_true_eq]; omega
        have hj6 : decide (j < 32000) = true := by rw [decide_eq_true_eq]; omega
        clear hM hx hlo m0
        go_wp2_with fail
        refine (CF _).out.mono ?_
        rintro e w4 ⟨rfl, hb⟩
        have F4 := F3.out.below hb
        have G4 := G3.out.below hb
        have HB4 := HB3.out.trans (hb.mono HB3.out.size)
        have hq4 : q + 1 + 1 < w4.heap.size := Nat.lt_of_lt_of_le hsz hb.size
        obtain ⟨g0, g1, k0, k1⟩ := G4.cells
        have F5 := hide (show FC ((w4.setCell ⟨q + 1 + 1, 0, none⟩ (.int .i64 6)).setCell ⟨q + 1 + 1, 1, none⟩ (.int .i64 0)) q 6 0 from (far_set _ _ (by omega)).trans ((far_set w4 _ (by omega)).trans F4))
        have G5 := hide ((G4.set0 6).set1 0)
        have HB5 := hide (below_fault (u := .int .i64 6) (v := .int .i64 0) HB4 (show w.heap.size ≤ q + 1 + 1 by omega))
        clear hb F4 G4 HB4
        go_wp2_with fail
        go_roundw
        case rel => exact .inr ⟨by go_num, F5, G5, HB5⟩
        case measure => simp [intOf]; omega
    · obtain ⟨g0', g1', _, _⟩ := GE.out.cells
      have hj5 : decide (((p : Int) + 1) < 32000) = true := by rw [decide_eq_true_eq]; omega
      have hj6 : decide (p + 1 < 32000) = true := by rw [decide_eq_true_eq]; omega
      go_wp2_with fail
      go_wp2_with fail
      refine (CW _).out.mono ?_
      rintro e w8 ⟨rfl, hb⟩
      have F8 := FE.out.below hb
      have G8 := GE.out.below hb
      have HB8 := hide (BE.out.trans (hb.mono BE.out.size))
      obtain ⟨a0, a1, _, _⟩ := F8.cells
      obtain ⟨b0, b1, _, _⟩ := G8.cells
      clear hb F8 G8
      go_wp2_with fail
      go_ret
      exact ⟨rfl, HB8.out⟩
end Go.Proofs.Ytlchmaiflcnaoaa
