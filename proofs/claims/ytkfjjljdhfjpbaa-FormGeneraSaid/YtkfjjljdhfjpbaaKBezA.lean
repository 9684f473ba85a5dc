/- whole.Bezout: the plain law and the walk. -/
import Derived.Test.YtkfjjljdhfjpbaaKExtended
import Derived.Test.YtkfjjljdhfjpbaaKGcd
import Derived.Test.YtkfjjljdhfjpbaaKCarry
import Derived.Test.YtkfjjljdhfjpbaaKDiv64
import Derived.Test.YtkfjjljdhfjpbaaKShelf
namespace Go.Proofs.Ytkfjjljdhfjpbaa
open Go.RowKit

namespace Bz
theorem abs_div {B : Int} {G : Nat} (hd : (G : Int) ∣ B) : B.natAbs = G * (B.natAbs / G) := by
  have : G ∣ B.natAbs := Int.ofNat_dvd_left.1 hd
  exact (Nat.mul_div_cancel' this).symm

/-- u reduced still serves -/
theorem core {A B u0 : Int} {G : Nat} (hG : Int.gcd A B = G) (hB : B ≠ 0) (h : B ∣ (G : Int) - u0 * A) :
    0 < G ∧ 0 < B.natAbs / G ∧ B ∣ (G : Int) - (u0 % ((B.natAbs / G : Nat) : Int)) * A ∧ 0 ≤ u0 % ((B.natAbs / G : Nat) : Int) ∧ u0 % ((B.natAbs / G : Nat) : Int) < ((B.natAbs / G : Nat) : Int) ∧ B.natAbs = G * (B.natAbs / G) ∧ (G : Int) ∣ A := by
  have hGp : 0 < G := by
    rw [← hG]; exact Int.gcd_pos_of_ne_zero_right A hB
  have hdB : (G : Int) ∣ B := by rw [← hG]; exact Int.gcd_dvd_right A B
  have hdA : (G : Int) ∣ A := by rw [← hG]; exact Int.gcd_dvd_left A B
  have e := abs_div hdB
  obtain ⟨M, hM⟩ : ∃ M, B.natAbs / G = M := ⟨_, rfl⟩
  rw [hM] at e ⊢
  have hMp : 0 < M := by
    rcases Nat.eq_zero_or_pos M with h0 | h0
    · rw [h0] at e; omega
    · exact h0
  refine ⟨hGp, hMp, ?_, Int.emod_nonneg _ (by omega), Int.emod_lt_of_pos _ (by omega), e, hdA⟩
  obtain ⟨A', hA'⟩ := hdA
  have h1 : u0 = (M : Int) * (u0 / (M : Int)) + u0 % (M : Int) := (Int.mul_ediv_add_emod u0 M).symm
  have hBm : B ∣ (B.natAbs : Int) := Int.dvd_natAbs_self
  have h2 : (G : Int) - u0 % (M : Int) * A = ((G : Int) - u0 * A) + (B.natAbs : Int) * ((u0 / (M : Int)) * A') := by
    have e2 : (B.natAbs : Int) = (G : Int) * (M : Int) := by rw [e]; simp
    rw [e2]
    generalize u0 / (M : Int) = t at h1
    generalize u0 % (M : Int) = r at h1
    rw [h1, hA']
    grind
  rw [h2]
  exact Int.dvd_add h (Int.dvd_mul_of_dvd_left hBm)

/-- u a above nought: u |a| - g is |b| times the quotient -/
theorem pos {A B : Int} {G u a b : Nat} (ha : A = a) (hb : B.natAbs = b) (h : B ∣ (G : Int) - (u : Int) * A) (hle : G ≤ u * a) :
    u * a - G = b * ((u * a - G) / b) := by
  have h1 : (b : Int) ∣ ((u * a - G : Nat) : Int) := by
    have e : ((u * a - G : Nat) : Int) = -((G : Int) - (u : Int) * A) := by rw [ha]; omega
    rw [e, ← hb]
    exact Int.natAbs_dvd.2 (Int.dvd_neg.2 h)
  exact (Nat.mul_div_cancel' (Int.ofNat_dvd.1 h1)).symm
theorem neg {A B : Int} {G u a b : Nat} (ha : A = -(a : Int)) (hb : B.natAbs = b) (h : B ∣ (G : Int) - (u : Int) * A) :
    u * a + G = b * ((u * a + G) / b) := by
  have h1 : (b : Int) ∣ ((u * a + G : Nat) : Int) := by
    have e : ((u * a + G : Nat) : Int) = (G : Int) - (u : Int) * A := by rw [ha]; grind
    rw [e, ← hb]
    exact Int.natAbs_dvd.2 h
  exact (Nat.mul_div_cancel' (Int.ofNat_dvd.1 h1)).symm
theorem b64 (x y : Nat) (hx : x ≤ 1000000000000000000) (hy : y ≤ 1000000000000000000) : x * y ≤ 1000000000000000000000000000000000000 := Nat.le_trans (Nat.mul_le_mul hx hy) (by decide)
/-- the numbers of the subtraction -/
theorem packSub (P G B : Nat) (hG : G ≤ 1000000000000000000) (hle : G ≤ P) (hP : P ≤ B * 1000000000000000000) (hB : 0 < B) :
    ∃ H Lo br D H' : Nat, P / 18446744073709551616 = H ∧ P % 18446744073709551616 = Lo ∧ (if Lo < G then 1 else 0) = br ∧ (Lo + 18446744073709551616 - G) % 18446744073709551616 = D ∧ H' * 18446744073709551616 + D = P - G ∧ (H : Int) - (br : Int) = (H' : Int) ∧ decide (H < br) = false ∧ H' < B ∧ D < 18446744073709551616 := by
  have h0 := Nat.div_add_mod P 18446744073709551616
  have h1 := Nat.mod_lt P (y := 18446744073709551616) (by omega)
  generalize P / 18446744073709551616 = H at h0
  generalize P % 18446744073709551616 = Lo at h0 h1
  by_cases h : Lo < G
  · refine ⟨H, Lo, 1, _, H - 1, rfl, rfl, by rw [if_pos h], rfl, ?_, ?_, ?_, ?_, Nat.mod_lt _ (by omega)⟩
    · omega
    · omega
    · rw [decide_eq_false_iff_not]; omega
    · omega
  · refine ⟨H, Lo, 0, _, H, rfl, rfl, by rw [if_neg h], rfl, ?_, ?_, ?_, ?_, Nat.mod_lt _ (by omega)⟩
    · omega
    · omega
    · rw [decide_eq_false_iff_not]; omega
    · omega
theorem packLess (P G : Nat) (hG : G ≤ 1000000000000000000) (hle : P < G) :
    P / 18446744073709551616 = 0 ∧ P % 18446744073709551616 = P ∧ (if P < G then 1 else 0) = 1 := ⟨by omega, by omega, if_pos hle⟩
theorem packAdd (P G B : Nat) (hG : G ≤ B) (hP : P ≤ B * 1000000000000000000) (hB : 0 < B) (hB2 : B ≤ 1000000000000000000) :
    ∃ H Lo c D H' : Nat, P / 18446744073709551616 = H ∧ P % 18446744073709551616 = Lo ∧ (Lo + G) / 18446744073709551616 = c ∧ (Lo + G) % 18446744073709551616 = D ∧ H' * 18446744073709551616 + D = P + G ∧ (H : Int) + (c : Int) = (H' : Int) ∧ H' < B ∧ D < 18446744073709551616 := by
  have h0 := Nat.div_add_mod P 18446744073709551616
  have h1 := Nat.mod_lt P (y := 18446744073709551616) (by omega)
  generalize P / 18446744073709551616 = H at h0
  generalize P % 18446744073709551616 = Lo at h0 h1
  exact ⟨H, Lo, _, _, H + (Lo + G) / 18446744073709551616, rfl, rfl, rfl, rfl, by omega, by omega, by omega, Nat.mod_lt _ (by omega)⟩
theorem qle {P G B q : Nat} (h : P - G = B * q) (hP : P ≤ B * 1000000000000000000) (hB : 0 < B) : q ≤ 1000000000000000000 :=
  Nat.le_of_mul_le_mul_left (show B * q ≤ B * 1000000000000000000 by omega) hB
theorem qle2 {P G B q : Nat} (h : P + G = B * q) (hP : P ≤ B * 1000000000000000000) (hB : 0 < B) (hG : G ≤ B) : q ≤ 1000000000000000001 :=
  Nat.le_of_mul_le_mul_left (show B * q ≤ B * 1000000000000000001 by omega) hB
theorem wq {q : Nat} (h : q ≤ 1000000000000000001) : IntKind.i64.wrap (q : Int) = q := by rw [IntKind.wrap_i64]; omega
theorem wnq {q : Nat} (h : q ≤ 1000000000000000001) : IntKind.i64.wrap (-(q : Int)) = -(q : Int) := by rw [IntKind.wrap_i64]; omega
theorem one_div {b : Int} {B G : Nat} (hB : b.natAbs = B) (h : B = G) (hG : 0 < G) : (G : Int).tdiv b = if b < 0 then -1 else 1 := by
  split
  · rw [show b = -(G : Int) from by omega, Int.tdiv_neg, Int.tdiv_self (by omega)]
  · rw [show b = (G : Int) from by omega, Int.tdiv_self (by omega)]
end Bz

/-- what Bezout hands back when both are numbers -/
structure BezOk (a b g u v : Int) : Prop where
  gcd : g = Int.gcd a b
  eq : u * a + v * b = g
  us : u.natAbs ≤ 1000000000000000000
  vs : v.natAbs ≤ 1000000000000000001
  zero : b = 0 → v = 0 ∧ u = if a = 0 then 0 else if a < 0 then -1 else 1
  pos : b ≠ 0 → 0 ≤ u ∧ u < ((b.natAbs / Int.gcd a b : Nat) : Int)

theorem bezOk_pos {a b : Int} {G u A B M q : Nat} (hA : (A : Int) = a) (hB : b.natAbs = B) (hG : Int.gcd a b = G) (hGM : B = G * M) (hG0 : 0 < G) (hu : u < M) (hb : b ≠ 0) (hB2 : B ≤ 1000000000000000000) (hq : u * A - G = B * q) (hle : G ≤ u * A) (hqs : q ≤ 1000000000000000000) :
    BezOk a b G u (if b < 0 then (q : Int) else -(q : Int)) := by
  have hMB : M ≤ B := by rw [hGM]; exact Nat.le_mul_of_pos_left M hG0
  refine ⟨by rw [hG], ?_, by omega, by split <;> omega, fun h => (hb h).elim, fun _ => ⟨by omega, ?_⟩⟩
  · have e : (u : Int) * a - (G : Int) = (B : Int) * (q : Int) := by
      rw [← hA, ← Int.natCast_mul, ← Int.natCast_mul, ← hq]; omega
    split
    · have hb2 : b = -(B : Int) := by omega
      rw [hb2]; grind
    · have hb2 : b = (B : Int) := by omega
      rw [hb2]; grind
  · rw [hB, hG, hGM, Nat.mul_div_cancel_left M hG0]; omega
theorem bezOk_neg {a b : Int} {G u A B M q : Nat} (hA : a = -(A : Int)) (hB : b.natAbs = B) (hG : Int.gcd a b = G) (hGM : B = G * M) (hG0 : 0 < G) (hu : u < M) (hb : b ≠ 0) (hB2 : B ≤ 1000000000000000000) (hq : u * A + G = B * q) (hqs : q ≤ 1000000000000000001) :
    BezOk a b G u (if b < 0 then -(q : Int) else (q : Int)) := by
  have hMB : M ≤ B := by rw [hGM]; exact Nat.le_mul_of_pos_left M hG0
  refine ⟨by rw [hG], ?_, by omega, by split <;> omega, fun h => (hb h).elim, fun _ => ⟨by omega, ?_⟩⟩
  · have e : (u : Int) * (A : Int) + (G : Int) = (B : Int) * (q : Int) := by
      rw [← Int.natCast_mul, ← Int.natCast_mul, ← hq]; omega
    split
    · have hb2 : b = -(B : Int) := by omega
      rw [hb2, hA]; grind
    · have hb2 : b = (B : Int) := by omega
      rw [hb2, hA]; grind
  · rw [hB, hG, hGM, Nat.mul_div_cancel_left M hG0]; omega
theorem bezOk_one {a b : Int} {G u A B M : Nat} (hA : (A : Int) = a) (hB : b.natAbs = B) (hG : Int.gcd a b = G) (hGM : B = G * M) (hG0 : 0 < G) (hu : u < M) (hb : b ≠ 0) (ha : 0 < a) (hlt : u * A < G) (hd : b ∣ (G : Int) - (u : Int) * a) (hdA : (G : Int) ∣ a) :
    u = 0 ∧ B = G ∧ BezOk a b G u (if b < 0 then -1 else 1) := by
  have hAG : G ≤ A := by
    have : (G : Int) ≤ a := Int.le_of_dvd ha hdA
    omega
  have hu0 : u = 0 := by
    rcases Nat.eq_zero_or_pos u with h | h
    · exact h
    · have := Nat.mul_le_mul h hAG
      omega
  subst hu0
  have hBG : B = G := by
    have h1 : b ∣ (G : Int) := by simpa using hd
    have h2 : B ∣ G := by rw [← hB]; exact Int.natAbs_dvd_natAbs.2 h1
    have h3 := Nat.le_of_dvd hG0 h2
    have h4 : G ≤ B := by rw [hGM]; exact Nat.le_mul_of_pos_right G hu
    omega
  refine ⟨rfl, hBG, by rw [hG], ?_, by simp, by split <;> decide, fun h => (hb h).elim, fun _ => ⟨by omega, ?_⟩⟩
  · split <;> omega
  · rw [hB, hG, hGM, Nat.mul_div_cancel_left M hG0]; omega

def RetBez (w : World) (a b : Int) : Ending → World → Prop := fun e w' => ∃ g u v : Int, e = .returned (.tuple #[.int .i64 g, .int .i64 u, .int .i64 v, fv (lookK 0 [a, b])]) ∧ ((lookK 0 [a, b]).1 = 0 → BezOk a b g u v) ∧ ((lookK 0 [a, b]).1 ≠ 0 → g = 0 ∧ u = 0 ∧ v = 0) ∧ Below w.heap.size w w'

set_option maxRecDepth 100000 in
set_option maxHeartbeats 1600000 in
theorem bezout_fault (a b i : Int) (w : World) (h : lookK 0 [a, b] = (3, i)) :
    Calls Try.prog 45 #[.int .i64 a, .int .i64 b] w (RetBez w a b) := by
  have L : ∀ (W : World) (g : Nat), g = W.heap.size → Hid (Calls Try.prog 54 #[.slice (some ⟨g, 0, none⟩) 2 2] (W.alloc (.cells #[.int .i64 a, .int .i64 b] 3)) (RetFault (W.alloc (.cells #[.int .i64 a, .int .i64 b] 3)) (lookK 0 [a, b]))) := fun W g hg => hg ▸ look_any _ 2 2 [a, b] _ rfl (by omega) (ints_new W [a, b] _)
  rw [h] at L
  have HE := hide h
  clear h
  go_enter Try.func45, Try.ntmps45
  go_wp2_with fail
  refine (L _ _ (by simp)).out.mono ?_
  rintro e w1 ⟨rfl, hb⟩
  simp only [fv]
  have F1 := (((FC.fresh w).below ((Below.refl _ _).alloc (Nat.le_refl _) (.cells #[.int .i64 a, .int .i64 b] 3))).below hb)
  have hlt := F1.lt
  have HB := hide (below_new (below_new2 hb))
  obtain ⟨d0, d1, f0, f1⟩ := F1.cells
  obtain ⟨p0, p1, _, _⟩ := (((F1.set0 3).set1 i).below ((Below.refl _ _).alloc (Nat.le_refl _) (.cells #[.int .i64 3, .int .i64 i] 26))).cells
  have HB2 := hide (below_fault (u := .int .i64 3) (v := .int .i64 i) HB.out (Nat.le_refl w.heap.size))
  clear hb
  go_wp2_with fail
  go_region
  go_wp2_with fail
  exact bodyPost_ret (v := .tuple #[.int .i64 0, .int .i64 0, .int .i64 0, fv (3, i)]) (by simp [results, Try.results45, go_sem, fv, p0, p1]) rfl ⟨0, 0, 0, by rw [HE.out], fun h => by rw [HE.out] at h; simp at h, fun _ => ⟨rfl, rfl, rfl⟩, (HB2.out.alloc HB2.out.size _).drew⟩

set_option maxRecDepth 100000 in
set_option maxHeartbeats 1600000 in
theorem bezout_zero (a b : Int) (w : World) (h : lookK 0 [a, b] = (0, 0)) (ha : a = 0) (hb0 : b = 0) :
    Calls Try.prog 45 #[.int .i64 a, .int .i64 b] w (RetBez w a b) := by
  have L : ∀ (W : World) (g : Nat), g = W.heap.size → Hid (Calls Try.prog 54 #[.slice (some ⟨g, 0, none⟩) 2 2] (W.alloc (.cells #[.int .i64 a, .int .i64 b] 3)) (RetFault (W.alloc (.cells #[.int .i64 a, .int .i64 b] 3)) (lookK 0 [a, b]))) := fun W g hg => hg ▸ look_any _ 2 2 [a, b] _ rfl (by omega) (ints_new W [a, b] _)
  have E := fun W => hide (extended_any a b W (by omega) (by omega))
  rw [h] at L
  have HE := hide h
  subst ha hb0
  clear h
  go_enter Try.func45, Try.ntmps45
  go_wp2_with fail
  refine (L _ _ (by simp)).out.mono ?_
  rintro e w1 ⟨rfl, hb⟩
  simp only [fv]
  have F1 := (((FC.fresh w).below ((Below.refl _ _).alloc (Nat.le_refl _) (.cells #[.int .i64 0, .int .i64 0] 3))).below hb)
  have hlt := F1.lt
  have HB := hide (below_new (below_new2 hb))
  obtain ⟨d0, d1, f0, f1⟩ := F1.cells
  clear hb
  go_wp2_with fail
  refine (E _).out.mono ?_
  rintro e w2 ⟨u0, rfl, _, _, _, rfl⟩
  go_wp2_with fail
  obtain ⟨p0, p1, _, _⟩ := (((F1.set0 0).set1 0).below ((Below.refl _ _).alloc (Nat.le_refl _) (.cells #[.int .i64 0, .int .i64 0] 26))).cells
  have HB2 := hide (below_fault (u := .int .i64 0) (v := .int .i64 0) HB.out (Nat.le_refl w.heap.size))
  go_region
  go_wp2_with fail
  exact bodyPost_ret (v := .tuple #[.int .i64 0, .int .i64 0, .int .i64 0, fv (0, 0)]) (by simp [results, Try.results45, go_sem, fv, p0, p1]) rfl ⟨0, 0, 0, by rw [HE.out], fun _ => ⟨rfl, rfl, by decide, by decide, fun _ => ⟨rfl, rfl⟩, fun h => (h rfl).elim⟩, fun h => by rw [HE.out] at h; simp at h, (HB2.out.alloc HB2.out.size _).drew⟩

set_option maxRecDepth 100000 in
set_option maxHeartbeats 1600000 in
theorem bezout_b0 (a b : Int) (w : World) (h : lookK 0 [a, b] = (0, 0)) (ha : a ≠ 0) (ha2 : a.natAbs ≤ 1000000000000000000) (hb0 : b = 0) :
    Calls Try.prog 45 #[.int .i64 a, .int .i64 b] w (RetBez w a b) := by
  have E := fun W => hide (extended_any a b W (by omega) (by omega))
  have L : ∀ (W : World) (g : Nat), g = W.heap.size → Hid (Calls Try.prog 54 #[.slice (some ⟨g, 0, none⟩) 2 2] (W.alloc (.cells #[.int .i64 a, .int .i64 b] 3)) (RetFault (W.alloc (.cells #[.int .i64 a, .int .i64 b] 3)) (lookK 0 [a, b]))) := fun W g hg => hg ▸ look_any _ 2 2 [a, b] _ rfl (by omega) (ints_new W [a, b] _)
  rw [h] at L
  have HE := hide h
  subst hb0
  have hg : (a.natAbs : Int) ≠ 0 := by omega
  have hg1 : ((a.natAbs : Int) == 0) = false := by simpa using hg
  have HG : Hid (Int.gcd a 0 = a.natAbs) := Int.gcd_zero_right a
  have HA := hide ha
  have HA2 := hide ha2
  obtain ⟨z, hz⟩ : ∃ z, a.natAbs = z := ⟨_, rfl⟩
  have HZ := hide hz
  rw [hz] at hg hg1
  clear h ha ha2 hg hz
  go_enter Try.func45, Try.ntmps45
  go_wp2_with fail
  refine (L _ _ (by simp)).out.mono ?_
  rintro e w1 ⟨rfl, hb⟩
  simp only [fv]
  have F1 := (((FC.fresh w).below ((Below.refl _ _).alloc (Nat.le_refl _) (.cells #[.int .i64 a, .int .i64 0] 3))).below hb)
  have hlt := F1.lt
  have HB := hide (below_new (below_new2 hb))
  obtain ⟨d0, d1, f0, f1⟩ := F1.cells
  clear hb
  go_wp2_with fail
  refine (E _).out.mono ?_
  rintro e w2 ⟨u0, rfl, hd, _, hu0, rfl⟩
  have hu := hu0 rfl
  rw [HG.out, HZ.out]
  have HR : Hid (BezOk a 0 (z : Int) u0 0) := by
    refine ⟨by rw [HG.out, HZ.out], ?_, by rw [hu]; split <;> decide, by decide, fun _ => ⟨rfl, by rw [if_neg HA.out]; exact hu⟩, fun h => (h rfl).elim⟩
    have := HZ.out
    rw [hu]; split <;> omega
  clear hd hu hu0
  go_wp2_with fail
  obtain ⟨p0, p1, _, _⟩ := (((F1.set0 0).set1 0).below ((Below.refl _ _).alloc (Nat.le_refl _) (.cells #[.int .i64 0, .int .i64 0] 26))).cells
  have HB2 := hide (below_fault (u := .int .i64 0) (v := .int .i64 0) HB.out (Nat.le_refl w.heap.size))
  go_region
  go_wp2_with fail
  exact bodyPost_ret (v := .tuple #[.int .i64 z, .int .i64 u0, .int .i64 0, fv (0, 0)]) (by simp [results, Try.results45, go_sem, fv, p0, p1]) rfl ⟨z, u0, 0, by rw [HE.out], fun _ => HR.out, fun h => by rw [HE.out] at h; simp at h, (HB2.out.alloc HB2.out.size _).drew⟩

end Go.Proofs.Ytkfjjljdhfjpbaa
