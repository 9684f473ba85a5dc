/- The walks of the answers' At, SlopeAt and PolyFault, under the bounds of the document's numbers. -/
import Derived.Test.YticgnjapgbjfiaaDoorPolyLaw
import Derived.Test.YticgnjapgbjfiaaDoorArith
import Derived.Test.YticgnjapgbjfiaaDoorPadD
import Derived.Test.YticgnjapgbjfiaaDoorRefC
namespace Go.Proofs.YticgnjapgbjfiaaDoor

theorem pv_app (a : List Int) (c x : Int) : pv (a ++ [c]) x = pv a x + c * x ^ a.length := by
  induction a with
  | nil => simp [pv]
  | cons b r ih =>
    rw [List.cons_append, pv, pv, ih, List.length_cons, Int.pow_succ, Int.mul_add, Int.add_assoc]
    congr 2
    rw [Int.mul_comm (x ^ r.length) x, ← Int.mul_assoc, ← Int.mul_assoc, Int.mul_comm x c]
theorem dv_app (a : List Int) (c x : Int) : dv (a ++ [c]) x = dv a x + c * a.length * x ^ (a.length - 1) := by
  induction a with
  | nil => simp [dv, pv]
  | cons b r ih =>
    rw [List.cons_append, dv, dv, ih, pv_app, List.length_cons]
    cases hr : r.length with
    | zero => simp; omega
    | succ n =>
      have e1 : n + 1 - 1 = n := rfl
      have e2 : n + 1 + 1 - 1 = n + 1 := rfl
      rw [e1, e2, Int.mul_add, Int.pow_succ]
      have e3 : x * (c * ((n + 1 : Nat) : Int) * x ^ n) = c * ((n + 1 : Nat) : Int) * (x ^ n * x) := by
        rw [Int.mul_comm x, Int.mul_assoc]
      rw [e3]
      have e4 : c * ((n + 1 + 1 : Nat) : Int) * (x ^ n * x) = c * ((n + 1 : Nat) : Int) * (x ^ n * x) + c * (x ^ n * x) := by
        rw [show ((n + 1 + 1 : Nat) : Int) = ((n + 1 : Nat) : Int) + 1 from by omega, Int.mul_add, Int.mul_one, Int.add_mul]
      rw [e4]
      omega
theorem take_succ' {l : List Int} {i : Nat} {c : Int} (h : l[i]? = some c) : l.take (i + 1) = l.take i ++ [c] := by
  rw [List.take_add_one, h]; rfl
theorem pv_take {l : List Int} {i : Nat} {c : Int} (h : l[i]? = some c) (x : Int) : pv (l.take (i + 1)) x = pv (l.take i) x + c * x ^ i := by
  have hi : i < l.length := (List.getElem?_eq_some_iff.1 h).1
  rw [take_succ' h, pv_app, List.length_take, Nat.min_eq_left (by omega)]
theorem dv_take {l : List Int} {i : Nat} {c : Int} (h : l[i]? = some c) (x : Int) : dv (l.take (i + 1)) x = dv (l.take i) x + c * i * x ^ (i - 1) := by
  have hi : i < l.length := (List.getElem?_eq_some_iff.1 h).1
  rw [take_succ' h, dv_app, List.length_take, Nat.min_eq_left (by omega)]

theorem pow_abs {x : Int} {b : Nat} (hx : x.natAbs ≤ b) (k : Nat) : (x ^ k).natAbs ≤ b ^ k := by
  rw [Int.natAbs_pow]; exact Nat.pow_le_pow_left hx k
/-- a part of the sum -/
theorem part_abs {c x : Int} {i : Nat} (hc : c.natAbs ≤ 1000000000000000000) (hx : x.natAbs ≤ 1000000000000000000) (hi : i ≤ 12) : (c * x ^ i).natAbs ≤ 1000000000000000000 ^ 13 := by
  rw [Int.natAbs_mul]
  refine Nat.le_trans (Nat.mul_le_mul hc (Nat.le_trans (pow_abs hx i) (Nat.pow_le_pow_right (by omega) hi))) ?_
  decide
theorem part2_abs {c x : Int} {i : Nat} (hc : c.natAbs ≤ 1000000000000000000) (hx : x.natAbs ≤ 1000000000000000000) (hi : i ≤ 12) : (c * i * x ^ (i - 1)).natAbs ≤ 1000000000000000000 ^ 13 := by
  rw [Int.natAbs_mul, Int.natAbs_mul]
  have h1 : (i : Int).natAbs = i := rfl
  rw [h1]
  refine Nat.le_trans (Nat.mul_le_mul (Nat.mul_le_mul hc hi) (Nat.le_trans (pow_abs hx (i - 1)) (Nat.pow_le_pow_right (by omega) (show i - 1 ≤ 11 by omega)))) ?_
  decide
end Go.Proofs.YticgnjapgbjfiaaDoor

namespace Go.Proofs.YticgnjapgbjfiaaDoor
open Go.RowKit

theorem Ints.cellq {w : World} {A : Option Addr} {l : List Int} {k : Nat} (h : Ints w w.heap.size A l) (hk : k < l.length) :
    ∃ ad v, A = some ad ∧ l[k]? = some v ∧ ∀ w' : World, Below w.heap.size w w' → w'.cell? (ad.add k) = some (.int .i64 v) := by
  obtain ⟨ad, v, e, hv, hl, hc⟩ := h.at_ hk
  exact ⟨ad, v, e, hv, fun w' hb => (hb.cell (by rw [add_block]; exact hl)).trans hc⟩
theorem lim_big {z : Int} (h : z.natAbs ≤ 20 * 1000000000000000000 ^ 13) : z.natAbs + 1 < lim :=
  lim_pow (k := 26) (Nat.lt_of_le_of_lt (Nat.succ_le_succ h) (by decide)) (by omega)
theorem big_le {z : Int} {k : Nat} (h : z.natAbs ≤ k * 1000000000000000000 ^ 13) (hk : k ≤ 20) : z.natAbs + 1 < lim := lim_big (Nat.le_trans h (Nat.mul_le_mul_right _ hk))
theorem small_big {z : Int} (h : z.natAbs ≤ 1000000000000000000) : z.natAbs + 1 < lim := lim_big (Nat.le_trans h (by decide))
theorem ppow_lim {x : Int} (hx : x.natAbs ≤ 1000000000000000000) {j : Nat} (hj : j ≤ 12) : (x ^ j).natAbs + 1 < lim :=
  lim_big (Nat.le_trans (pow_abs hx j) (Nat.le_trans (Nat.pow_le_pow_right (by omega) hj) (by decide)))
theorem sum_le {s t : Int} {k : Nat} (hs : s.natAbs ≤ k * 1000000000000000000 ^ 13) (ht : t.natAbs ≤ 1000000000000000000 ^ 13) : (s + t).natAbs ≤ (k + 1) * 1000000000000000000 ^ 13 := by
  rw [Nat.add_mul, Nat.one_mul]
  exact Nat.le_trans (Int.natAbs_add_le s t) (Nat.add_le_add hs ht)

set_option maxRecDepth 100000 in
set_option maxHeartbeats 3200000 in
theorem at_ref (A : Option Addr) (n cc : Nat) (l : List Int) (x m : Int) (w : World) (hl : l.length = n) (hn : n ≤ 13) (hI : Ints w w.heap.size A l) (hf : ∀ c ∈ l, c.natAbs ≤ 1000000000000000000) (hx : x.natAbs ≤ 1000000000000000000) (hm : 0 < m) (hm2 : m ≤ 1000000000000000000) :
    Calls Tryd.prog 15 #[.slice A n cc, .int .i64 x, .int .i64 m] w fun e w' => e = .returned (.int .i64 (pv l x % m)) ∧ Below w.heap.size w w' := by
  have HI := hide hI
  have HLL := hide hl
  have HFit := hide hf
  have HX := hide hx
  have HM : Hid (-9223372036854775808 ≤ m ∧ m ≤ 9223372036854775807 ∧ m.natAbs < lim ∧ m ≠ 0) := ⟨by omega, by omega, by have := small_big (z := m) (by omega); omega, by omega⟩
  have HR : Hid (-9223372036854775808 ≤ pv l x % m ∧ pv l x % m ≤ 9223372036854775807) := by
    have r0 := Int.emod_nonneg (pv l x) (b := m) (by omega)
    have r1 := Int.emod_lt_of_pos (pv l x) hm
    unfold Hid; omega
  have O0 := hide (Own.start w)
  clear hl hI hf hx hm hm2
  go_enter Tryd.func15, Tryd.ntmps15
  go_wp2_with fail
  refine (b_own O0.out 0 (by omega) (by omega)).mono ?_
  rintro e w1 ⟨g0, rfl, O⟩
  have O1 := hide O
  clear O
  go_wp2_with fail
  go_loopw [7, 8] (fun a i wr => ∃ (k g : Nat) (S : Int), a = .pointer (some ⟨g, 0, none⟩) ∧ i = .int .i64 k ∧ k ≤ n ∧ Hid (S = pv (l.take k) x ∧ S.natAbs ≤ k * 1000000000000000000 ^ 13) ∧ Hid (Own w wr [(g, S)])) (fun _ i _ => n - (intOf i).toNat)
  case atStart => exact ⟨0, g0, 0, rfl, rfl, by omega, ⟨by simp [pv], by decide⟩, O1⟩
  case round =>
    obtain ⟨k, g, S, rfl, rfl, hk, HS, HO⟩ := hrel
    clear O0 O1
    by_cases hkn : k < n
    · obtain ⟨ad, c, rfl, hc, hce⟩ := HI.out.cellq (k := k) (by rw [HLL.out]; exact hkn)
      have c1 := hce _ HO.out.new.bel
      have hcm := HFit.out c (List.mem_of_getElem? hc)
      have hp := part_abs (i := k) hcm HX.out (by omega)
      have HS2 : Hid (S + c * x ^ k = pv (l.take (k + 1)) x ∧ (S + c * x ^ k).natAbs ≤ (k + 1) * 1000000000000000000 ^ 13) := ⟨by rw [pv_take hc, HS.out.1], sum_le HS.out.2 hp⟩
      have hxb := HX.out
      have HB : Hid (-9223372036854775808 ≤ c ∧ c ≤ 9223372036854775807 ∧ -9223372036854775808 ≤ x ∧ x ≤ 9223372036854775807 ∧ -9223372036854775808 ≤ (k : Int) ∧ (k : Int) ≤ 9223372036854775807 ∧ k < lim) := ⟨by omega, by omega, by omega, by omega, by omega, by omega, by have := small_big (z := (k : Int)) (by omega); omega⟩
      have HK : Hid (∀ j, j ≤ k → (x ^ j).natAbs < lim) := fun j hj => by have := ppow_lim HX.out (j := j) (by omega); omega
      have HL : Hid (x.natAbs < lim ∧ c.natAbs < lim ∧ (c * x ^ k).natAbs < lim ∧ S.natAbs < lim ∧ (S + c * x ^ k).natAbs < lim) :=
        ⟨by have := small_big HX.out; omega, by have := small_big hcm; omega, by have := big_le (k := 1) (by rw [Nat.one_mul]; exact hp) (by omega); omega, by have := big_le HS.out.2 (by omega); omega, by have := big_le HS2.out.2 (by omega); omega⟩
      clear hc hce hcm hp hxb
      go_wp2_with fail
      refine (b_own HO.out.new c HB.out.1 HB.out.2.1).mono ?_
      rintro e w2 ⟨g2, rfl, O⟩
      have O2 := hide O
      clear O c1
      go_wp2_with fail
      refine (b_own O2.out.new x HB.out.2.2.1 HB.out.2.2.2.1).mono ?_
      rintro e w3 ⟨g3, rfl, O⟩
      have O3 := hide O
      clear O
      go_wp2_with fail
      refine (b_own O3.out (k : Int) HB.out.2.2.2.2.1 HB.out.2.2.2.2.2.1).mono ?_
      rintro e w4 ⟨g4, rfl, O⟩
      have O4 := hide O
      clear O
      go_wp2_with fail
      refine (exp_nil w2.heap.size g3 g4 x k w4 (O4.out.blk (i := 2) rfl) (O4.out.at_ 1 _ _ rfl) (O4.out.at_ 0 _ _ rfl) HB.out.2.2.2.2.2.2 HK.out HL.out.1).mono ?_
      rintro e w5 hr
      obtain ⟨rfl, O⟩ := RetInt.own O4.out (i := 2) rfl hr
      simp only [List.set] at O
      have O5 := hide O
      clear O hr
      go_wp2_with fail
      refine (mul_own O5.out 4 3 2 rfl rfl rfl HL.out.2.1 (HK.out k (Nat.le_refl _)) HL.out.2.2.1).mono ?_
      rintro e w6 ⟨rfl, O⟩
      simp only [List.set] at O
      have O6 := hide O
      clear O
      go_wp2_with fail
      refine (add_own O6.out 5 5 4 rfl rfl rfl HL.out.2.2.2.1 HL.out.2.2.1 HL.out.2.2.2.2).mono ?_
      rintro e w7 ⟨rfl, O⟩
      simp only [List.set] at O
      have O7 : Hid (Own w w7 [(g, S + c * x ^ k)]) := O.sub [5] rfl (by decide)
      clear O
      go_wp2_with fail
      exact ⟨⟨k + 1, g, _, rfl, by simp, by omega, HS2, O7⟩, by simp [intOf]; omega⟩
    · obtain rfl : k = n := by omega
      have hS : S = pv l x := by have := HS.out.1; rwa [← HLL.out, List.take_length] at this
      subst hS
      have HSL : Hid ((pv l x).natAbs + 1 < lim) := big_le HS.out.2 (by omega)
      clear HS
      go_wp2_with fail
      refine (b_own HO.out m HM.out.1 HM.out.2.1).mono ?_
      rintro e w2 ⟨g2, rfl, O⟩
      have O2 := hide O
      clear O
      go_wp2_with fail
      refine (mod_own O2.out 1 1 0 rfl rfl rfl HSL.out HM.out.2.2.1 HM.out.2.2.2).mono ?_
      rintro e w3 ⟨rfl, O⟩
      simp only [List.set] at O
      have O3 := hide O
      have C := hide (int64_own O 1 rfl HR.out.1 HR.out.2)
      clear O
      go_wp2_with fail
      refine C.out.mono ?_
      rintro e w4 ⟨rfl, rfl⟩
      go_wp2_with fail
      go_ret
      exact ⟨rfl, O3.out.bel⟩

theorem dv_one (l : List Int) (x : Int) : dv (l.take 1) x = 0 := by
  cases l <;> simp [dv, pv]

set_option maxRecDepth 100000 in
set_option maxHeartbeats 3200000 in
theorem slopeAt_ref (A : Option Addr) (n cc : Nat) (l : List Int) (x m : Int) (w : World) (hl : l.length = n) (hn : n ≤ 13) (hI : Ints w w.heap.size A l) (hf : ∀ c ∈ l, c.natAbs ≤ 1000000000000000000) (hx : x.natAbs ≤ 1000000000000000000) (hm : 0 < m) (hm2 : m ≤ 1000000000000000000) :
    Calls Tryd.prog 16 #[.slice A n cc, .int .i64 x, .int .i64 m] w fun e w' => e = .returned (.int .i64 (dv l x % m)) ∧ Below w.heap.size w w' := by
  have HI := hide hI
  have HLL := hide hl
  have HFit := hide hf
  have HX := hide hx
  have HM : Hid (-9223372036854775808 ≤ m ∧ m ≤ 9223372036854775807 ∧ m.natAbs < lim ∧ m ≠ 0) := ⟨by omega, by omega, by have := small_big (z := m) (by omega); omega, by omega⟩
  have HR : Hid (-9223372036854775808 ≤ dv l x % m ∧ dv l x % m ≤ 9223372036854775807) := by
    have r0 := Int.emod_nonneg (dv l x) (b := m) (by omega)
    have r1 := Int.emod_lt_of_pos (dv l x) hm
    unfold Hid; omega
  have O0 := hide (Own.start w)
  clear hl hI hf hx hm hm2
  go_enter Tryd.func16, Tryd.ntmps16
  go_wp2_with fail
  refine (b_own O0.out 0 (by omega) (by omega)).mono ?_
  rintro e w1 ⟨g0, rfl, O⟩
  have O1 := hide O
  clear O
  go_wp2_with fail
  go_loopw [7, 8] (fun a i wr => ∃ (k g : Nat) (S : Int), a = .pointer (some ⟨g, 0, none⟩) ∧ i = .int .i64 ((k : Int) + 1) ∧ k ≤ 13 ∧ Hid (S = dv (l.take (k + 1)) x ∧ S.natAbs ≤ k * 1000000000000000000 ^ 13) ∧ Hid (Own w wr [(g, S)])) (fun _ i _ => n + 1 - (intOf i).toNat)
  case atStart => exact ⟨0, g0, 0, rfl, rfl, by omega, ⟨(dv_one l x).symm, by decide⟩, O1⟩
  case round =>
    obtain ⟨k, g, S, rfl, rfl, hk, HS, HO⟩ := hrel
    clear O0 O1
    by_cases hkn : k + 1 < n
    · obtain ⟨ad, c, rfl, hc, hce⟩ := HI.out.cellq (k := k + 1) (by rw [HLL.out]; exact hkn)
      have c1 := hce _ HO.out.new.bel
      rw [addr_pos _ _ (by omega)] at c1
      have hcm := HFit.out c (List.mem_of_getElem? hc)
      have hp := part2_abs (i := k + 1) hcm HX.out (by omega)
      have hpp := hide (dv_take hc x)
      rw [show k + 1 - 1 = k from rfl, Int.natCast_add, Int.natCast_one] at hp hpp
      have HS2 : Hid (S + c * (k + 1) * x ^ k = dv (l.take (k + 1 + 1)) x ∧ (S + c * (k + 1) * x ^ k).natAbs ≤ (k + 1) * 1000000000000000000 ^ 13) := ⟨by rw [hpp.out, HS.out.1], sum_le HS.out.2 hp⟩
      have hxb := HX.out
      have HB : Hid (-9223372036854775808 ≤ c ∧ c ≤ 9223372036854775807 ∧ -9223372036854775808 ≤ x ∧ x ≤ 9223372036854775807 ∧ -9223372036854775808 ≤ (k : Int) ∧ (k : Int) ≤ 9223372036854775807 ∧ k < lim ∧ -9223372036854775808 ≤ (k : Int) + 1 ∧ (k : Int) + 1 ≤ 9223372036854775807) := ⟨by omega, by omega, by omega, by omega, by omega, by omega, by have := small_big (z := (k : Int)) (by omega); omega, by omega, by omega⟩
      have HK : Hid (∀ j, j ≤ k → (x ^ j).natAbs < lim) := fun j hj => by have := ppow_lim HX.out (j := j) (by omega); omega
      have hck : (c * (k + 1)).natAbs ≤ 1000000000000000000 * 13 := by
        rw [Int.natAbs_mul]; exact Nat.mul_le_mul hcm (by omega)
      have HL : Hid (x.natAbs < lim ∧ c.natAbs < lim ∧ (c * (k + 1) * x ^ k).natAbs < lim ∧ S.natAbs < lim ∧ (S + c * (k + 1) * x ^ k).natAbs < lim ∧ ((k : Int) + 1).natAbs < lim ∧ (c * (k + 1)).natAbs < lim) :=
        ⟨by have := small_big HX.out; omega, by have := small_big hcm; omega, by have := big_le (k := 1) (by rw [Nat.one_mul]; exact hp) (by omega); omega, by have := big_le HS.out.2 (by omega); omega, by have := big_le HS2.out.2 (by omega); omega, by have := small_big (z := (k : Int) + 1) (by omega); omega, by have := lim_big (Nat.le_trans hck (by decide)); omega⟩
      clear hc hce hcm hp hxb hck hpp
      go_wp2_with fail
      refine (b_own HO.out.new c HB.out.1 HB.out.2.1).mono ?_
      rintro e w2 ⟨g2, rfl, O⟩
      have O2 := hide O
      clear O c1
      go_wp2_with fail
      refine (b_own O2.out ((k : Int) + 1) HB.out.2.2.2.2.2.2.2.1 HB.out.2.2.2.2.2.2.2.2).mono ?_
      rintro e w3 ⟨g3, rfl, O⟩
      have O3 := hide O
      clear O
      go_wp2_with fail
      refine (mul_own O3.out 2 1 0 rfl rfl rfl HL.out.2.1 HL.out.2.2.2.2.2.1 HL.out.2.2.2.2.2.2).mono ?_
      rintro e w4 ⟨rfl, O⟩
      simp only [List.set] at O
      have O4 := hide O
      clear O
      go_wp2_with fail
      refine (b_own O4.out.new x HB.out.2.2.1 HB.out.2.2.2.1).mono ?_
      rintro e w5 ⟨g5, rfl, O⟩
      have O5 := hide O
      clear O
      go_wp2_with fail
      refine (b_own O5.out (k : Int) HB.out.2.2.2.2.1 HB.out.2.2.2.2.2.1).mono ?_
      rintro e w6 ⟨g6, rfl, O⟩
      have O6 := hide O
      clear O
      go_wp2_with fail
      refine (exp_nil w4.heap.size g5 g6 x k w6 (O6.out.blk (i := 2) rfl) (O6.out.at_ 1 _ _ rfl) (O6.out.at_ 0 _ _ rfl) HB.out.2.2.2.2.2.2.1 HK.out HL.out.1).mono ?_
      rintro e w7 hr
      obtain ⟨rfl, O⟩ := RetInt.own O6.out (i := 2) rfl hr
      simp only [List.set] at O
      have O7 := hide O
      clear O hr
      go_wp2_with fail
      refine (mul_own O7.out 5 5 2 rfl rfl rfl HL.out.2.2.2.2.2.2 (HK.out k (Nat.le_refl _)) HL.out.2.2.1).mono ?_
      rintro e w8 ⟨rfl, O⟩
      simp only [List.set] at O
      have O8 := hide O
      clear O
      go_wp2_with fail
      refine (add_own O8.out 6 6 5 rfl rfl rfl HL.out.2.2.2.1 HL.out.2.2.1 HL.out.2.2.2.2.1).mono ?_
      rintro e w9 ⟨rfl, O⟩
      simp only [List.set] at O
      have O9 : Hid (Own w w9 [(g, S + c * (k + 1) * x ^ k)]) := O.sub [6] rfl (by decide)
      clear O
      go_wp2_with fail
      exact ⟨⟨k + 1, g, _, rfl, by simp, by omega, HS2, O9⟩, by simp [intOf]; omega⟩
    · have hS : S = dv l x := by have := HS.out.1; rwa [List.take_of_length_le (by rw [HLL.out]; omega)] at this
      subst hS
      have HSL : Hid ((dv l x).natAbs + 1 < lim) := big_le HS.out.2 (by omega)
      clear HS
      go_wp2_with fail
      refine (b_own HO.out m HM.out.1 HM.out.2.1).mono ?_
      rintro e w2 ⟨g2, rfl, O⟩
      have O2 := hide O
      clear O
      go_wp2_with fail
      refine (mod_own O2.out 1 1 0 rfl rfl rfl HSL.out HM.out.2.2.1 HM.out.2.2.2).mono ?_
      rintro e w3 ⟨rfl, O⟩
      simp only [List.set] at O
      have O3 := hide O
      have C := hide (int64_own O 1 rfl HR.out.1 HR.out.2)
      clear O
      go_wp2_with fail
      refine C.out.mono ?_
      rintro e w4 ⟨rfl, rfl⟩
      go_wp2_with fail
      go_ret
      exact ⟨rfl, O3.out.bel⟩

theorem lookK_all (l : List Int) : ∀ k, ((lookK k l).1 = 0 ↔ l.all okB = true) ∧ (l.all okB = true → lookK k l = (0, 0)) := by
  induction l with
  | nil => intro k; simp [lookK]
  | cons x r ih =>
    intro k
    rw [lookK]
    by_cases h : okB x = true
    · rw [if_pos h]
      have := ih (k + 1)
      simp only [List.all_cons, h, Bool.true_and]
      exact this
    · rw [if_neg h]
      simp [h]

theorem field_fault (x y : Int) (w : World) : (Instr.field 24 (.agg #[.int .i64 x, .int .i64 y]) 0).run Tryd.prog w = .ok (.int .i64 x) w := by kernel_rfl

set_option maxRecDepth 100000 in
set_option maxHeartbeats 1600000 in
theorem polyFault_ref (A : Option Addr) (n c : Nat) (l : List Int) (w : World) (hl : l.length = n) (hn : n ≤ 140737488351232) (hI : Ints w w.heap.size A l) :
    Calls Tryd.prog 13 #[.slice A n c] w (RetFault w (polF l)) := by
  have KF := field_fault
  by_cases h : 13 < n
  · have HE := hide (polF_many (l := l) (by omega))
    have C := fun W => hide (refF_any 2 2 W)
    have q1 : decide ((13 : Int) < (n : Int)) = true := by rw [decide_eq_true_eq]; omega
    clear hl hI h
    go_enter Tryd.func13, Tryd.ntmps13
    go_wp2_with fail
    refine (C _).out.mono ?_
    rintro e w1 ⟨rfl, hb⟩
    have F1 := (FC.fresh w).below hb
    obtain ⟨d0, d1, f0, f1⟩ := F1.cells
    obtain ⟨p0, p1⟩ := F1.put 2 2
    have HB2 := hide (below_fault (u := .int .i64 2) (v := .int .i64 2) (below_new hb) (Nat.le_refl w.heap.size))
    clear hb F1
    go_wp2_with fail
    exact bodyPost_ret (v := fv (2, 2)) (by simp [results, Tryd.results13, go_sem, fv, p0, p1]) rfl ⟨by rw [HE.out], HB2.out⟩
  · have q1 : decide ((13 : Int) < (n : Int)) = false := by rw [decide_eq_false_iff_not]; omega
    have CN : ∀ W, Below w.heap.size w W → Hid (Calls Tryd.prog 55 #[.slice A n c] W (RetFault W (lookK 0 l))) := fun W hW => numbersFault_any A n c l W hl (by omega) ((hI.below hW (Nat.le_refl _)).more hW.size)
    have hlk := lookK_all l 0
    obtain ⟨⟨u, v⟩, hF⟩ : ∃ F, lookK 0 l = F := ⟨_, rfl⟩
    rw [hF] at CN hlk
    unfold RetFault at CN
    simp only [fv] at CN
    have hb0 : Below w.heap.size w (w.alloc (.cells #[.int .i64 0, .int .i64 0] 24)) := (Below.refl _ _).alloc (Nat.le_refl _) _
    have HB0 := hide hb0
    by_cases hu : u = 0
    · have hall := hlk.1.1 hu
      have HE := hide (polF_ok (l := l) (by omega) hall)
      subst hu
      clear hlk hall hl hI h hF hb0
      go_enter Tryd.func13, Tryd.ntmps13
      go_wp2_with fail
      refine (CN _ HB0.out).out.mono ?_
      rintro e w1 ⟨rfl, hb⟩
      have F1 := (FC.fresh w).below hb
      obtain ⟨d0, d1, f0, f1⟩ := F1.cells
      obtain ⟨p0, p1⟩ := F1.put 0 0
      have HB2 := hide (below_fault (u := .int .i64 0) (v := .int .i64 0) (below_new hb) (Nat.le_refl w.heap.size))
      clear hb F1
      go_wp2_with fail
      exact bodyPost_ret (v := fv (0, 0)) (by simp [results, Tryd.results13, go_sem, fv, p0, p1]) rfl ⟨by rw [HE.out], HB2.out⟩
    · have hall : l.all okB = false := by
        cases hb : l.all okB with
        | false => rfl
        | true => exact (hu (hlk.1.2 hb)).elim
      have HE := hide (polF_bad (l := l) (by omega) hall)
      have C := fun W => hide (refF_any 3 2 W)
      have q2 : (u != 0) = true := by simpa using hu
      clear hlk hall hl hI h hF hb0 hu
      go_enter Tryd.func13, Tryd.ntmps13
      go_wp2_with fail
      refine (CN _ HB0.out).out.mono ?_
      rintro e w1 ⟨rfl, hb⟩
      have F0 := hide ((FC.fresh w).below hb)
      have HB1 := hide (below_new hb)
      clear hb
      go_wp2_with fail
      refine (C _).out.mono ?_
      rintro e w2 ⟨rfl, hb⟩
      have F1 := F0.out.below hb
      obtain ⟨d0, d1, f0, f1⟩ := F1.cells
      obtain ⟨p0, p1⟩ := F1.put 3 2
      have HB2 := hide (below_fault (u := .int .i64 3) (v := .int .i64 2) (HB1.out.trans (hb.mono HB1.out.size)) (Nat.le_refl w.heap.size))
      clear hb F1
      go_wp2_with fail
      exact bodyPost_ret (v := fv (3, 2)) (by simp [results, Tryd.results13, go_sem, fv, p0, p1]) rfl ⟨by rw [HE.out], HB2.out⟩
end Go.Proofs.YticgnjapgbjfiaaDoor
