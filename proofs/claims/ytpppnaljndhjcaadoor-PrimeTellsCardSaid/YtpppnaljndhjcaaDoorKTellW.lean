/- The walks of prime.Is and prime.Next, and of the answers' IsPrime at every number up to 10^18 + 1. -/
import Derived.Test.YtpppnaljndhjcaaDoorKFact
import Derived.Test.YtpppnaljndhjcaaDoorKProbN
import Derived.Test.YtpppnaljndhjcaaDoorKPtG
namespace Go.Proofs.YtpppnaljndhjcaaDoor
open Go.RowKit

/-- what all of them take for a prime -/
noncomputable def tellB (k : Int) : Bool := decide (2 ≤ k) && isB k.toNat
theorem tellB_low {k : Int} (h : k < 2) : tellB k = false := by
  unfold tellB
  rw [decide_eq_false (by omega), Bool.false_and]
theorem tellB_nat {n : Nat} (h : 2 ≤ n) : tellB (n : Int) = isB n := by
  unfold tellB
  rw [decide_eq_true (by omega), Bool.true_and]; rfl
theorem isB_top : isB 1000000000000000001 = false := by
  unfold isB
  rw [hitB_true ⟨101, by omega, by omega, by omega, by decide⟩, if_pos rfl]
theorem tz_top : tz 1000000000000000001 = 18 := by decide +kernel
theorem mrB_no {n d s X : Nat} (hn : 1 < n) (hd : d < 18446744073709551616) (h : PT.pm8 2 n d = X) (h1 : X ≠ 1) (h2 : X ≠ n - 1) (h3 : sqB n (s - 1) X = false) : mrB n d s 2 = false := by
  unfold mrB
  rw [← PT.pm8_eq hn hd, h, if_neg (by omega), h3]
theorem mrAll_top : mrAll 1000000000000000001 = false := by
  cases h : mrAll 1000000000000000001 with
  | false => rfl
  | true =>
    exfalso
    unfold mrAll at h
    rw [tz_top] at h
    have h1 := List.all_eq_true.1 h 2 (by decide)
    rw [show (1000000000000000001 - 1) / 2 ^ 18 = 3814697265625 from by decide] at h1
    rw [mrB_no (X := 832187102647763755) (by decide) (by decide) (by decide +kernel) (by decide) (by decide) (by decide +kernel)] at h1
    cases h1

set_option maxRecDepth 100000 in
set_option maxHeartbeats 800000 in
theorem isPrime_no (p : Nat) (w : World) (h : 100000000 < p) (hp : p ≤ 1000000000000000001) (hb : mrAll p = false) :
    Calls Tryd.prog 8 #[.int .i64 p] w fun e w' => e = .returned (.bool false) ∧ Below w.heap.size w w' := by
  have O0 := hide (Own.start w)
  have CP := fun (g : Nat) (W : World) (hi : IntAt W g (p : Int)) => hide (prob_no g p 20 W hi h (by omega) hb)
  have q1 : decide ((p : Int) < 2) = false := by rw [decide_eq_false_iff_not]; omega
  have q2 : decide (100000000 < (p : Int)) = true := by rw [decide_eq_true_eq]; omega
  have HB : Hid (-9223372036854775808 ≤ (p : Int) ∧ (p : Int) ≤ 9223372036854775807) := by unfold Hid; omega
  clear hb h hp
  go_enter Tryd.func8, Tryd.ntmps8
  go_wp2_with fail
  refine (b_own O0.out p HB.out.1 HB.out.2).mono ?_
  rintro e w1 ⟨g1, rfl, O⟩
  have C := CP g1 w1 (O.at_ 0 _ _ rfl)
  have B1 := hide O.bel
  clear O CP
  go_wp2_with fail
  refine C.out.mono ?_
  rintro e w2 ⟨rfl, hb⟩
  have B2 := hide (B1.out.trans (hb.mono B1.out.size))
  go_wp2_with fail
  go_ret
  exact ⟨rfl, B2.out⟩
/-- the answers' IsPrime -/
theorem isPrime_all (k : Int) (w : World) (h0 : -9223372036854775808 ≤ k) (h1 : k ≤ 1000000000000000001) :
    Calls Tryd.prog 8 #[.int .i64 k] w fun e w' => e = .returned (.bool (tellB k)) ∧ Below w.heap.size w w' := by
  rcases Int.lt_or_le 100000000 k with h | h
  · obtain ⟨n, rfl⟩ : ∃ n : Nat, k = n := ⟨k.toNat, by omega⟩
    rw [tellB_nat (by omega)]
    cases hm : mrAll n with
    | true =>
      have hn : n ≤ 1000000000000000000 := by
        rcases Nat.lt_or_ge 1000000000000000000 n with c | c
        · have : n = 1000000000000000001 := by omega
          rw [this, mrAll_top] at hm; cases hm
        · exact c
      have hb : isB n = true := by rw [isB_big (by omega) hn, hm]
      rw [hb]
      exact isPrime_told n w (by omega) hn hb
    | false =>
      have hb : isB n = false := by
        rcases Nat.lt_or_ge 1000000000000000000 n with c | c
        · have : n = 1000000000000000001 := by omega
          rw [this]; exact isB_top
        · rw [isB_big (by omega) c, hm]
      rw [hb]
      exact isPrime_no n w (by omega) (by omega) hm
  · have hr := isPrime_ref k w h h0
    have e : prB k.toNat = tellB k := by
      rcases Int.lt_or_le k 2 with c | c
      · rw [tellB_low c]
        exact prB_false fun hp => by have := hp.1; omega
      · obtain ⟨n, rfl⟩ : ∃ n : Nat, k = n := ⟨k.toNat, by omega⟩
        rw [tellB_nat (by omega)]
        exact (isB_mid (by omega) (by omega)).symm
    rw [e] at hr
    refine hr.mono ?_
    rintro e w' ⟨rfl, rfl⟩
    exact ⟨rfl, Below.refl _ _⟩

def Look1 (n : Int) (f : Int × Int) : Prop := ∀ (W : World) (g : Nat), g = W.heap.size → Hid (Calls Tryd.prog 11 #[.slice (some ⟨g, 0, none⟩) 1 1] (W.alloc (.cells #[.int .i64 n] 3)) (RetFault (W.alloc (.cells #[.int .i64 n] 3)) f))
theorem look1 (n : Int) : Look1 n (lookK 0 [n]) := fun W g hg => hg ▸ look_any _ 1 1 [n] _ rfl (by omega) (ints_new W [n] _)

set_option maxRecDepth 100000 in
set_option maxHeartbeats 1600000 in
theorem Is_fault (n : Int) (w : World) (h : lookK 0 [n] = (3, 0)) :
    Calls Tryd.prog 5 #[.int .i64 n] w fun e w' => e = .returned (.tuple #[.bool false, fv (3, 0)]) ∧ Below w.heap.size w w' := by
  have L := look1 n
  rw [h] at L
  unfold Look1 at L
  clear h
  go_enter Tryd.func5, Tryd.ntmps5
  go_wp2_with fail
  refine (L _ _ (by simp)).out.mono ?_
  rintro e w1 ⟨rfl, hb⟩
  simp only [fv]
  have F1 := (((FC.fresh w).below ((Below.refl _ _).alloc (Nat.le_refl _) (.cells #[.int .i64 n] 3))).below hb)
  have hlt := F1.lt
  have HB := hide (below_new (below_new2 hb))
  obtain ⟨d0, d1, f0, f1⟩ := F1.cells
  obtain ⟨p0, p1, _, _⟩ := (((F1.set0 3).set1 0).below ((Below.refl _ _).alloc (Nat.le_refl _) (.cells #[.int .i64 3, .int .i64 0] 23))).cells
  have HB2 := hide (below_fault (u := .int .i64 3) (v := .int .i64 0) HB.out (Nat.le_refl w.heap.size))
  clear hb
  go_wp2_with fail
  go_region
  go_wp2_with fail
  exact bodyPost_ret (v := .tuple #[.bool false, fv (3, 0)]) (by simp [results, Tryd.results5, go_sem, fv, p0, p1]) rfl ⟨rfl, (HB2.out.alloc HB2.out.size _).drew⟩

set_option maxRecDepth 100000 in
set_option maxHeartbeats 1600000 in
theorem Is_ok (n : Int) (w : World) (hT : TabW w) (h : lookK 0 [n] = (0, 0)) (hn : n ≤ 1000000000000000000) (hn0 : -1000000000000000000 ≤ n) :
    Calls Tryd.prog 5 #[.int .i64 n] w fun e w' => e = .returned (.tuple #[.bool (tellB n), fv (0, 0)]) ∧ Below w.heap.size w w' := by
  have L := look1 n
  rw [h] at L
  unfold Look1 at L
  have HT := hide hT
  clear h hT
  by_cases h2 : 1 < n
  · obtain ⟨m, rfl⟩ : ∃ m : Nat, n = m := ⟨n.toNat, by omega⟩
    rw [tellB_nat (by omega)]
    have CI := fun W hW => hide (is_any m W (by omega) (by omega) hW)
    obtain ⟨b, hbb⟩ : ∃ b, isB m = b := ⟨_, rfl⟩
    rw [hbb] at CI ⊢
    have q1 : decide (1 < (m : Int)) = true := by rw [decide_eq_true_eq]; exact h2
    clear hn hn0 h2 hbb
    go_enter Tryd.func5, Tryd.ntmps5
    go_wp2_with fail
    refine (L _ _ (by simp)).out.mono ?_
    rintro e w1 ⟨rfl, hb⟩
    simp only [fv]
    have F1 := (((FC.fresh w).below ((Below.refl _ _).alloc (Nat.le_refl _) (.cells #[.int .i64 (m : Nat)] 3))).below hb)
    have hlt := F1.lt
    have HB := hide (below_new (below_new2 hb))
    obtain ⟨d0, d1, f0, f1⟩ := F1.cells
    clear hb
    go_wp2_with fail
    have HBa := hide (HB.out.alloc HB.out.size (.cells #[.int .i64 0, .int .i64 0] 23))
    refine (CI _ (HT.out.below HBa.out)).out.mono ?_
    rintro e w2 ⟨rfl, hb2⟩
    have F2 := (F1.below (bel_new w1 (.cells #[.int .i64 0, .int .i64 0] 23))).below hb2
    obtain ⟨p0, p1⟩ := F2.put 0 0
    obtain ⟨d0, d1, f0, f1⟩ := F2.cells
    have HB2 := hide (below_fault (u := .int .i64 0) (v := .int .i64 0) (HBa.out.trans (hb2.mono HBa.out.size)) (Nat.le_refl w.heap.size))
    clear hb2
    go_wp2_with fail
    exact bodyPost_ret (v := .tuple #[.bool b, fv (0, 0)]) (by simp [results, Tryd.results5, go_sem, fv, p0, p1]) rfl ⟨rfl, HB2.out⟩
  · rw [tellB_low (by omega)]
    have q1 : decide (1 < n) = false := by rw [decide_eq_false_iff_not]; exact h2
    clear hn hn0 h2
    go_enter Tryd.func5, Tryd.ntmps5
    go_wp2_with fail
    refine (L _ _ (by simp)).out.mono ?_
    rintro e w1 ⟨rfl, hb⟩
    simp only [fv]
    have F1 := (((FC.fresh w).below ((Below.refl _ _).alloc (Nat.le_refl _) (.cells #[.int .i64 n] 3))).below hb)
    have hlt := F1.lt
    have HB := hide (below_new (below_new2 hb))
    obtain ⟨d0, d1, f0, f1⟩ := F1.cells
    obtain ⟨p0, p1, _, _⟩ := (((F1.set0 0).set1 0).below ((Below.refl _ _).alloc (Nat.le_refl _) (.cells #[.int .i64 0, .int .i64 0] 23))).cells
    have HB2 := hide (below_fault (u := .int .i64 0) (v := .int .i64 0) HB.out (Nat.le_refl w.heap.size))
    clear hb
    go_wp2_with fail
    exact bodyPost_ret (v := .tuple #[.bool false, fv (0, 0)]) (by simp [results, Tryd.results5, go_sem, fv, p0, p1]) rfl ⟨rfl, HB2.out.alloc HB2.out.size _⟩
end Go.Proofs.YtpppnaljndhjcaaDoor
