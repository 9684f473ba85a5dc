/- The walk of prime.Next. -/
import Derived.Test.YtpppnaljndhjcaaDoorKTellW
namespace Go.Proofs.YtpppnaljndhjcaaDoor
open Go.RowKit

/-- p is the first from lo on that is taken for a prime (c = 0), or there is none up to 10^18 (c = 9) -/
def Nxt (lo p c : Int) : Prop := (c = 0 ∧ lo ≤ p ∧ p ≤ 1000000000000000000 ∧ tellB p = true ∧ ∀ j, lo ≤ j → j < p → tellB j = false) ∨ (c = 9 ∧ p = 0 ∧ ∀ j, lo ≤ j → j ≤ 1000000000000000000 → tellB j = false)
def RetNext (w : World) (lo : Int) : Ending → World → Prop := fun e w' => ∃ p c : Int, e = .returned (.tuple #[.int .i64 p, fv (c, 0)]) ∧ Nxt lo p c ∧ Below w.heap.size w w'

set_option maxRecDepth 100000 in
set_option maxHeartbeats 1600000 in
theorem Next_fault (n : Int) (w : World) (h : lookK 0 [n] = (3, 0)) :
    Calls Tryd.prog 6 #[.int .i64 n] w fun e w' => e = .returned (.tuple #[.int .i64 0, fv (3, 0)]) ∧ Below w.heap.size w w' := by
  have L := look1 n
  rw [h] at L
  unfold Look1 at L
  clear h
  go_enter Tryd.func6, Tryd.ntmps6
  go_wp2_with fail
  refine (L _ _ (by simp)).out.mono ?_
  rintro e w1 ⟨rfl, hb⟩
  simp only [fv]
  have F1 := (((FC.fresh w).below ((Below.refl _ _).alloc (Nat.le_refl _) (.cells #[.int .i64 n] 3))).below hb)
  have hlt := F1.lt
  have HB := hide (below_new (below_new2 hb))
  obtain ⟨d0, d1, f0, f1⟩ := F1.cells
  obtain ⟨p0, p1, _, _⟩ := (((F1.set0 3).set1 0).below ((Below.refl _ _).alloc (Nat.le_refl _) (.cells #[.int .i64 3, .int .i64 0] 23))).cells
  have HB2 := hide (below_fault (u := .int .i64 3) (v := .int .i64 0) HB.out (Nat.le_refl w.heap.size))
  clear hb
  go_wp2_with fail
  go_region
  go_wp2_with fail
  exact bodyPost_ret (v := .tuple #[.int .i64 0, fv (3, 0)]) (by simp [results, Tryd.results6, go_sem, fv, p0, p1]) rfl ⟨rfl, (HB2.out.alloc HB2.out.size _).drew⟩

set_option maxRecDepth 100000 in
set_option maxHeartbeats 1600000 in
theorem Next_ok (n : Int) (lo : Nat) (w : World) (hT : TabW w) (h : lookK 0 [n] = (0, 0)) (hn : n ≤ 1000000000000000000) (hn0 : -1000000000000000000 ≤ n) (hlo : (lo : Int) = if n + 1 < 2 then 2 else n + 1) :
    Calls Tryd.prog 6 #[.int .i64 n] w (RetNext w lo) := by
  have L := look1 n
  rw [h] at L
  unfold Look1 at L
  have HT := hide hT
  have I1 : wrap64 (n + 1) = n + 1 := by unfold wrap64; omega
  have I2 : max 2 (n + 1) = (lo : Int) := by rw [hlo]; split <;> omega
  have hlo2 : 2 ≤ lo ∧ lo ≤ 1000000000000000001 := by split at hlo <;> omega
  have HLO := hide hlo2
  clear h hT hlo hlo2 hn hn0
  go_enter Tryd.func6, Tryd.ntmps6
  go_wp2_with fail
  refine (L _ _ (by simp)).out.mono ?_
  rintro e w1 ⟨rfl, hb⟩
  simp only [fv]
  have F1 := (((FC.fresh w).below ((Below.refl _ _).alloc (Nat.le_refl _) (.cells #[.int .i64 n] 3))).below hb)
  have hlt := F1.lt
  have HB := hide (below_new (below_new2 hb))
  obtain ⟨d0, d1, f0, f1⟩ := F1.cells
  have HF1 := hide F1
  clear hb F1
  have HBa := hide (HB.out.alloc HB.out.size (.cells #[.int .i64 0, .int .i64 0] 23))
  have HFa := hide (HF1.out.below (bel_new w1 (.cells #[.int .i64 0, .int .i64 0] 23)))
  go_wp2_with fail
  (try rw [I2])
  obtain ⟨W, hW⟩ : ∃ W, w1.alloc (.cells #[.int .i64 0, .int .i64 0] 23) = W := ⟨_, rfl⟩
  rw [hW] at HBa HFa
  (try rw [hW])
  clear hW HF1 HB d0 d1 f0 f1 I1 I2 hlt L
  go_loopg [5] (1000000000000000001 - lo) (fun J y wr => ∃ k : Nat, J = 1000000000000000001 - k ∧ y = .int .i64 (k : Int) ∧ lo ≤ k ∧ k ≤ 1000000000000000001 ∧ Hid (∀ j : Int, (lo : Int) ≤ j → j < k → tellB j = false) ∧ Hid (Below W.heap.size W wr))
  case atStart => exact ⟨lo, rfl, rfl, Nat.le_refl _, HLO.out.2, fun j h1 h2 => by omega, Below.refl _ _⟩
  case round =>
    obtain ⟨k, hJ, rfl, hk1, hk2, HF, HW⟩ := hrel
    obtain ⟨wo, rfl⟩ : ∃ Z, Z = wr := ⟨_, rfl⟩
    by_cases hlt : k ≤ 1000000000000000000
    · have q1 : decide ((k : Int) ≤ 1000000000000000000) = true := by rw [decide_eq_true_eq]; omega
      have hk3 : 2 ≤ k := Nat.le_trans HLO.out.1 hk1
      have HBo := hide (HBa.out.trans (HW.out.mono HBa.out.size))
      have C := hide (is_any k wo hk3 hlt (HT.out.below HBo.out))
      obtain ⟨tk, htk⟩ : ∃ tk, tellB (k : Int) = tk := ⟨_, rfl⟩
      rw [← tellB_nat hk3, htk] at C
      have HTK := hide htk
      have HHJ := hide (And.intro hJ (And.intro hk1 hlt))
      clear htk hJ hk1 hk2 hlt hk3
      cases tk
      · have HF2 : Hid (∀ j : Int, (lo : Int) ≤ j → j < ((k + 1 : Nat) : Int) → tellB j = false) := by
          intro j h1 h2
          rcases Int.lt_or_le j k with g | g
          · exact HF.out j h1 g
          · have : j = k := by omega
            rw [this]; exact HTK.out
        go_wp2_with fail
        refine C.out.mono ?_
        rintro e w6 ⟨rfl, hb⟩
        have HW2 := hide (HW.out.trans (hb.mono HW.out.size))
        clear hb
        go_wp2_with fail
        go_roundg (1000000000000000001 - (k + 1))
        case measure => have := HHJ.out; omega
        case rel => exact ⟨k + 1, rfl, by have := HHJ.out; rw [show wrap64 ((k : Int) + 1) = ((k + 1 : Nat) : Int) from by unfold wrap64; omega], by have := HHJ.out; omega, by have := HHJ.out; omega, HF2, HW2⟩
      · go_wp2_with fail
        refine C.out.mono ?_
        rintro e w6 ⟨rfl, hb⟩
        have F6 := (HFa.out.below HW.out).below hb
        obtain ⟨d0, d1, f0, f1⟩ := F6.cells
        obtain ⟨p0, p1⟩ := F6.put 0 0
        have HB2 := hide (below_fault (u := .int .i64 0) (v := .int .i64 0) (HBo.out.trans (hb.mono HBo.out.size)) (Nat.le_refl w.heap.size))
        clear hb
        go_wp2_with fail
        exact bodyPost_ret (v := .tuple #[.int .i64 (k : Int), fv (0, 0)]) (by simp [results, Tryd.results6, go_sem, fv, p0, p1]) rfl ⟨k, 0, rfl, .inl ⟨rfl, by have := HHJ.out; omega, by have := HHJ.out; omega, HTK.out, HF.out⟩, HB2.out⟩
    · have q1 : decide ((k : Int) ≤ 1000000000000000000) = false := by rw [decide_eq_false_iff_not]; omega
      have HF2 : Hid (∀ j : Int, (lo : Int) ≤ j → j ≤ 1000000000000000000 → tellB j = false) := fun j h1 h2 => HF.out j h1 (by omega)
      have CFt := fun W => hide (prfault_any 9 0 W)
      have HBo := hide (HBa.out.trans (HW.out.mono HBa.out.size))
      clear hJ hk1 hk2 hlt
      go_wp2_with fail
      refine (CFt _).out.mono ?_
      rintro e w6 ⟨rfl, hb⟩
      have F6 := (HFa.out.below HW.out).below hb
      obtain ⟨d0, d1, f0, f1⟩ := F6.cells
      obtain ⟨p0, p1⟩ := F6.put 9 0
      have HB2 := hide (below_fault (u := .int .i64 9) (v := .int .i64 0) (HBo.out.trans (hb.mono HBo.out.size)) (Nat.le_refl w.heap.size))
      clear hb
      go_wp2_with fail
      exact bodyPost_ret (v := .tuple #[.int .i64 0, fv (9, 0)]) (by simp [results, Tryd.results6, go_sem, fv, p0, p1]) rfl ⟨0, 9, rfl, .inr ⟨rfl, rfl, HF2.out⟩, HB2.out⟩
end Go.Proofs.YtpppnaljndhjcaaDoor
