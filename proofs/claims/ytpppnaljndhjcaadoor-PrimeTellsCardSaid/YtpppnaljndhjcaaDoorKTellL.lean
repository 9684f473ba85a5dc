/- The walk of the law PrimeTells. -/
import Derived.Test.YtpppnaljndhjcaaDoorKTellN
import Derived.Deep.RegionHeld3
namespace Go.Proofs.YtpppnaljndhjcaaDoor
open Go.RowKit

theorem num1 (n : Int) (f : Int × Int) (h : lookK 0 [n] = f) : ∀ (W : World) (g : Nat), g = W.heap.size → Hid (Calls Tryd.prog 4 #[.slice (some ⟨g, 0, none⟩) 1 1] (W.alloc (.cells #[.int .i64 n] 3)) (RetFault (W.alloc (.cells #[.int .i64 n] 3)) f)) := fun W g hg => h ▸ hg ▸ numbersFault_any _ 1 1 [n] _ rfl (by omega) (ints_new W [n] _)
/-- the law's blocks: the fault that should be, Is's, Next's -/
structure LT (w W : World) (b3 b5 b7 : Nat) (k3 k5 k7 : Int) : Prop where
  f3 : FC W b3 k3 0
  f5 : FC W b5 k5 0
  f7 : FC W b7 k7 0
  b : Below w.heap.size w W
theorem LT.below {w W W' : World} {b3 b5 b7 : Nat} {k3 k5 k7 : Int} (h : LT w W b3 b5 b7 k3 k5 k7) (k : Below W.heap.size W W') : LT w W' b3 b5 b7 k3 k5 k7 :=
  ⟨h.f3.below k, h.f5.below k, h.f7.below k, h.b.trans (k.mono h.b.size)⟩
theorem bel_alloc {w W : World} (h : Below w.heap.size w W) (o : Obj) : Below w.heap.size w (W.alloc o) := h.alloc h.size o
theorem lt_new {w w1 w2 w3 : World} {k3 k5 k7 : Int} (B1 : Below w.heap.size w w1) (h2 : Below (w1.alloc (.cells #[.int .i64 k3, .int .i64 0] 23)).heap.size (w1.alloc (.cells #[.int .i64 k3, .int .i64 0] 23)) w2)
    (h3 : Below (w2.alloc (.cells #[.int .i64 k5, .int .i64 0] 23)).heap.size (w2.alloc (.cells #[.int .i64 k5, .int .i64 0] 23)) w3) :
    LT w (w3.alloc (.cells #[.int .i64 k7, .int .i64 0] 23)) w1.heap.size w2.heap.size w3.heap.size k3 k5 k7 := by
  have B2 := (bel_alloc B1 (.cells #[.int .i64 k3, .int .i64 0] 23)).trans (h2.mono (bel_alloc B1 _).size)
  have B3 := (bel_alloc B2 (.cells #[.int .i64 k5, .int .i64 0] 23)).trans (h3.mono (bel_alloc B2 _).size)
  exact ⟨((((FC.made w1 k3 0).below h2).below (bel_new _ _)).below h3).below (bel_new _ _), ((FC.made w2 k5 0).below h3).below (bel_new _ _), FC.made w3 k7 0, bel_alloc B3 _⟩

set_option maxRecDepth 100000 in
set_option maxHeartbeats 3200000 in
theorem tells_fault (n : Int) (w : World) (hT : TabW w) (h : lookK 0 [n] = (3, 0)) :
    Calls Tryd.prog 3 #[.int .i64 n] w fun e w' => e = .returned (.bool true) ∧ Below w.heap.size w w' := by
  have N1 := num1 n _ h
  have CI := fun W => hide (Is_fault n W h)
  have CN := fun W => hide (Next_fault n W h)
  have CB := fun W hW => hide (primeBegun_any W hW)
  have HT := hide hT
  clear hT h
  simp only [fv] at CI CN
  go_enter Tryd.func3, Tryd.ntmps3
  go_wp2_with fail
  refine (N1 _ _ (by simp)).out.mono ?_
  rintro e w1 ⟨rfl, hb⟩
  simp only [fv]
  have B1 := hide (((Below.refl w.heap.size w).alloc (Nat.le_refl _) (.cells #[.int .i64 n] 3)).trans (hb.mono (by simp)))
  clear hb
  go_wp2_with fail
  refine (CI _).out.mono ?_
  rintro e w2 ⟨rfl, hb⟩
  have H2 := hide hb
  clear hb
  go_wp2_with fail
  refine (CN _).out.mono ?_
  rintro e w3 ⟨rfl, hb⟩
  have HL := hide (lt_new (k7 := 3) B1.out H2.out hb)
  clear hb
  go_wp2_with fail
  refine (CB _ (HT.out.below HL.out.b)).out.mono ?_
  rintro e w4 ⟨rfl, hb⟩
  have HL4 := HL.out.below hb
  obtain ⟨a0, a1, _, _⟩ := HL4.f3.cells
  obtain ⟨c0, c1, _, _⟩ := HL4.f5.cells
  obtain ⟨g0, g1, _, _⟩ := HL4.f7.cells
  have HB4 := hide HL4.b
  clear hb HL4 HL
  go_wp2_with fail
  go_ret
  exact ⟨rfl, HB4.out⟩

theorem nxt_found {lo p c k : Int} (h : Nxt lo p c) (h1 : lo ≤ k) (hk : k ≤ 1000000000000000000) (ht : tellB k = true) (hf : ∀ j, lo ≤ j → j < k → tellB j = false) : c = 0 ∧ p = k := by
  rcases h with ⟨h2, h3, _, h5, h6⟩ | ⟨_, _, h6⟩
  · refine ⟨h2, ?_⟩
    rcases Int.lt_trichotomy p k with g | g | g
    · rw [hf p h3 g] at h5; cases h5
    · exact g
    · rw [h6 k h1 g] at ht; cases ht
  · rw [h6 k h1 hk] at ht; cases ht
theorem nxt_none {lo p c : Int} (h : Nxt lo p c) (hf : ∀ j, lo ≤ j → j < 1000000000000000001 → tellB j = false) : c = 9 ∧ p = 0 := by
  rcases h with ⟨_, h3, h4, h5, _⟩ | ⟨h1, h2, _⟩
  · rw [hf p h3 (by omega)] at h5; cases h5
  · exact ⟨h1, h2⟩
theorem tellB_top : tellB 1000000000000000001 = false := by
  rw [show (1000000000000000001 : Int) = ((1000000000000000001 : Nat) : Int) from rfl, tellB_nat (by omega)]; exact isB_top

set_option maxRecDepth 100000 in
set_option maxHeartbeats 6400000 in
theorem tells_ok (n : Int) (w : World) (hT : TabW w) (h : lookK 0 [n] = (0, 0)) (hn : n ≤ 1000000000000000000) (hn0 : -1000000000000000000 ≤ n) :
    Calls Tryd.prog 3 #[.int .i64 n] w fun e w' => e = .returned (.bool true) ∧ Below w.heap.size w w' := by
  obtain ⟨lo, hlo⟩ : ∃ lo : Nat, (lo : Int) = if n + 1 < 2 then 2 else n + 1 := ⟨(if n + 1 < 2 then 2 else n + 1).toNat, by split <;> omega⟩
  have N1 := num1 n _ h
  have CI := fun W hW => hide (Is_ok n W hW h hn hn0)
  have CN := fun W hW => hide (Next_ok n lo W hW h hn hn0 hlo)
  have CB := fun W hW => hide (primeBegun_any W hW)
  have CP := fun W => hide (isPrime_all n W (by omega) (by omega))
  have CK := fun (k : Nat) (W : World) (hk : (k : Int) ≤ 1000000000000000001) => hide (isPrime_all (k : Int) W (by omega) hk)
  have HT := hide hT
  have I1 : wrap64 (n + 1) = n + 1 := by unfold wrap64; omega
  have hlo2 : 2 ≤ lo ∧ lo ≤ 1000000000000000001 := by split at hlo <;> omega
  have HLO := hide hlo2
  obtain ⟨t, ht⟩ : ∃ t, tellB n = t := ⟨_, rfl⟩
  rw [ht] at CI CP
  simp only [fv] at CI
  have CE := fun W => hide (refF_any 9 0 W)
  have hk2 : (n + 1 < 2 ∧ lo = 2) ∨ (¬ n + 1 < 2 ∧ (lo : Int) = n + 1) := by split at hlo <;> omega
  have HK2 := hide hk2
  clear hT h hlo hlo2 ht hn hn0 hk2
  go_enter Tryd.func3, Tryd.ntmps3
  go_wp2_with fail
  refine (N1 _ _ (by simp)).out.mono ?_
  rintro e w1 ⟨rfl, hb⟩
  simp only [fv]
  have B1 := hide (((Below.refl w.heap.size w).alloc (Nat.le_refl _) (.cells #[.int .i64 n] 3)).trans (hb.mono (by simp)))
  clear hb
  go_wp2_with fail
  refine (CI _ (HT.out.below (bel_alloc B1.out _))).out.mono ?_
  rintro e w2 ⟨rfl, hb⟩
  have H2 := hide hb
  have B2 := hide ((bel_alloc B1.out (.cells #[.int .i64 0, .int .i64 0] 23)).trans (hb.mono (bel_alloc B1.out _).size))
  clear hb
  go_wp2_with fail
  refine (CN _ (HT.out.below (bel_alloc B2.out _))).out.mono ?_
  rintro e w3 ⟨p, c, rfl, hx, hb⟩
  simp only [fv]
  have HX := hide hx
  have HL := hide (lt_new (k7 := c) B1.out H2.out hb)
  clear hb hx
  go_wp2_with fail
  refine (CB _ (HT.out.below HL.out.b)).out.mono ?_
  rintro e w4 ⟨rfl, hb⟩
  have HL4 := hide (HL.out.below hb)
  clear hb HL
  generalize w1.heap.size = b3 at HL4 ⊢
  generalize w2.heap.size = b5 at HL4 ⊢
  generalize w3.heap.size = b7 at HL4 ⊢
  obtain ⟨a0, a1, _, _⟩ := HL4.out.f3.cells
  obtain ⟨c0, c1, _, _⟩ := HL4.out.f5.cells
  obtain ⟨g0, g1, _, _⟩ := HL4.out.f7.cells
  go_wp2_with fail
  refine (CP _).out.mono ?_
  rintro e w5 ⟨rfl, hb⟩
  have HL5 := hide (HL4.out.below hb)
  clear hb HL4 a0 a1 c0 c1 g0 g1
  have HB5 := hide HL5.out.b
  rcases HK2.out with ⟨hs, hv⟩ | ⟨hs, hv⟩
  all_goals
    as_aux_lemma =>
    have q0 : decide (n + 1 < 2) = true ∨ decide (n + 1 < 2) = false := by cases decide (n + 1 < 2) <;> simp
    go_wp2_with fail
    (try rw [I1])
    clear I1
    go_loopg [8] (1000000000000000001 - lo) (fun J y wr => ∃ k : Nat, J = 1000000000000000001 - k ∧ y = .int .i64 (k : Int) ∧ lo ≤ k ∧ k ≤ 1000000000000000001 ∧ Hid (∀ j : Int, (lo : Int) ≤ j → j < k → tellB j = false) ∧ Hid (Below w5.heap.size w5 wr))
    case atStart =>
      refine ⟨lo, rfl, ?_, Nat.le_refl _, HLO.out.2, fun j h1 h2 => by omega, Below.refl _ _⟩
      first | (rw [hv]; done) | (rw [hv]; rfl)
    case round =>
      obtain ⟨k, hJ, rfl, hk1, hk2, HF, HW⟩ := hrel
      obtain ⟨wo, rfl⟩ : ∃ Z, Z = wr := ⟨_, rfl⟩
      have C := CK k wo (by omega)
      obtain ⟨tk, htk⟩ : ∃ tk, tellB (k : Int) = tk := ⟨_, rfl⟩
      rw [htk] at C
      have HTK := hide htk
      clear htk CK CP CI CN CB N1
      cases tk
      · by_cases hlt : k ≤ 1000000000000000000
        · have q1 : decide ((k : Int) ≤ 1000000000000000000) = true := by rw [decide_eq_true_eq]; omega
          have HF2 : Hid (∀ j : Int, (lo : Int) ≤ j → j < ((k + 1 : Nat) : Int) → tellB j = false) := by
            intro j h1 h2
            rcases Int.lt_or_le j k with g | g
            · exact HF.out j h1 g
            · have : j = k := by omega
              rw [this]; exact HTK.out
          have HHJ := hide (And.intro hJ (And.intro hk1 hlt))
          clear hJ hk1 hk2 hlt
          go_wp2_with fail
          refine C.out.mono ?_
          rintro e w6 ⟨rfl, hb⟩
          have HW2 := hide (HW.out.trans (hb.mono HW.out.size))
          clear hb
          go_wp2_with fail
          go_roundg (1000000000000000001 - (k + 1))
          case measure => have := HHJ.out; omega
          case rel => exact ⟨k + 1, rfl, by have := HHJ.out; rw [show wrap64 ((k : Int) + 1) = ((k + 1 : Nat) : Int) from by unfold wrap64; omega], by have := HHJ.out; omega, by have := HHJ.out; omega, HF2, HW2⟩
        · obtain rfl : k = 1000000000000000001 := by omega
          obtain ⟨rfl, rfl⟩ := nxt_none HX.out (fun j h1 h2 => HF.out j h1 h2)
          have q1 : decide (((1000000000000000001 : Nat) : Int) ≤ 1000000000000000000) = false := by decide
          have q2 : decide ((1000000000000000000 : Int) < ((1000000000000000001 : Nat) : Int)) = true := by decide
          clear hJ hk1 hk2 hlt
          go_wp2_with fail
          refine C.out.mono ?_
          rintro e w6 ⟨rfl, hb⟩
          have HL6 := hide (HL5.out.below (HW.out.trans (hb.mono HW.out.size)))
          clear hb
          have KS := fun W (b : Below w6.heap.size w6 W) => hide (show (W.cell? ⟨b7, 0, none⟩ = some (.int .i64 9) ∧ W.cell? ⟨b7, 1, none⟩ = some (.int .i64 0)) ∧ Hid (Below w6.heap.size w6 W) from ⟨⟨(HL6.out.f7.below b).cells.1, (HL6.out.f7.below b).cells.2.1⟩, hide b⟩)
          have HBB := hide HL6.out.b
          clear HL6 HL5
          go_upto_region 16 with (fail)
          go_region_held3 (fun W => (W.cell? ⟨b7, 0, none⟩ = some (.int .i64 9) ∧ W.cell? ⟨b7, 1, none⟩ = some (.int .i64 0)) ∧ Hid (Below w6.heap.size w6 W)) (first | exact (KS _ (below_drewN (Below.refl _ _) 1)).out | (have hx := ‹(_ ∧ _) ∧ Hid (Below w6.heap.size w6 _)›; exact (KS _ (hx.2.out.trans (hb.mono hx.2.out.size))).out)) (first | (go_at_call 9; refine (CE _).out.mono ?_; rintro e w8 ⟨rfl, hb⟩))
          all_goals
            rename_i hS
            have HB8 := hide (HBB.out.trans (hS.2.out.mono HBB.out.size))
            clear hS
            go_wp2_with fail
            go_ret
            exact ⟨rfl, HB8.out⟩
      · have hkl : k ≤ 1000000000000000000 := by
          rcases Nat.lt_or_ge 1000000000000000000 k with g | g
          · have : k = 1000000000000000001 := by omega
            have e := HTK.out
            rw [this] at e
            have e2 := tellB_top
            rw [show ((1000000000000000001 : Nat) : Int) = 1000000000000000001 from rfl, e2] at e
            cases e
          · exact g
        obtain ⟨rfl, rfl⟩ := nxt_found HX.out (by omega) (by omega) HTK.out HF.out
        have q2 : decide ((1000000000000000000 : Int) < (k : Int)) = false := by rw [decide_eq_false_iff_not]; omega
        clear hJ hk1 hk2 hkl
        go_wp2_with fail
        refine C.out.mono ?_
        rintro e w6 ⟨rfl, hb⟩
        have HL6 := HL5.out.below (HW.out.trans (hb.mono HW.out.size))
        obtain ⟨g0, g1, _, _⟩ := HL6.f7.cells
        have HBB := hide HL6.b
        clear hb HL6 HL5
        go_wp2_with fail
        go_ret
        exact ⟨rfl, HBB.out⟩

/-- PrimeTells -/
theorem tells_any (n : Int) (w : World) (hT : TabW w) :
    Calls Tryd.prog 3 #[.int .i64 n] w fun e w' => e = .returned (.bool true) ∧ Below w.heap.size w w' := by
  by_cases h : okB n = true
  · have hb : -1000000000000000000 ≤ n ∧ n ≤ 1000000000000000000 := by unfold okB at h; simpa using h
    exact tells_ok n w hT (by simp [lookK, h]) hb.2 hb.1
  · exact tells_fault n w hT (by simp [lookK, h])
theorem tells_row (n : Int) (w : World) (hT : TabW w) (_w0 : (Lit.int .i64 n).wf = true) :
    Calls Tryd.prog 3 #[.int .i64 n] w fun e w' => e = .returned (.bool true) ∧ Below w.heap.size w w' := tells_any n w hT
end Go.Proofs.YtpppnaljndhjcaaDoor
