/- The walk of the law PadicRoots. -/
import Derived.Test.YticgnjapgbjfiaaDoorPRootW
import Derived.Test.YticgnjapgbjfiaaDoorPadF
import Derived.Test.YticgnjapgbjfiaaDoorPadH
import Derived.Test.YticgnjapgbjfiaaDoorPadB
import Derived.Test.YticgnjapgbjfiaaDoorSlices
import Derived.Deep.DeepCutAuto
namespace Go.Proofs.YticgnjapgbjfiaaDoor
open Go.RowKit

theorem Ints.away {w : World} {B : Nat} {A : Option Addr} {l : List Int} (h : Ints w B A l) {p : Addr} (hp : B ≤ p.block) (v : Value) : Ints (w.setCell p v) B A l :=
  ⟨fun j x hx => by
    obtain ⟨ad, e, hb, hc⟩ := h.cell j x hx
    refine ⟨ad, e, hb, ?_⟩
    rw [show (w.setCell p v).cell? (ad.add j) = w.cell? (ad.add j) from by
      unfold World.cell?
      rw [Below.heap_setCell _ _ _ _ (by rw [add_block]; omega)]]
    exact hc⟩
theorem FC.away {w : World} {g : Nat} {a b : Int} (h : FC w g a b) {p : Addr} (hp : g ≠ p.block) (v : Value) : FC (w.setCell p v) g a b := (Below.heap_setCell _ _ _ _ hp).trans h

theorem fc_kept {w1 W : World} {g : Nat} {a b : Int} (h : FC w1 g a b) (k : Below w1.heap.size w1 W) : (W.cell? ⟨g, 0, none⟩ = some (.int .i64 a) ∧ W.cell? ⟨g, 1, none⟩ = some (.int .i64 b)) ∧ Hid (Below w1.heap.size w1 W) :=
  ⟨⟨(h.below k).cells.1, (h.below k).cells.2.1⟩, k⟩
theorem two_kept {w1 W : World} {p q : Addr} {a b : Value} (h1 : w1.cell? p = some a) (h2 : w1.cell? q = some b) (hp : p.block < w1.heap.size) (hq : q.block < w1.heap.size) (k : Below w1.heap.size w1 W) : (W.cell? p = some a ∧ W.cell? q = some b) ∧ Hid (Below w1.heap.size w1 W) :=
  ⟨⟨(k.cell hp).trans h1, (k.cell hq).trans h2⟩, k⟩

/-- the blocks of the law's frame -/
structure RoSt (w W : World) (n1 n2 : Nat) (u v : Int × Int) (A A1 : Option Addr) (l s : List Int) : Prop where
  f : FC W n1 u.1 u.2
  w_ : FC W n2 v.1 v.2
  o_ : Ints W n1 A1 s
  l_ : Ints W w.heap.size A l
  n12 : n1 < n2
  lo : w.heap.size ≤ n1
  b : Below w.heap.size w W
theorem RoSt.below {w W W' : World} {n1 n2 : Nat} {u v : Int × Int} {A A1 : Option Addr} {l s : List Int} (h : RoSt w W n1 n2 u v A A1 l s) (k : Below W.heap.size W W') : RoSt w W' n1 n2 u v A A1 l s :=
  ⟨h.f.below k, h.w_.below k, h.o_.below k (Nat.le_of_lt h.f.lt), h.l_.below k h.b.size, h.n12, h.lo, h.b.trans (k.mono h.b.size)⟩
theorem RoSt.setw {w W : World} {n1 n2 : Nat} {u v : Int × Int} {A A1 : Option Addr} {l s : List Int} (h : RoSt w W n1 n2 u v A A1 l s) (x y : Int) :
    RoSt w ((W.setCell ⟨n2, 0, none⟩ (.int .i64 x)).setCell ⟨n2, 1, none⟩ (.int .i64 y)) n1 n2 u (x, y) A A1 l s := by
  have a1 := h.n12
  have a2 := h.lo
  exact ⟨(h.f.away (p := ⟨n2, 0, none⟩) (by show n1 ≠ n2; omega) _).away (p := ⟨n2, 1, none⟩) (by show n1 ≠ n2; omega) _, (h.w_.set0 x).set1 y, (h.o_.away (p := ⟨n2, 0, none⟩) (by show n1 ≤ n2; omega) _).away (p := ⟨n2, 1, none⟩) (by show n1 ≤ n2; omega) _, (h.l_.away (p := ⟨n2, 0, none⟩) (by show w.heap.size ≤ n2; omega) _).away (p := ⟨n2, 1, none⟩) (by show w.heap.size ≤ n2; omega) _, a1, a2, below_fault h.b (by omega)⟩

set_option maxRecDepth 100000 in
set_option maxHeartbeats 12800000 in
theorem roots_law (p k : Int) (A : Option Addr) (n c : Nat) (l : List Int) (w : World) (hT : TabW w) (h1 : Ints w w.heap.size A l ∧ l.length = n ∧ n * 8 ≤ 140737488351232) (hp0 : -9223372036854775808 ≤ p) :
    Calls Tryd.prog 6 #[.int .i64 p, .int .i64 k, .slice A n c] w fun e w' => e = .returned (.bool true) ∧ Below w.heap.size w w' := by
  have H1 := hide h1
  have HT := hide hT
  have CB := fun W (hW : TabW W) => hide (padicBegun_any W hW)
  have CF := fun c i W => hide (refF_any c i W)
  have CP := fun W => hide (padicFault_any p k W hp0)
  have CR := hide (roots_any A n c p k l w hT h1.2.1 (by omega) h1.1)
  clear h1 hT hp0
  by_cases hn : 100 < n
  · as_aux_lemma =>
    have q0 : decide ((100 : Int) < (n : Int)) = true := by rw [decide_eq_true_eq]; omega
    clear hn
    go_enter Tryd.func6, Tryd.ntmps6
    go_wp2_with fail
    refine (CB _ HT.out).out.mono ?_
    rintro e w1 ⟨rfl, hb⟩
    have HB := hide hb
    clear hb
    go_wp2_with fail
    go_ret
    exact ⟨rfl, HB.out⟩
  · have q0 : decide ((100 : Int) < (n : Int)) = false := by rw [decide_eq_false_iff_not]; omega
    clear hn
    go_enter Tryd.func6, Tryd.ntmps6
    go_wp2_with fail
    refine CR.out.mono ?_
    rintro e w2 ⟨v, ⟨u1, u2⟩, S, rfl, r1, r2, r3, r4, ⟨A1, c1, rfl, hi⟩, hb⟩
    have I2 := hide hi
    have B2 := hide hb
    have R1 := hide r1
    have R2 := hide r2
    have R3 := hide r3
    have R4 := hide r4
    clear hi hb r1 r2 r3 r4 CR
    simp only [fv]
    have F1 := hide (FC.made w2 u1 u2)
    have B3 := hide (B2.out.alloc B2.out.size (.cells #[.int .i64 u1, .int .i64 u2] 24))
    have I3 := hide (I2.out.below ((Below.refl _ _).alloc (Nat.le_refl _) (.cells #[.int .i64 u1, .int .i64 u2] 24)) (Nat.le_refl _))
    obtain ⟨N, hN⟩ : ∃ N, S.length = N := ⟨_, rfl⟩
    rw [hN]
    have HN := hide hN
    clear hN
    go_wp2_with fail
    refine (CP _).out.mono ?_
    rintro e w3 ⟨rfl, hb⟩
    have F2 := hide (F1.out.below hb)
    have B4 := hide (B3.out.trans (hb.mono B3.out.size))
    have I4 := hide (I3.out.below hb (by simp))
    have hl23 : w2.heap.size < w3.heap.size := F2.out.lt
    clear hb F1 I3 I2 B3 CP
    obtain ⟨M, hM⟩ : ∃ M, (if (padF p k).1 = 0 then p ^ k.toNat else 0) = M := ⟨_, rfl⟩
    rw [hM]
    obtain ⟨⟨v1, v2⟩, hv⟩ : ∃ d, padF p k = d := ⟨_, rfl⟩
    rw [hv]
    simp only [fv]
    have HV := hide hv
    have HM := hide hM
    obtain ⟨s, hs⟩ : ∃ s, (S.map fun x => ((x : Nat) : Int)) = s := ⟨_, rfl⟩
    rw [hs] at I4
    have HSS := hide hs
    have HS0 : Hid (RoSt w (w3.alloc (.cells #[.int .i64 v1, .int .i64 v2] 24)) w2.heap.size w3.heap.size (u1, u2) (v1, v2) A A1 l s) := by
      have K2 : Below w3.heap.size w3 (w3.alloc (.cells #[.int .i64 v1, .int .i64 v2] 24)) := (Below.refl _ _).alloc (Nat.le_refl _) _
      exact ⟨F2.out.below K2, FC.made w3 v1 v2, I4.out.below K2 (by omega), (H1.out.1.below B4.out (Nat.le_refl _)).below K2 B4.out.size, hl23, B2.out.size, B4.out.trans (K2.mono B4.out.size)⟩
    clear hs hv hM F2 B4 I4
    obtain ⟨x0, x1, x2, x3⟩ := HS0.out.w_.cells
    go_upto_region 5 with (fail)
    clear x0 x1 x2 x3
    obtain ⟨W0, hW0⟩ : ∃ W, w3.alloc (.cells #[.int .i64 v1, .int .i64 v2] 24) = W := ⟨_, rfl⟩
    rw [hW0] at HS0 ⊢
    clear hW0
    by_cases ha : v1 = 0
    · as_aux_lemma =>
      subst ha
      have hok := padF_ok (p := p) (k := k) (by rw [HV.out])
      obtain rfl : v2 = 0 := by have := HV.out.symm.trans hok.1; exact (Prod.mk.inj this).2
      have hz : (padF p k).1 = 0 := by rw [HV.out]
      have HPP := hide hok
      have CQ := fun W (hI : Ints W W.heap.size A l) => hide (polyFault_ref A n c l W H1.out.2.1 (by have := H1.out.2.2; omega) hI)
      have HMM : Hid (p ^ k.toNat = M) := by have := HM.out; rwa [if_pos hz] at this
      obtain ⟨⟨i2, j2⟩, hq⟩ : ∃ F, polF l = F := ⟨_, rfl⟩
      unfold RetFault at CQ
      rw [hq] at CQ
      simp only [fv] at CQ
      have HQ := hide hq
      have HZ := hide hz
      clear hok hz hq HV HM R1
      obtain ⟨x0, x1, x2, x3⟩ := HS0.out.w_.cells
      go_wp2_with fail
      refine (CQ _ (HS0.out.l_.more HS0.out.b.size)).out.mono ?_
      rintro e wa1 ⟨rfl, hb⟩
      have HS1 := hide (HS0.out.below hb)
      clear hb HS0
      clear x0 x1 x2 x3
      obtain ⟨x0, x1, x2, x3⟩ := HS1.out.w_.cells
      obtain ⟨p0, p1⟩ := HS1.out.w_.put i2 j2
      have HS2 := hide (HS1.out.setw i2 j2)
      go_upto_region 7 with (fail)
      clear HS1 x0 x1 x2 x3 p0 p1
      obtain ⟨W2, hW⟩ : ∃ W, (wa1.setCell ⟨w3.heap.size, 0, none⟩ (.int .i64 i2)).setCell ⟨w3.heap.size, 1, none⟩ (.int .i64 j2) = W := ⟨_, rfl⟩
      rw [hW] at HS2 ⊢
      clear hW
      by_cases hi : i2 = 0
      · as_aux_lemma =>
        subst hi
        have hfit := polF_fits (l := l) (by rw [HQ.out])
        obtain rfl : j2 = 0 := by have := HQ.out.symm.trans hfit.1; exact (Prod.mk.inj this).2
        have hall : l.all okB = true := by
          cases hb : l.all okB with
          | true => rfl
          | false => have := polF_bad (l := l) (by omega) hb; rw [HQ.out] at this; simp at this
        have HFit : Hid (∀ c ∈ l, c.natAbs ≤ 1000000000000000000) := fun c hc => by
          have := ok_bounds (List.all_eq_true.1 hall c hc)
          omega
        have HN13 : Hid (n ≤ 13) := by have := hfit.2.1; rw [H1.out.2.1] at this; exact this
        clear hfit hall R2
        by_cases h2 : 2000 < p
        · as_aux_lemma =>
          obtain ⟨rfl, rfl, rfl⟩ : u1 = 2 ∧ u2 = 0 ∧ S = [] := by
            have h := R3.out HZ.out (by rw [HQ.out]) h2
            exact ⟨(Prod.mk.inj h.1).1, (Prod.mk.inj h.1).2, h.2⟩
          obtain rfl : N = 0 := HN.out.symm
          have q1 : decide (2000 < p) = true := by rw [decide_eq_true_eq]; exact h2
          clear h2 R3 R4 HPP HMM
          obtain ⟨x0, x1, x2, x3⟩ := HS2.out.w_.cells
          go_wp2_with fail
          refine (CF 2 0 _).out.mono ?_
          rintro e wa3 ⟨rfl, hb⟩
          have HS3 := hide (HS2.out.below hb)
          clear hb HS2
          clear x0 x1 x2 x3
          obtain ⟨x0, x1, x2, x3⟩ := HS3.out.w_.cells
          obtain ⟨p0, p1⟩ := HS3.out.w_.put 2 0
          have HS4 := hide (HS3.out.setw 2 0)
          go_upto_region 9 with (fail)
          clear HS3 x0 x1 x2 x3 p0 p1
          obtain ⟨W4, hW⟩ : ∃ W, (wa3.setCell ⟨w3.heap.size, 0, none⟩ (.int .i64 2)).setCell ⟨w3.heap.size, 1, none⟩ (.int .i64 0) = W := ⟨_, rfl⟩
          rw [hW] at HS4 ⊢
          clear hW
          obtain ⟨x0, x1, x2, x3⟩ := HS4.out.w_.cells
          obtain ⟨a0, a1, a2, a3⟩ := HS4.out.f.cells
          go_wp2_with fail
          refine (CB _ (HT.out.below HS4.out.b)).out.mono ?_
          rintro e wa5 ⟨rfl, hb⟩
          have HS5 := hide (HS4.out.below hb)
          clear hb HS4
          clear a0 a1 a2 a3 x0 x1 x2 x3
          obtain ⟨x0, x1, x2, x3⟩ := HS5.out.w_.cells
          obtain ⟨a0, a1, a2, a3⟩ := HS5.out.f.cells
          go_wp2_with fail
          go_ret
          exact ⟨rfl, HS5.out.b⟩
        · as_aux_lemma =>
          have hr := R4.out HZ.out (by rw [HQ.out]) (by omega)
          have q1 : decide (2000 < p) = false := by rw [decide_eq_false_iff_not]; exact h2
          have hp2 := HPP.out.2.1
          have HRR := hide hr
          clear h2 R3 R4 hr
          obtain ⟨x0, x1, x2, x3⟩ := HS2.out.w_.cells
          obtain ⟨a0, a1, a2, a3⟩ := HS2.out.f.cells
          go_wp2_with fail
          refine (CB _ (HT.out.below HS2.out.b)).out.mono ?_
          rintro e wa3 ⟨rfl, hb⟩
          have HS3 := hide (HS2.out.below hb)
          clear hb HS2
          clear a0 a1 a2 a3 x0 x1 x2 x3
          obtain ⟨x0, x1, x2, x3⟩ := HS3.out.w_.cells
          obtain ⟨a0, a1, a2, a3⟩ := HS3.out.f.cells
          by_cases hu : u1 = 0
          · as_aux_lemma =>
            subst hu
            obtain ⟨rfl, hl2, hl3, hl4⟩ : u2 = 0 ∧ S.length ≤ 1000 ∧ Rise S ∧ LvOk l (p.toNat ^ k.toNat) S := by
              rcases HRR.out with h | h
              · exact absurd (Prod.mk.inj h.1).1 (by decide)
              · exact ⟨(Prod.mk.inj h.1).2, h.2⟩
            obtain ⟨Q, hQ⟩ : ∃ Q : Nat, p.toNat ^ k.toNat = Q := ⟨_, rfl⟩
            rw [hQ] at hl4
            obtain rfl : M = (Q : Int) := by
              rw [← HMM.out, ← hQ, Int.natCast_pow, Int.toNat_of_nonneg (by omega)]
            have hQ2 : (Q : Int) ≤ 1000000000000000000 := by have := HPP.out.2.2.2.2.2.2; rw [HMM.out] at this; exact this
            have hQ1 : 0 < Q := by rw [← hQ]; exact Nat.pow_pos (by omega)
            have HRI := hide hl3
            have HLV := hide hl4
            rw [HN.out] at hl2
            have HSL : Hid (s.length = N) := by unfold Hid; rw [← HSS.out, List.length_map]; exact HN.out
            have q4 : decide ((1000 : Int) < (N : Int)) = false := by rw [decide_eq_false_iff_not]; omega
            clear hl3 hl4 HRR hQ HPP HMM CQ CB
            go_wp2_with fail
            clear x0 x1 x2 x3 a0 a1 a2 a3
            go_loopg [11] N (fun J iv wr => ∃ i : Nat, J = N - i ∧ iv = .int .i64 i ∧ i ≤ N ∧ Hid (RoSt w wr w2.heap.size w3.heap.size (0, 0) (0, 0) A A1 l s))
            case atStart => exact ⟨0, by omega, rfl, by omega, HS3⟩
            case round =>
              clear HS3
              obtain ⟨i, hJ, rfl, hi, HS4⟩ := hrel
              by_cases hiN : i < N
              · as_aux_lemma =>
                have hiL : i < s.length := by rw [HSL.out]; exact hiN
                obtain ⟨ad, v, rfl, hv, hab, hac⟩ := HS4.out.o_.at_ (k := i) hiL
                have hall : ∀ (j : Nat) (z : Int), s[j]? = some z → ∃ y : Nat, S[j]? = some y ∧ z = (y : Int) := by
                  intro j z hz
                  rw [← HSS.out, List.getElem?_map] at hz
                  cases hs : S[j]? with
                  | none => rw [hs] at hz; cases hz
                  | some y => rw [hs] at hz; injection hz with hz; exact ⟨y, rfl, hz.symm⟩
                obtain ⟨y, hy, rfl⟩ := hall i v hv
                have hyl := (HLV.out.2 y).1 (List.mem_of_getElem? hy)
                have hyQ : y < Q := hyl.1
                have hz : pv l (y : Int) % (Q : Int) = 0 := Int.emod_eq_zero_of_dvd hyl.2
                have q6 : decide ((y : Int) < 0) = false := by rw [decide_eq_false_iff_not]; omega
                have q7 : decide ((Q : Int) ≤ (y : Int)) = false := by rw [decide_eq_false_iff_not]; omega
                have q7n : decide (Q ≤ y) = false := by rw [decide_eq_false_iff_not]; omega
                have q8 : decide ((i : Int) < (N : Int)) = true := by rw [decide_eq_true_eq]; omega
                have hab2 : ad.block < wr.heap.size := Nat.lt_trans hab HS4.out.f.lt
                have CA : ∀ W, Below wr.heap.size wr W → Hid (Calls Tryd.prog 15 #[.slice A n c, .int .i64 y, .int .i64 Q] W fun e w' => e = .returned (.int .i64 0) ∧ Below W.heap.size W w') := fun W k => by
                  have h := at_ref A n c l (y : Int) (Q : Int) W H1.out.2.1 HN13.out ((HS4.out.below k).l_.more (HS4.out.below k).b.size) HFit.out (by omega) (by omega) hQ2
                  rw [hz] at h
                  exact h
                clear hz hyl
                by_cases hi0 : i = 0
                · as_aux_lemma =>
                  subst hi0
                  have q9 : decide ((0 : Int) < ((0 : Nat) : Int)) = false := by decide
                  have q9' : decide ((0 : Int) < (0 : Int)) = false := by decide
                  have hac0 := hac
                  rw [addr_zero] at hac0
                  clear hv hall
                  go_wp2_with fail
                  refine wp_region_P (fun _ => True) 38 (by rfl) trivial ?_
                  intro _
                  refine wpAnyP_take 0 81 [0, 2, 3, 4, 5, 13, 16, 29, 38] (v := ?_) rfl (by kernel_rfl) (by kernel_rfl) (by kernel_rfl) (by kernel_rfl) (by kernel_rfl) (by kernel_rfl) (by rfl) (fun _ _ _ h => h) (Or.inl ⟨by rfl, ?_⟩) trivial ?_; rotate_left
                  · (intro w hSw; clear hSw; go_simp; (try with_reducible rfl))
                  (try simp only [List.setIfInBounds_toArray, List.set_cons_zero, List.set_cons_succ])
                  refine wpAnyP_take 1 82 [1, 2, 3, 4, 5, 13, 16, 29, 38] (v := ?_) rfl (by kernel_rfl) (by kernel_rfl) (by kernel_rfl) (by kernel_rfl) (by kernel_rfl) (by kernel_rfl) (by rfl) (fun _ _ _ h => h) (Or.inl ⟨by rfl, ?_⟩) trivial ?_; rotate_left
                  · (intro w hSw; clear hSw; go_simp; (try with_reducible rfl))
                  (try simp only [List.setIfInBounds_toArray, List.set_cons_zero, List.set_cons_succ])
                  refine wpAnyP_take 2 83 [2, 3, 4, 5, 13, 16, 29, 38] (v := ?_) rfl (by kernel_rfl) (by kernel_rfl) (by kernel_rfl) (by kernel_rfl) (by kernel_rfl) (by kernel_rfl) (by rfl) (fun _ _ _ h => h) (Or.inl ⟨by rfl, ?_⟩) trivial ?_; rotate_left
                  · (intro w hSw; clear hSw; go_simp; (try with_reducible rfl))
                  (try simp only [List.setIfInBounds_toArray, List.set_cons_zero, List.set_cons_succ])
                  refine wpAnyP_one 3 rfl (by kernel_rfl) (fun K hK => ?_)
                  go_simp
                  refine hK.out _ _ (fun _ => trivial) ?_
                  clear hK K
                  (try simp only [Act.put, List.setIfInBounds_toArray, List.set_cons_zero, List.set_cons_succ])
                  refine wpAnyP_take 4 85 [4, 5, 13, 16, 29, 38] (v := ?_) rfl (by kernel_rfl) (by kernel_rfl) (by kernel_rfl) (by kernel_rfl) (by kernel_rfl) (by kernel_rfl) (by rfl) (fun _ _ _ h => h) (Or.inl ⟨by rfl, ?_⟩) trivial ?_; rotate_left
                  · (intro w hSw; clear hSw; go_simp; (try with_reducible rfl))
                  (try simp only [List.setIfInBounds_toArray, List.set_cons_zero, List.set_cons_succ])
                  refine wpAnyP_take 5 86 [5, 13, 16, 29, 38] (v := ?_) rfl (by kernel_rfl) (by kernel_rfl) (by kernel_rfl) (by kernel_rfl) (by kernel_rfl) (by kernel_rfl) (by rfl) (fun _ _ _ h => h) (Or.inl ⟨by rfl, ?_⟩) trivial ?_; rotate_left
                  · (intro w hSw; clear hSw; go_simp; (try with_reducible rfl))
                  (try simp only [List.setIfInBounds_toArray, List.set_cons_zero, List.set_cons_succ])
                  refine wpAnyP_take 6 87 [6, 8, 9, 11, 12, 13, 16, 29, 38] (v := ?_) rfl (by kernel_rfl) (by kernel_rfl) (by kernel_rfl) (by kernel_rfl) (by kernel_rfl) (by kernel_rfl) (by rfl) (fun _ _ _ h => h) (Or.inl ⟨by rfl, ?_⟩) trivial ?_; rotate_left
                  · (intro w hSw; clear hSw; go_simp; (try with_reducible rfl))
                  (try simp only [List.setIfInBounds_toArray, List.set_cons_zero, List.set_cons_succ])
                  refine wpAnyP_take 7 88 [7, 8, 9, 11, 12, 13, 16, 29, 38] (v := ?_) rfl (by kernel_rfl) (by kernel_rfl) (by kernel_rfl) (by kernel_rfl) (by kernel_rfl) (by kernel_rfl) (by rfl) (fun _ _ _ h => h) (Or.inl ⟨by rfl, ?_⟩) trivial ?_; rotate_left
                  · (intro w hSw; clear hSw; go_simp; (try with_reducible rfl))
                  (try simp only [List.setIfInBounds_toArray, List.set_cons_zero, List.set_cons_succ])
                  refine wpAnyP_take 8 89 [8, 9, 11, 12, 13, 16, 29, 38] (v := ?_) rfl (by kernel_rfl) (by kernel_rfl) (by kernel_rfl) (by kernel_rfl) (by kernel_rfl) (by kernel_rfl) (by rfl) (fun _ _ _ h => h) (Or.inl ⟨by rfl, ?_⟩) trivial ?_; rotate_left
                  · (intro w hSw; clear hSw; go_simp; (try with_reducible rfl))
                  (try simp only [List.setIfInBounds_toArray, List.set_cons_zero, List.set_cons_succ])
                  refine wpAnyP_take 10 91 [10, 11, 12, 13, 16, 29, 38] (v := ?_) rfl (by kernel_rfl) (by kernel_rfl) (by kernel_rfl) (by kernel_rfl) (by kernel_rfl) (by kernel_rfl) (by rfl) (fun _ _ _ h => h) (Or.inl ⟨by rfl, ?_⟩) trivial ?_; rotate_left
                  · (intro w hSw; clear hSw; go_simp; (try with_reducible rfl))
                  (try simp only [List.setIfInBounds_toArray, List.set_cons_zero, List.set_cons_succ])
                  refine wpAnyP_one 9 rfl (by kernel_rfl) (fun K hK => ?_)
                  go_simp
                  refine hK.out _ _ (fun _ => trivial) ?_
                  clear hK K
                  (try simp only [Act.put, List.setIfInBounds_toArray, List.set_cons_zero, List.set_cons_succ])
                  refine wpAnyP_take 11 92 [11, 12, 13, 16, 29, 38] (v := ?_) rfl (by kernel_rfl) (by kernel_rfl) (by kernel_rfl) (by kernel_rfl) (by kernel_rfl) (by kernel_rfl) (by rfl) (fun _ _ _ h => h) (Or.inl ⟨by rfl, ?_⟩) trivial ?_; rotate_left
                  · (intro w hSw; clear hSw; go_simp; (try with_reducible rfl))
                  (try simp only [List.setIfInBounds_toArray, List.set_cons_zero, List.set_cons_succ])
                  refine wpAnyP_take 12 93 [12, 13, 16, 29, 38] (v := ?_) rfl (by kernel_rfl) (by kernel_rfl) (by kernel_rfl) (by kernel_rfl) (by kernel_rfl) (by kernel_rfl) (by rfl) (fun _ _ _ h => h) (Or.inl ⟨by rfl, ?_⟩) trivial ?_; rotate_left
                  · (intro w hSw; clear hSw; go_simp; (try with_reducible rfl))
                  (try simp only [List.setIfInBounds_toArray, List.set_cons_zero, List.set_cons_succ])
                  refine wpAnyP_take 13 94 [13, 16, 29, 38] (v := ?_) rfl (by kernel_rfl) (by kernel_rfl) (by kernel_rfl) (by kernel_rfl) (by kernel_rfl) (by kernel_rfl) (by rfl) (fun _ _ _ h => h) (Or.inl ⟨by rfl, ?_⟩) trivial ?_; rotate_left
                  · (intro w hSw; clear hSw; go_simp; (try with_reducible rfl))
                  (try simp only [List.setIfInBounds_toArray, List.set_cons_zero, List.set_cons_succ])
                  refine wpAnyP_take 14 95 [14, 15, 16, 29, 38] (v := ?_) rfl (by kernel_rfl) (by kernel_rfl) (by kernel_rfl) (by kernel_rfl) (by kernel_rfl) (by kernel_rfl) (by rfl) (fun _ _ _ h => h) (Or.inl ⟨by rfl, ?_⟩) trivial ?_; rotate_left
                  · (intro w hSw; clear hSw; go_simp; (try with_reducible rfl))
                  (try simp only [List.setIfInBounds_toArray, List.set_cons_zero, List.set_cons_succ])
                  refine wpAnyP_take 15 96 [15, 16, 29, 38] (v := ?_) rfl (by kernel_rfl) (by kernel_rfl) (by kernel_rfl) (by kernel_rfl) (by kernel_rfl) (by kernel_rfl) (by rfl) (fun _ _ _ h => h) (Or.inl ⟨by rfl, ?_⟩) trivial ?_; rotate_left
                  · (intro w hSw; clear hSw; go_simp; (try with_reducible rfl))
                  (try simp only [List.setIfInBounds_toArray, List.set_cons_zero, List.set_cons_succ])
                  refine wpAnyP_take 16 97 [16, 29, 38] (v := ?_) rfl (by kernel_rfl) (by kernel_rfl) (by kernel_rfl) (by kernel_rfl) (by kernel_rfl) (by kernel_rfl) (by rfl) (fun _ _ _ h => h) (Or.inl ⟨by rfl, ?_⟩) trivial ?_; rotate_left
                  · (intro w hSw; clear hSw; go_simp; (try with_reducible rfl))
                  (try simp only [List.setIfInBounds_toArray, List.set_cons_zero, List.set_cons_succ])
                  refine wpAnyP_take 17 98 [17, 20, 21, 26, 27, 28, 29, 38] (v := undef) rfl (by kernel_rfl) (by kernel_rfl) (by kernel_rfl) (by kernel_rfl) (by kernel_rfl) (by kernel_rfl) (by rfl) (fun _ _ _ h => h) (Or.inr ⟨by rfl, rfl⟩) trivial ?_
                  (try simp only [List.setIfInBounds_toArray, List.set_cons_zero, List.set_cons_succ])
                  refine wpAnyP_take 18 99 [18, 19, 20, 21, 26, 27, 28, 29, 38] (v := undef) rfl (by kernel_rfl) (by kernel_rfl) (by kernel_rfl) (by kernel_rfl) (by kernel_rfl) (by kernel_rfl) (by rfl) (fun _ _ _ h => h) (Or.inr ⟨by rfl, rfl⟩) trivial ?_
                  (try simp only [List.setIfInBounds_toArray, List.set_cons_zero, List.set_cons_succ])
                  refine wpAnyP_take 19 100 [19, 20, 21, 26, 27, 28, 29, 38] (v := undef) rfl (by kernel_rfl) (by kernel_rfl) (by kernel_rfl) (by kernel_rfl) (by kernel_rfl) (by kernel_rfl) (by rfl) (fun _ _ _ h => h) (Or.inr ⟨by rfl, rfl⟩) trivial ?_
                  (try simp only [List.setIfInBounds_toArray, List.set_cons_zero, List.set_cons_succ])
                  refine wpAnyP_take 20 101 [20, 21, 26, 27, 28, 29, 38] (v := undef) rfl (by kernel_rfl) (by kernel_rfl) (by kernel_rfl) (by kernel_rfl) (by kernel_rfl) (by kernel_rfl) (by rfl) (fun _ _ _ h => h) (Or.inr ⟨by rfl, rfl⟩) trivial ?_
                  (try simp only [List.setIfInBounds_toArray, List.set_cons_zero, List.set_cons_succ])
                  refine wpAnyP_take 21 102 [21, 26, 27, 28, 29, 38] (v := undef) rfl (by kernel_rfl) (by kernel_rfl) (by kernel_rfl) (by kernel_rfl) (by kernel_rfl) (by kernel_rfl) (by rfl) (fun _ _ _ h => h) (Or.inr ⟨by rfl, rfl⟩) trivial ?_
                  (try simp only [List.setIfInBounds_toArray, List.set_cons_zero, List.set_cons_succ])
                  refine wpAnyP_take 22 103 [22, 24, 25, 26, 27, 28, 29, 38] (v := undef) rfl (by kernel_rfl) (by kernel_rfl) (by kernel_rfl) (by kernel_rfl) (by kernel_rfl) (by kernel_rfl) (by rfl) (fun _ _ _ h => h) (Or.inr ⟨by rfl, rfl⟩) trivial ?_
                  (try simp only [List.setIfInBounds_toArray, List.set_cons_zero, List.set_cons_succ])
                  refine wpAnyP_take 23 104 [23, 24, 25, 26, 27, 28, 29, 38] (v := undef) rfl (by kernel_rfl) (by kernel_rfl) (by kernel_rfl) (by kernel_rfl) (by kernel_rfl) (by kernel_rfl) (by rfl) (fun _ _ _ h => h) (Or.inr ⟨by rfl, rfl⟩) trivial ?_
                  (try simp only [List.setIfInBounds_toArray, List.set_cons_zero, List.set_cons_succ])
                  refine wpAnyP_take 24 105 [24, 25, 26, 27, 28, 29, 38] (v := undef) rfl (by kernel_rfl) (by kernel_rfl) (by kernel_rfl) (by kernel_rfl) (by kernel_rfl) (by kernel_rfl) (by rfl) (fun _ _ _ h => h) (Or.inr ⟨by rfl, rfl⟩) trivial ?_
                  (try simp only [List.setIfInBounds_toArray, List.set_cons_zero, List.set_cons_succ])
                  refine wpAnyP_take 25 106 [25, 26, 27, 28, 29, 38] (v := undef) rfl (by kernel_rfl) (by kernel_rfl) (by kernel_rfl) (by kernel_rfl) (by kernel_rfl) (by kernel_rfl) (by rfl) (fun _ _ _ h => h) (Or.inr ⟨by rfl, rfl⟩) trivial ?_
                  (try simp only [List.setIfInBounds_toArray, List.set_cons_zero, List.set_cons_succ])
                  refine wpAnyP_take 26 107 [26, 27, 28, 29, 38] (v := undef) rfl (by kernel_rfl) (by kernel_rfl) (by kernel_rfl) (by kernel_rfl) (by kernel_rfl) (by kernel_rfl) (by rfl) (fun _ _ _ h => h) (Or.inr ⟨by rfl, rfl⟩) trivial ?_
                  (try simp only [List.setIfInBounds_toArray, List.set_cons_zero, List.set_cons_succ])
                  refine wpAnyP_take 27 108 [27, 28, 29, 38] (v := ?_) rfl (by kernel_rfl) (by kernel_rfl) (by kernel_rfl) (by kernel_rfl) (by kernel_rfl) (by kernel_rfl) (by rfl) (fun _ _ _ h => h) (Or.inl ⟨by rfl, ?_⟩) trivial ?_; rotate_left
                  · (intro w hSw; clear hSw; go_simp; (try with_reducible rfl))
                  (try simp only [List.setIfInBounds_toArray, List.set_cons_zero, List.set_cons_succ])
                  refine wpAnyP_take 28 109 [28, 29, 38] (v := ?_) rfl (by kernel_rfl) (by kernel_rfl) (by kernel_rfl) (by kernel_rfl) (by kernel_rfl) (by kernel_rfl) (by rfl) (fun _ _ _ h => h) (Or.inl ⟨by rfl, ?_⟩) trivial ?_; rotate_left
                  · (intro w hSw; clear hSw; go_simp; (try with_reducible rfl))
                  (try simp only [List.setIfInBounds_toArray, List.set_cons_zero, List.set_cons_succ])
                  refine wpAnyP_take 29 110 [29, 38] (v := ?_) rfl (by kernel_rfl) (by kernel_rfl) (by kernel_rfl) (by kernel_rfl) (by kernel_rfl) (by kernel_rfl) (by rfl) (fun _ _ _ h => h) (Or.inl ⟨by rfl, ?_⟩) trivial ?_; rotate_left
                  · (intro w hSw; clear hSw; go_simp; (try with_reducible rfl))
                  (try simp only [List.setIfInBounds_toArray, List.set_cons_zero, List.set_cons_succ])
                  refine wpAnyP_take 30 111 [30, 36, 37, 38] (v := ?_) rfl (by kernel_rfl) (by kernel_rfl) (by kernel_rfl) (by kernel_rfl) (by kernel_rfl) (by kernel_rfl) (by rfl) (fun _ _ _ h => h) (Or.inl ⟨by rfl, ?_⟩) trivial ?_; rotate_left
                  · (intro w hSw; clear hSw; go_simp; (try with_reducible rfl))
                  (try simp only [List.setIfInBounds_toArray, List.set_cons_zero, List.set_cons_succ])
                  refine wpAnyP_take 31 112 [31, 33, 34, 36, 37, 38] (v := ?_) rfl (by kernel_rfl) (by kernel_rfl) (by kernel_rfl) (by kernel_rfl) (by kernel_rfl) (by kernel_rfl) (by rfl) (fun _ _ _ h => h) (Or.inl ⟨by rfl, ?_⟩) trivial ?_; rotate_left
                  · (intro w hSw; clear hSw; go_simp; (try with_reducible rfl))
                  (try simp only [List.setIfInBounds_toArray, List.set_cons_zero, List.set_cons_succ])
                  refine wpAnyP_take 32 113 [32, 33, 34, 36, 37, 38] (v := ?_) rfl (by kernel_rfl) (by kernel_rfl) (by kernel_rfl) (by kernel_rfl) (by kernel_rfl) (by kernel_rfl) (by rfl) (fun _ _ _ h => h) (Or.inl ⟨by rfl, ?_⟩) trivial ?_; rotate_left
                  · (intro w hSw; clear hSw; go_simp; (try with_reducible rfl))
                  (try simp only [List.setIfInBounds_toArray, List.set_cons_zero, List.set_cons_succ])
                  refine wpAnyP_take 33 114 [33, 34, 36, 37, 38] (v := ?_) rfl (by kernel_rfl) (by kernel_rfl) (by kernel_rfl) (by kernel_rfl) (by kernel_rfl) (by kernel_rfl) (by rfl) (fun _ _ _ h => h) (Or.inl ⟨by rfl, ?_⟩) trivial ?_; rotate_left
                  · (intro w hSw; clear hSw; go_simp; (try with_reducible rfl))
                  (try simp only [List.setIfInBounds_toArray, List.set_cons_zero, List.set_cons_succ])
                  refine wpAnyP_take 35 116 [35, 36, 37, 38] (v := ?_) rfl (by kernel_rfl) (by kernel_rfl) (by kernel_rfl) (by kernel_rfl) (by kernel_rfl) (by kernel_rfl) (by rfl) (fun _ _ _ h => h) (Or.inl ⟨by rfl, ?_⟩) trivial ?_; rotate_left
                  · (intro w hSw; clear hSw; go_simp; (try with_reducible rfl))
                  (try simp only [List.setIfInBounds_toArray, List.set_cons_zero, List.set_cons_succ])
                  refine wpAnyP_one 34 rfl (by kernel_rfl) (fun K hK => ?_)
                  go_simp
                  refine hK.out _ _ (fun _ => trivial) ?_
                  clear hK K
                  (try simp only [Act.put, List.setIfInBounds_toArray, List.set_cons_zero, List.set_cons_succ])
                  refine wpAnyP_one 36 rfl (by kernel_rfl) (fun K hK => ?_)
                  go_simp
                  refine (CA _ (by first | exact Below.refl _ _ | exact below_drewN (Below.refl _ _) _)).out.mono ?_
                  rintro e w5 ⟨rfl, hb⟩
                  refine hK.out _ _ (fun _ => trivial) ?_
                  clear hK K
                  (try simp only [Act.put, List.setIfInBounds_toArray, List.set_cons_zero, List.set_cons_succ])
                  refine wpAnyP_take 37 118 [37, 38] (v := ?_) rfl (by kernel_rfl) (by kernel_rfl) (by kernel_rfl) (by kernel_rfl) (by kernel_rfl) (by kernel_rfl) (by rfl) (fun _ _ _ h => h) (Or.inl ⟨by rfl, ?_⟩) trivial ?_; rotate_left
                  · (intro w hSw; clear hSw; go_simp; (try with_reducible rfl))
                  (try simp only [List.setIfInBounds_toArray, List.set_cons_zero, List.set_cons_succ])
                  refine wpAnyP_one 38 rfl (by kernel_rfl) (fun K hK => ?_)
                  go_simp
                  refine hK.out _ _ (fun _ => trivial) ?_
                  clear hK K
                  (try simp only [Act.put, List.setIfInBounds_toArray, List.set_cons_zero, List.set_cons_succ])
                  refine wpAnyP_done (by kernel_rfl) ?_ _
                  have HS5 := hide (HS4.out.below ((show Below wr.heap.size wr wr.drew from below_drewN (Below.refl _ _) 1).trans hb))
                  clear hb HS4 CA hac hac0
                  go_wp2_with fail
                  go_roundg (N - 1)
                  case measure => omega
                  case rel => exact ⟨1, rfl, by simp, by omega, HS5⟩
                · as_aux_lemma =>
                  obtain ⟨i1, hi1⟩ : ∃ i1, i = i1 + 1 := ⟨i - 1, by omega⟩
                  obtain ⟨ad', v', e', hv', hab', hac'⟩ := HS4.out.o_.at_ (k := i1) (by omega)
                  injection e' with e'
                  subst e'
                  obtain ⟨y', hy', rfl⟩ := hall i1 v' hv'
                  have hlt : y' < y := rise_strict HRI.out HLV.out.1 i1 y' y hy' (by rw [← hi1]; exact hy)
                  have q9 : decide ((0 : Int) < (i : Int)) = true := by rw [decide_eq_true_eq]; omega
                  have q9n : decide (0 < i) = true := by rw [decide_eq_true_eq]; omega
                  have q10 : decide ((y : Int) ≤ (y' : Int)) = false := by rw [decide_eq_false_iff_not]; omega
                  have q10n : decide (y ≤ y') = false := by rw [decide_eq_false_iff_not]; omega
                  have e1 : (i : Int) - 1 = (i1 : Int) := by omega
                  have V1 : IntKind.i64.wrap ((i : Int) - 1) = (i1 : Int) := by rw [e1, IntKind.wrap_i64]; omega
                  have K := fun W (k : Below wr.heap.size wr W) => hide (two_kept hac hac' (by rw [add_block]; exact hab2) (by rw [add_block]; exact hab2) k)
                  have hiN1 : i1 < N := by omega
                  clear hall hv hv' hlt hi1 e1
                  go_wp2_with fail
                  go_region_held3 (fun W => (W.cell? (ad.add i) = some (.int .i64 (y : Int)) ∧ W.cell? (ad.add i1) = some (.int .i64 (y' : Int))) ∧ Hid (Below wr.heap.size wr W)) (first | exact (K _ (below_drewN (Below.refl _ _) 1)).out | exact (K _ ((below_drewN (Below.refl _ _) 1).trans (hb.mono (Nat.le_refl _)))).out) (first | (go_at_call 15; refine (CA _ (below_drewN (Below.refl _ _) 1)).out.mono ?_; rintro e w5 ⟨rfl, hb⟩))
                  all_goals
                    rename_i hS
                    have HS5 := hide (HS4.out.below hS.2.out)
                    clear hS HS4 CA K hac hac'
                    go_wp2_with fail
                    go_roundg (N - (i + 1))
                    case measure => omega
                    case rel => exact ⟨i + 1, rfl, by simp, by omega, HS5⟩
              · as_aux_lemma =>
                obtain rfl : i = N := by omega
                by_cases hbig : 3000 < Q
                · have q5 : decide ((3000 : Int) < (Q : Int)) = true := by rw [decide_eq_true_eq]; omega
                  go_wp2_with fail
                  go_ret
                  exact ⟨rfl, HS4.out.b⟩
                · have q5 : decide ((3000 : Int) < (Q : Int)) = false := by rw [decide_eq_false_iff_not]; omega
                  have HS4b := HS4
                  go_wp2_with fail
                  go_loopg [12, 13] Q (fun J mv xv wr => ∃ x : Nat, J = Q - x ∧ xv = .int .i64 x ∧ x ≤ Q ∧ mv = .int .i64 (((List.range x).filter (goodR l Q)).length : Nat) ∧ Hid (RoSt w wr w2.heap.size w3.heap.size (0, 0) (0, 0) A A1 l s))
                  case atStart => exact ⟨0, by omega, rfl, by omega, rfl, HS4b⟩
                  case round =>
                    clear HS4 HS4b
                    obtain ⟨x, hJ, rfl, hx, rfl, HS4⟩ := hrel
                    by_cases hxQ : x < Q
                    · as_aux_lemma =>
                      have q6 : decide ((x : Int) < (Q : Int)) = true := by rw [decide_eq_true_eq]; omega
                      have CA := hide (at_ref A n c l (x : Int) (Q : Int) wr H1.out.2.1 HN13.out (HS4.out.l_.more HS4.out.b.size) HFit.out (by omega) (by omega) hQ2)
                      have HF : Hid (((List.range (x + 1)).filter (goodR l Q)).length = ((List.range x).filter (goodR l Q)).length + if pv l (x : Int) % (Q : Int) = 0 then 1 else 0) := by
                        unfold Hid
                        rw [List.range_succ, List.filter_append, List.length_append]
                        congr 1
                        by_cases h : pv l (x : Int) % (Q : Int) = 0
                        · rw [if_pos h]; simp [goodR_true.2 (Int.dvd_of_emod_eq_zero h)]
                        · rw [if_neg h]
                          have : goodR l Q x = false := by
                            cases hg : goodR l Q x with
                            | false => rfl
                            | true => exact absurd (Int.emod_eq_zero_of_dvd (goodR_true.1 hg)) h
                          simp [this]
                      obtain ⟨C, hC⟩ : ∃ C, ((List.range x).filter (goodR l Q)).length = C := ⟨_, rfl⟩
                      rw [hC] at HF ⊢
                      have hCQ : C ≤ x := by rw [← hC]; exact Nat.le_trans (List.length_filter_le _ _) (by simp)
                      clear hC
                      by_cases hv : pv l (x : Int) % (Q : Int) = 0
                      · as_aux_lemma =>
                        rw [hv] at CA
                        rw [if_pos hv] at HF
                        clear hv
                        go_wp2_with fail
                        refine CA.out.mono ?_
                        rintro e w5 ⟨rfl, hb⟩
                        have HS5 := hide (HS4.out.below hb)
                        clear hb HS4 CA
                        go_wp2_with fail
                        go_roundg (Q - (x + 1))
                        case measure => omega
                        case rel => exact ⟨x + 1, rfl, by simp, by omega, by rw [HF.out]; simp, HS5⟩
                      · as_aux_lemma =>
                        rw [if_neg hv] at HF
                        obtain ⟨V, hV⟩ : ∃ V, pv l (x : Int) % (Q : Int) = V := ⟨_, rfl⟩
                        rw [hV] at CA hv
                        have q7 : (V == 0) = false := by simpa using hv
                        clear hv hV
                        go_wp2_with fail
                        refine CA.out.mono ?_
                        rintro e w5 ⟨rfl, hb⟩
                        have HS5 := hide (HS4.out.below hb)
                        clear hb HS4 CA
                        go_wp2_with fail
                        go_roundg (Q - (x + 1))
                        case measure => omega
                        case rel => exact ⟨x + 1, rfl, by simp, by omega, by rw [HF.out]; simp, HS5⟩
                    · as_aux_lemma =>
                      obtain rfl : x = Q := by omega
                      have hc := lv_count HLV.out
                      rw [HN.out] at hc
                      rw [← hc]
                      go_wp2_with fail
                      go_ret
                      exact ⟨rfl, HS4.out.b⟩
          · as_aux_lemma =>
            obtain ⟨rfl, rfl, rfl, hm⟩ : u1 = 9 ∧ u2 = 0 ∧ S = [] ∧ 1000 < p ^ k.toNat := by
              rcases HRR.out with h | h
              · exact ⟨(Prod.mk.inj h.1).1, (Prod.mk.inj h.1).2, h.2⟩
              · exact absurd (Prod.mk.inj h.1).1 hu
            obtain rfl : N = 0 := HN.out.symm
            rw [HMM.out] at hm
            have q3 : decide (1000 < M) = true := by rw [decide_eq_true_eq]; exact hm
            clear hm HRR HPP HMM hu
            have K := fun W (k : Below wa3.heap.size wa3 W) => hide (fc_kept HS3.out.f k)
            go_wp2_with fail
            go_region_held3 (fun W => (W.cell? ⟨w2.heap.size, 0, none⟩ = some (.int .i64 9) ∧ W.cell? ⟨w2.heap.size, 1, none⟩ = some (.int .i64 0)) ∧ Hid (Below wa3.heap.size wa3 W)) (first | exact (K _ (below_drewN (Below.refl _ _) 1)).out | exact (K _ ((below_drewN (Below.refl _ _) 1).trans (hb.mono (Nat.le_refl _)))).out) (first | (go_at_call 14; refine (CF _ _ _).out.mono ?_; rintro e w5 ⟨rfl, hb⟩))
            all_goals
              rename_i hS
              have HB5 := hide (HS3.out.b.trans (hS.2.out.mono HS3.out.b.size))
              clear hS
              go_wp2_with fail
              go_ret
              exact ⟨rfl, HB5.out⟩
      · as_aux_lemma =>
        obtain ⟨rfl, rfl, rfl⟩ : u1 = i2 ∧ u2 = j2 ∧ S = [] := by
          have h := R2.out HZ.out (by rw [HQ.out]; exact hi)
          have h2 := h.1.trans HQ.out
          exact ⟨(Prod.mk.inj h2).1, (Prod.mk.inj h2).2, h.2⟩
        obtain rfl : N = 0 := HN.out.symm
        have q1 : (u1 == 0) = false := by simpa using hi
        have q2 : (u1 != 0) = true := by simpa using hi
        clear hi R2 R3 R4 HPP HMM HQ
        obtain ⟨x0, x1, x2, x3⟩ := HS2.out.w_.cells
        obtain ⟨a0, a1, a2, a3⟩ := HS2.out.f.cells
        go_wp2_with fail
        refine (CB _ (HT.out.below HS2.out.b)).out.mono ?_
        rintro e wa3 ⟨rfl, hb⟩
        have HS3 := hide (HS2.out.below hb)
        clear hb HS2
        clear a0 a1 a2 a3 x0 x1 x2 x3
        obtain ⟨x0, x1, x2, x3⟩ := HS3.out.w_.cells
        obtain ⟨a0, a1, a2, a3⟩ := HS3.out.f.cells
        go_wp2_with fail
        go_ret
        exact ⟨rfl, HS3.out.b⟩
    · as_aux_lemma =>
      obtain ⟨rfl, rfl, rfl⟩ : u1 = v1 ∧ u2 = v2 ∧ S = [] := by
        have h := R1.out (by rw [HV.out]; exact ha)
        have h2 := h.1.trans HV.out
        exact ⟨(Prod.mk.inj h2).1, (Prod.mk.inj h2).2, h.2⟩
      obtain rfl : N = 0 := HN.out.symm
      have q1 : (u1 == 0) = false := by simpa using ha
      have q2 : (u1 != 0) = true := by simpa using ha
      clear ha R1 R2 R3 R4 HV HM
      obtain ⟨x0, x1, x2, x3⟩ := HS0.out.w_.cells
      obtain ⟨a0, a1, a2, a3⟩ := HS0.out.f.cells
      go_wp2_with fail
      refine (CB _ (HT.out.below HS0.out.b)).out.mono ?_
      rintro e wa1 ⟨rfl, hb⟩
      have HS1 := hide (HS0.out.below hb)
      clear hb HS0 a0 a1 a2 a3 x0 x1 x2 x3
      obtain ⟨x0, x1, x2, x3⟩ := HS1.out.w_.cells
      obtain ⟨a0, a1, a2, a3⟩ := HS1.out.f.cells
      go_wp2_with fail
      go_ret
      exact ⟨rfl, HS1.out.b⟩

theorem roots_row (p k : Int) (A : Option Addr) (n c : Nat) (z : List Int) (w : World) (hT : TabW w) (w0 : (Lit.int .i64 p).wf = true) (_ : (Lit.int .i64 k).wf = true) (w2 : IsRow .i64 w A n c z) :
    Calls Tryd.prog 6 #[.int .i64 p, .int .i64 k, .slice A n c] w fun e w' => e = .returned (.bool true) ∧ Below w.heap.size w w' := by
  have a := w2.ints
  have h1 : IntKind.i64.min = -9223372036854775808 := rfl
  have h := w0
  simp only [Lit.wf, Bool.and_eq_true, decide_eq_true_eq] at h
  exact roots_law p k A n c _ w hT ⟨a.1, a.2.1, a.2.2.1⟩ (by omega)
end Go.Proofs.YticgnjapgbjfiaaDoor
