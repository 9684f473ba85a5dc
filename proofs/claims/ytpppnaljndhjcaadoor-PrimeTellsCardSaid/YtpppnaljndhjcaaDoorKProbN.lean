/- The walk of the answers' ProbablyPrime at a number above 10^8 that fails one of the twelve bases (printed out of XProb's). -/
import Derived.Test.YtpppnaljndhjcaaDoorKProb
namespace Go.Proofs.YtpppnaljndhjcaaDoor
open Go.RowKit

theorem small256c {z : Int} (h : z.natAbs ≤ 2000000000000000000) : z.natAbs + 1 < lim := lim_pow (k := 3) (by omega) (by omega)
theorem lim_sqc {y : Nat} (h : y ≤ 2000000000000000000 * 2000000000000000000) : y + 1 < lim := lim_pow (k := 5) (Nat.lt_of_le_of_lt (Nat.succ_le_succ h) (by decide)) (by omega)
theorem lim256c : 2000000000000000000 * 2000000000000000000 + 2000000000000000000 + 1 < lim := lim_pow (k := 5) (by decide) (by omega)
theorem tz_facts {n : Nat} (h : 100000000 < n) (hn : n ≤ 2000000000000000000) : n % 2 ≠ 0 → 1 ≤ tz n ∧ tz n < 64 ∧ (∀ t, t < tz n → (n - 1) / 2 ^ t % 2 = 0) ∧ (n - 1) / 2 ^ tz n % 2 = 1 := by
  intro ho
  obtain ⟨t1, t2, t3⟩ := tz_spec (n := n) (by omega) (by omega)
  have htz : 1 ≤ tz n := by
    rcases Nat.eq_zero_or_pos (tz n) with h0 | h0
    · rw [h0] at t2
      simp at t2
      omega
    · exact h0
  refine ⟨htz, t3, fun t ht => ?_, t2⟩
  obtain ⟨u, hu⟩ : ∃ u, tz n = t + 1 + u := ⟨tz n - (t + 1), by omega⟩
  have e : n - 1 = 2 ^ t * (2 * (2 ^ u * ((n - 1) / 2 ^ tz n))) := by
    conv => lhs; rw [t1]
    rw [hu, Nat.pow_add, Nat.pow_add, Nat.pow_one]
    generalize (n - 1) / (2 ^ t * 2 * 2 ^ u) = z
    grind
  rw [e, Nat.mul_div_cancel_left _ (Nat.two_pow_pos _), Nat.mul_mod_right]

set_option maxRecDepth 100000 in
set_option maxHeartbeats 12800000 in
theorem prob_no (g n : Nat) (k : Int) (w : World) (hx : IntAt w g (n : Int)) (h : 100000000 < n) (hn : n ≤ 2000000000000000000) (hb : mrAll n = false) :
    Calls Tryd.prog 17 #[.pointer (some ⟨g, 0, none⟩), .int .i64 k] w fun e w' => e = .returned (.bool false) ∧ Below w.heap.size w w' := by
  have HTZ := hide (tz_facts h hn)
  have HX := hide hx
  obtain ⟨s, hs⟩ : ∃ s, tz n = s := ⟨_, rfl⟩
  unfold mrAll at hb
  rw [hs] at HTZ hb
  have HBF := hide hb
  have HL : Hid ((n : Int).natAbs + 1 < lim ∧ ((n : Int) - 1).natAbs < lim ∧ ∀ m : Nat, m ≤ 2000000000000000000 → m < lim) := ⟨small256c (by omega), by have := small256c (z := (n : Int) - 1) (by omega); omega, fun m hm => by have := small256c (z := (m : Int)) (by omega); omega⟩
  have CS := fun W (hi : IntAt W g (n : Int)) => hide (sign_int g n W hi (by have := HL.out.1; omega))
  have hsg : ((n : Nat) : Int).sign = 1 := Int.sign_eq_one_of_pos (by omega)
  rw [hsg] at CS
  have O0 := hide (Own.start w)
  clear hs hsg hb hx
  go_enter Tryd.func17, Tryd.ntmps17
  go_wp2_with fail
  refine (CS _ HX.out).out.mono ?_
  rintro e w1 ⟨rfl, rfl⟩
  go_wp2_with fail
  refine (newInt_own O0.out 1 (by omega) (by omega)).mono ?_
  rintro e w1 ⟨g1, rfl, O⟩
  have CC := hide (cmp_int g g1 n 1 w1 (HX.out.below O.bel) (O.at_ 0 _ _ rfl) (by have := HL.out.1; omega) (by have := HL.out.2.2 1 (by omega); omega))
  unfold RetCmp at CC
  rw [show icmp (n : Int) 1 = 1 from by unfold icmp; rw [if_neg (by omega), if_pos (by omega)]] at CC
  have B1 := hide O.bel
  clear O
  go_wp2_with fail
  refine CC.out.mono ?_
  rintro e w2 ⟨rfl, hb⟩
  have B2 := hide (B1.out.trans (hb.mono B1.out.size))
  have HI := hide (basesI_new w2)
  obtain ⟨W, hW⟩ : ∃ W, w2.alloc (.cells #[.int .i64 2, .int .i64 3, .int .i64 5, .int .i64 7, .int .i64 11, .int .i64 13, .int .i64 17, .int .i64 19, .int .i64 23, .int .i64 29, .int .i64 31, .int .i64 37] 2) = W := ⟨_, rfl⟩
  have HWs : W.heap.size = w2.heap.size + 1 := by rw [← hW]; simp
  have BW : Hid (Below w.heap.size w W) := by rw [← hW]; exact B2.out.alloc B2.out.size _
  rw [hW, ← HWs] at HI
  have HXW := hide (HX.out.below BW.out)
  have HW := hide hW
  clear hb CC hW
  go_wp2_with fail
  rw [HW.out]
  go_loopg [29] 12 (fun J y wr => ∃ i : Nat, J = 12 - i ∧ y = .int .i64 i ∧ i ≤ 12 ∧ Hid (Below W.heap.size W wr) ∧ Hid (∀ j a, j < i → bases[j]? = some a → n % a ≠ 0))
  case atStart => exact ⟨0, rfl, rfl, by omega, Below.refl _ _, fun j a hj => by omega⟩
  case round =>
    obtain ⟨i, hJ, rfl, hi, HB, HNZ⟩ := hrel
    by_cases hi2 : i < 12
    · as_aux_lemma =>
      obtain ⟨a, ha, hai⟩ := basesI_get hi2
      obtain ⟨ad, hA, hab, hac⟩ := HI.out.cell i _ hai
      injection hA with hA
      subst hA
      have c1 := (HB.out.cell (p := (⟨w2.heap.size, 0, none⟩ : Addr).add i) (by rw [add_block]; exact hab)).trans hac
      rw [add_zero_base] at c1
      have hbs := bases_small a (List.mem_of_getElem? ha)
      have HHA := hide ha
      have O1 := hide (Own.of_below HB.out)
      have hmod : ((n : Int) % (a : Int)) = ((n % a : Nat) : Int) := by simp
      have hml : n % a ≤ 2000000000000000000 := Nat.le_trans (Nat.mod_le _ _) hn
      obtain ⟨R, hR⟩ : ∃ R, n % a = R := ⟨_, rfl⟩
      have HRA := hide hR
      rw [hR] at hmod hml
      have HM := hide hmod
      obtain ⟨sg, hsg⟩ : ∃ sg, ((R : Nat) : Int).sign = sg := ⟨_, rfl⟩
      have HR : Hid (((R : Nat) : Int).sign = sg ∧ R ≤ 2000000000000000000) := ⟨hsg, hml⟩
      have HSG : Hid ((sg = 0 ∧ R = 0) ∨ (sg = 1 ∧ R ≠ 0)) := by
        rcases Nat.eq_zero_or_pos R with k | k
        · left; refine ⟨?_, k⟩; rw [← hsg, k]; rfl
        · right; refine ⟨?_, by omega⟩; rw [← hsg]; exact Int.sign_eq_one_of_pos (by omega)
      have HA : Hid (2 ≤ a ∧ a ≤ 37 ∧ a < n) := ⟨hbs.1, hbs.2, by omega⟩
      clear ha hai hab hac hbs hmod hml hR hsg
      go_wp2_with fail
      refine (newInt_own O1.out (a : Int) (by have := HA.out; omega) (by have := HA.out; omega)).mono ?_
      rintro e w3 ⟨g3, rfl, O⟩
      have CC := hide (cmp_int g g3 n a w3 (HXW.out.below O.bel) (O.at_ 0 _ _ rfl) (by have := HL.out.1; omega) (by have := HL.out.2.2 a (by have := HA.out; omega); omega))
      unfold RetCmp at CC
      rw [show icmp (n : Int) (a : Int) = 1 from by have := HA.out; unfold icmp; rw [if_neg (by omega), if_pos (by omega)]] at CC
      have O3 := hide O
      clear O c1
      go_wp2_with fail
      refine CC.out.mono ?_
      rintro e w4 ⟨rfl, hb⟩
      have O4 := hide (O3.out.below hb)
      clear hb CC
      go_wp2_with fail
      refine (newInt_own O4.out.new (a : Int) (by have := HA.out; omega) (by have := HA.out; omega)).mono ?_
      rintro e w5 ⟨g5, rfl, O⟩
      have O5 := hide O
      clear O
      go_wp2_with fail
      refine (mod_int w4.heap.size g g5 n a w5 (O5.out.blk (i := 1) rfl) (HXW.out.below O5.out.bel) (O5.out.at_ 0 _ _ rfl) HL.out.1 (by have := HL.out.2.2 a (by have := HA.out; omega); omega) (by have := HA.out; omega)).mono ?_
      rintro e w6 hr
      rw [HM.out] at hr
      obtain ⟨rfl, O⟩ := RetInt.own O5.out (i := 1) rfl hr
      simp only [List.set] at O
      have CS2 := hide (sign_int w4.heap.size R w6 (O.at_ 1 _ _ rfl) (by have := HL.out.2.2 R HR.out.2; omega))
      rw [HR.out.1] at CS2
      have O6 := hide O.bel
      clear O hr
      go_wp2_with fail
      refine CS2.out.mono ?_
      rintro e w7 ⟨rfl, rfl⟩
      rcases HSG.out with ⟨rfl, _⟩ | ⟨rfl, hR0⟩
      · have HFB := hide (BW.out.trans (O6.out.mono BW.out.size))
        clear hJ hi hi2
        go_wp2_with fail
        go_ret
        exact ⟨rfl, HFB.out⟩
      have HNZ2 : Hid (∀ j a, j < i + 1 → bases[j]? = some a → n % a ≠ 0) := by
        intro j b hj hb2
        rcases (by omega : j < i ∨ j = i) with k | k
        · exact HNZ.out j b k hb2
        · subst k
          rw [HHA.out] at hb2
          injection hb2 with hb2
          subst hb2
          rw [HRA.out]; exact hR0
      clear hR0
      go_wp2_with fail
      go_roundg (12 - (i + 1))
      case measure => omega
      case rel => exact ⟨i + 1, rfl, by simp, by omega, O6, HNZ2⟩
    · as_aux_lemma =>
      have O1 := hide (Own.of_below HB.out)
      have HN1 : Hid (((n - 1 : Nat) : Int) = (n : Int) - 1) := by unfold Hid; omega
      obtain rfl : i = 12 := by omega
      obtain ⟨htz1, htz2, hev, hod⟩ := HTZ.out (HNZ.out 0 2 (by omega) rfl)
      have HEV := hide hev
      have HOD := hide hod
      clear hi hi2 hJ hev hod
      go_wp2_with fail
      refine (newInt_own O1.out 1 (by omega) (by omega)).mono ?_
      rintro e w3 ⟨g3, rfl, O⟩
      have O3 := hide O.new
      clear O
      go_wp2_with fail
      refine (sub_int w3.heap.size g g3 n 1 _ (O3.out.blk (i := 0) rfl) (HXW.out.below O3.out.bel) (O3.out.at_ 1 _ _ rfl) (by have := HL.out.1; omega) (by have := HL.out.2.2 1 (by omega); omega) HL.out.2.1).mono ?_
      rintro e w4 hr
      obtain ⟨rfl, O⟩ := RetInt.own O3.out (i := 0) rfl hr
      simp only [List.set] at O
      have O4 := hide O.new
      clear O hr
      go_wp2_with fail
      refine (set_own O4.out 0 1 rfl rfl HL.out.2.1).mono ?_
      rintro e w5 ⟨rfl, O⟩
      simp only [List.set] at O
      rw [← HN1.out] at O
      have O5 := hide O
      clear O O3 O4
      go_wp2_with fail
      go_loopg [10, 11] s (fun J d y wr => ∃ (t gd : Nat), J = s - t ∧ d = .pointer (some ⟨gd, 0, none⟩) ∧ y = .int .i64 t ∧ t ≤ s ∧ Hid (Own W wr [(gd, (((n - 1) / 2 ^ t : Nat) : Int)), (w3.heap.size, ((n - 1 : Nat) : Int)), (g3, 1)]))
      case atStart => exact ⟨0, _, rfl, rfl, rfl, by omega, by rw [Nat.pow_zero, Nat.div_one]; exact O5⟩
      case round =>
        clear O5
        obtain ⟨t, gd, hJ, rfl, rfl, ht, HO⟩ := hrel
        have hDl : (n - 1) / 2 ^ t ≤ 2000000000000000000 := Nat.le_trans (Nat.div_le_self _ _) (by omega)
        have CB := hide (bit_int gd ((n - 1) / 2 ^ t) 0 wr (HO.out.at_ 0 _ _ rfl) (HL.out.2.2 _ hDl) (by omega))
        have qt : decide ((t : Int) < 1048576) = true := by rw [decide_eq_true_eq]; omega
        by_cases hts : t < s
        · rw [Nat.pow_zero, Nat.div_one, HEV.out t hts, show ((0 : Nat) : Int) = 0 from rfl] at CB
          have CR := hide (rsh_int wr.heap.size gd ((n - 1) / 2 ^ t) 1 _ (HO.out.new.blk (i := 0) rfl) (HO.out.new.at_ 1 _ _ rfl) (HL.out.2.2 _ hDl) (by omega))
          rw [Nat.div_div_eq_div_mul, ← Nat.pow_add, show ((1 : Nat) : Int) = 1 from rfl] at CR
          clear hDl
          go_wp2_with fail
          refine CB.out.mono ?_
          rintro e w6 ⟨rfl, rfl⟩
          go_wp2_with fail
          refine CR.out.mono ?_
          rintro e w7 hr
          obtain ⟨rfl, O⟩ := RetInt.own HO.out.new (i := 0) rfl hr
          simp only [List.set] at O
          have O7 := hide (O.sub [0, 2, 3] rfl (by decide))
          clear O hr
          go_wp2_with fail
          go_roundg (s - (t + 1))
          case measure => omega
          case rel => exact ⟨t + 1, _, rfl, rfl, by simp, by omega, O7⟩
        · obtain rfl : t = s := by omega
          rw [Nat.pow_zero, Nat.div_one, HOD.out, show ((0 : Nat) : Int) = 0 from rfl, show ((1 : Nat) : Int) = 1 from rfl] at CB
          obtain ⟨D, hD⟩ : ∃ D, (n - 1) / 2 ^ t = D := ⟨_, rfl⟩
          rw [hD] at HO hDl HBF
          have HDl := hide hDl
          clear hDl hD hJ hts
          go_wp2_with fail
          refine CB.out.mono ?_
          rintro e w6 ⟨rfl, rfl⟩
          have HO6 := HO
          clear HO CB
          go_wp2_with fail
          go_loopg [68] 12 (fun J y wr => ∃ i : Nat, J = 12 - i ∧ y = .int .i64 i ∧ i ≤ 12 ∧ Hid (Own W wr [(gd, (D : Int)), (w3.heap.size, ((n - 1 : Nat) : Int)), (g3, 1)]) ∧ Hid (∀ j a, j < i → bases[j]? = some a → mrB n D t a = true))
          case atStart => exact ⟨0, rfl, rfl, by omega, HO6, fun j a hj => by omega⟩
          case round =>
            clear HO6
            obtain ⟨i, hJ, rfl, hi, HO, HPB⟩ := hrel
            by_cases hi2 : i < 12
            · obtain ⟨a, ha, hai⟩ := basesI_get hi2
              obtain ⟨ad, hA, hab, hac⟩ := HI.out.cell i _ hai
              injection hA with hA
              subst hA
              have c1 := (HO.out.bel.cell (p := (⟨w2.heap.size, 0, none⟩ : Addr).add i) (by rw [add_block]; exact hab)).trans hac
              rw [add_zero_base] at c1
              have hbs := bases_small a (List.mem_of_getElem? ha)
              have HA : Hid (2 ≤ a ∧ a ≤ 37 ∧ a < n) := ⟨hbs.1, hbs.2, by omega⟩
              obtain ⟨M, hM⟩ : ∃ M, mrB n D t a = M := ⟨_, rfl⟩
              have HMR := hide hM
              have HPN : Hid (M = true → ∀ j b, j < i + 1 → bases[j]? = some b → mrB n D t b = true) := by
                intro hMt j b hj hb2
                rcases (by omega : j < i ∨ j = i) with k | k
                · exact HPB.out j b k hb2
                · subst k
                  have hab2 : a = b := Option.some.inj (ha.symm.trans hb2)
                  rw [← hab2, hM, hMt]
              have hpw : ((a : Int) ^ D % (n : Int)) = ((a ^ D % n : Nat) : Int) := by rw [Int.natCast_emod, Int.natCast_pow]
              have HPW := hide hpw
              have hyn : a ^ D % n < n := Nat.mod_lt _ (by omega)
              have HYN := hide hyn
              clear ha hai hab hac hbs hpw ht qt hyn hM
              go_wp2_with fail
              refine (newInt_own HO.out.new (a : Int) (by have := HA.out; omega) (by have := HA.out; omega)).mono ?_
              rintro e w7 ⟨g7, rfl, O⟩
              have O7 := hide O
              clear O c1
              go_wp2_with fail
              refine (exp_mod 2000000000000000000 wr.heap.size g7 gd g a n D w7 (O7.out.blk (i := 1) rfl) (O7.out.at_ 0 _ _ rfl) (O7.out.at_ 2 _ _ rfl) (HXW.out.below O7.out.bel) (by omega) (HL.out.2.2 D HDl.out) (by exact lim256c) (by have := HA.out; omega) (by omega)).mono ?_
              rintro e w8 hr
              rw [HPW.out] at hr
              obtain ⟨rfl, O⟩ := RetInt.own O7.out (i := 1) rfl hr
              simp only [List.set] at O
              have O8 := hide (O.sub [1, 2, 3, 4] rfl (by decide))
              clear O hr O7
              have hmr := HMR.out
              unfold mrB at hmr
              obtain ⟨Y, hY⟩ : ∃ Y, a ^ D % n = Y := ⟨_, rfl⟩
              have hyn := HYN.out
              rw [hY] at O8 hmr hyn
              cases M
              · as_aux_lemma =>
                have C1 := hide (cmp_own O8.out 0 3 rfl rfl (by have := HL.out.2.2 Y (by omega); omega) (by have := HL.out.2.2 1 (by omega); omega))
                clear hY
                split at hmr
                · cases hmr
                rename_i hyy
                have hi1 : icmp (Y : Int) 1 ≠ 0 := by unfold icmp; split <;> (try split) <;> omega
                obtain ⟨z1, hz1⟩ : ∃ z, icmp (Y : Int) 1 = z := ⟨_, rfl⟩
                rw [hz1] at C1 hi1
                have q1 : (z1 == 0) = false := by simpa using hi1
                have hi2' : icmp (Y : Int) ((n - 1 : Nat) : Int) ≠ 0 := by unfold icmp; split <;> (try split) <;> omega
                obtain ⟨z2, hz2⟩ : ∃ z, icmp (Y : Int) ((n - 1 : Nat) : Int) = z := ⟨_, rfl⟩
                rw [hz2] at hi2'
                have q2 : (z2 == 0) = false := by simpa using hi2'
                have HZ2 := hide hz2
                have HSQ := hide hmr
                clear hz1 hi1 hi2' hz2 hmr hyy
                go_wp2_with fail
                refine C1.out.mono ?_
                rintro e w9 ⟨rfl, O⟩
                have C2 := hide (cmp_own O 0 2 rfl rfl (by have := HL.out.2.2 Y (by omega); omega) (by have := HL.out.2.2 (n - 1) (by omega); omega))
                rw [HZ2.out] at C2
                clear O C1
                go_wp2_with fail
                refine C2.out.mono ?_
                rintro e w10 ⟨rfl, O⟩
                have O10 := hide O
                clear O C2
                go_wp2_with fail
                go_loopg [14, 15, 16] (t - 1) (fun J y b i wr => ∃ (m gy Y : Nat), J = t - m ∧ y = .pointer (some ⟨gy, 0, none⟩) ∧ b = .bool false ∧ i = .int .i64 m ∧ 1 ≤ m ∧ m ≤ t ∧ Y < n ∧ Hid (sqB n (t - m) Y = false) ∧ Hid (Own W wr [(gy, (Y : Int)), (gd, (D : Int)), (w3.heap.size, ((n - 1 : Nat) : Int)), (g3, 1)]))
                case atStart => exact ⟨1, _, Y, by omega, rfl, rfl, rfl, by omega, htz1, hyn, HSQ.out, O10⟩
                case round =>
                  clear O10 HSQ hyn
                  obtain ⟨m, gy, Y, hJ, rfl, rfl, rfl, hm1, hm2, hYn, HSQ, HO⟩ := hrel
                  by_cases hmt : m < t
                  · have hsq := HSQ.out
                    rw [show t - m = (t - (m + 1)) + 1 from by omega, sqB] at hsq
                    have hYY : (Y : Int) * (Y : Int) % (n : Int) = ((Y * Y % n : Nat) : Int) := by rw [Int.natCast_emod, Int.natCast_mul]
                    have hYb : Y * Y ≤ 2000000000000000000 * 2000000000000000000 := Nat.mul_le_mul (by omega) (by omega)
                    have HYb : Hid (((Y : Int) * (Y : Int)).natAbs + 1 < lim) := by
                      have h1 : ((Y : Int) * (Y : Int)).natAbs = Y * Y := by rw [← Int.natCast_mul]; rfl
                      unfold Hid
                      rw [h1]
                      exact lim_sqc hYb
                    have hzn : Y * Y % n < n := Nat.mod_lt _ (by omega)
                    obtain ⟨Z, hZ⟩ : ∃ Z, Y * Y % n = Z := ⟨_, rfl⟩
                    rw [hZ] at hsq hYY hzn
                    have HYY := hide hYY
                    split at hsq
                    · cases hsq
                    rename_i hZ1
                    have HSQ2 := hide hsq
                    have ON := HO.out.new.new
                    rw [World.size_alloc] at ON
                    have HON := hide ON
                    have hz3 : icmp (Z : Int) ((n - 1 : Nat) : Int) ≠ 0 := by unfold icmp; split <;> (try split) <;> omega
                    obtain ⟨z3, hz⟩ : ∃ z, icmp (Z : Int) ((n - 1 : Nat) : Int) = z := ⟨_, rfl⟩
                    rw [hz] at hz3
                    have q3 : (z3 == 0) = false := by simpa using hz3
                    have HZ3 := hide hz
                    clear hYY hYb hZ hsq ON hZ1 hz3 hz
                    go_wp2_with fail
                    refine (mul_own HON.out 0 2 2 rfl rfl rfl (by have := HL.out.2.2 Y (by omega); omega) (by have := HL.out.2.2 Y (by omega); omega) (by have := HYb.out; omega)).mono ?_
                    rintro e w11 ⟨rfl, O⟩
                    simp only [List.set] at O
                    have O11 := hide O
                    clear O
                    go_wp2_with fail
                    refine (mod_int wr.heap.size (wr.heap.size + 1) g ((Y : Int) * Y) n w11 (O11.out.blk (i := 1) rfl) (O11.out.at_ 0 _ _ rfl) (HXW.out.below O11.out.bel) HYb.out (by have := HL.out.1; omega) (by omega)).mono ?_
                    rintro e w12 hr
                    rw [HYY.out] at hr
                    obtain ⟨rfl, O⟩ := RetInt.own O11.out (i := 1) rfl hr
                    simp only [List.set] at O
                    have O12 := hide (O.sub [1, 3, 4, 5] rfl (by decide))
                    clear O hr O11
                    have C3 := hide (cmp_own O12.out 0 2 rfl rfl (by have := HL.out.2.2 Z (by omega); omega) (by have := HL.out.2.2 (n - 1) (by omega); omega))
                    rw [HZ3.out] at C3
                    go_wp2_with fail
                    refine C3.out.mono ?_
                    rintro e w13 ⟨rfl, O⟩
                    have O13 := hide O
                    clear O
                    go_wp2_with fail
                    go_roundg (t - (m + 1))
                    case measure => omega
                    case rel => exact ⟨m + 1, _, Z, rfl, rfl, rfl, by simp, by omega, by omega, hzn, HSQ2, O13⟩
                  · have HF := hide (BW.out.trans (HO.out.bel.mono BW.out.size))
                    go_wp2_with fail
                    go_ret
                    exact ⟨rfl, HF.out⟩
              · have HPB2 := hide (HPN.out rfl)
                clear HPN
                have C1 := hide (cmp_own O8.out 0 3 rfl rfl (by have := HL.out.2.2 Y (by omega); omega) (by have := HL.out.2.2 1 (by omega); omega))
                clear hY
                by_cases hy1 : Y = 1
                · rw [show icmp (Y : Int) 1 = 0 from by rw [hy1]; rfl] at C1
                  go_wp2_with fail
                  refine C1.out.mono ?_
                  rintro e w9 ⟨rfl, O⟩
                  have O9 := hide (O.sub [1, 2, 3] rfl (by decide))
                  clear O hmr hy1
                  go_wp2_with fail
                  go_roundg (12 - (i + 1))
                  case measure => omega
                  case rel => exact ⟨i + 1, rfl, by simp, by omega, O9, HPB2⟩
                · have hi1 : icmp (Y : Int) 1 ≠ 0 := by unfold icmp; split <;> (try split) <;> omega
                  obtain ⟨z1, hz1⟩ : ∃ z, icmp (Y : Int) 1 = z := ⟨_, rfl⟩
                  rw [hz1] at C1 hi1
                  have q1 : (z1 == 0) = false := by simpa using hi1
                  clear hz1 hi1
                  go_wp2_with fail
                  refine C1.out.mono ?_
                  rintro e w9 ⟨rfl, O⟩
                  have O9 := hide O
                  have C2 := hide (cmp_own O 0 2 rfl rfl (by have := HL.out.2.2 Y (by omega); omega) (by have := HL.out.2.2 (n - 1) (by omega); omega))
                  clear O C1
                  by_cases hy2 : Y = n - 1
                  · rw [show icmp (Y : Int) ((n - 1 : Nat) : Int) = 0 from by rw [hy2]; unfold icmp; rw [if_neg (by omega), if_neg (by omega)]] at C2
                    go_wp2_with fail
                    refine C2.out.mono ?_
                    rintro e w10 ⟨rfl, O⟩
                    have O10 := hide (O.sub [1, 2, 3] rfl (by decide))
                    clear O hmr hy2
                    go_wp2_with fail
                    go_roundg (12 - (i + 1))
                    case measure => omega
                    case rel => exact ⟨i + 1, rfl, by simp, by omega, O10, HPB2⟩
                  · rw [if_neg (by omega)] at hmr
                    have HSQ := hide hmr
                    have hi1 : icmp (Y : Int) ((n - 1 : Nat) : Int) ≠ 0 := by unfold icmp; split <;> (try split) <;> omega
                    obtain ⟨z2, hz2⟩ : ∃ z, icmp (Y : Int) ((n - 1 : Nat) : Int) = z := ⟨_, rfl⟩
                    rw [hz2] at C2 hi1
                    have q2 : (z2 == 0) = false := by simpa using hi1
                    clear hz2 hi1 hmr hy1 hy2
                    go_wp2_with fail
                    refine C2.out.mono ?_
                    rintro e w10 ⟨rfl, O⟩
                    have O10 := hide O
                    clear O C2 O9
                    go_wp2_with fail
                    go_loopg [14, 15, 16] (t - 1) (fun J y b i wr => ∃ (m gy Y : Nat) (B : Bool), J = t - m ∧ y = .pointer (some ⟨gy, 0, none⟩) ∧ b = .bool B ∧ i = .int .i64 m ∧ 1 ≤ m ∧ m ≤ t ∧ Y < n ∧ Hid (B = false → sqB n (t - m) Y = true) ∧ Hid (Own W wr [(gy, (Y : Int)), (gd, (D : Int)), (w3.heap.size, ((n - 1 : Nat) : Int)), (g3, 1)]))
                    case atStart => exact ⟨1, _, Y, false, by omega, rfl, rfl, rfl, by omega, htz1, hyn, fun _ => HSQ.out, O10⟩
                    case round =>
                      clear O10 HSQ hyn
                      obtain ⟨m, gy, Y, B, hJ, rfl, rfl, rfl, hm1, hm2, hYn, HSQ, HO⟩ := hrel
                      cases B
                      · by_cases hmt : m < t
                        · have hsq := HSQ.out rfl
                          rw [show t - m = (t - (m + 1)) + 1 from by omega, sqB] at hsq
                          have hYY : (Y : Int) * (Y : Int) % (n : Int) = ((Y * Y % n : Nat) : Int) := by rw [Int.natCast_emod, Int.natCast_mul]
                          have hYb : Y * Y ≤ 2000000000000000000 * 2000000000000000000 := Nat.mul_le_mul (by omega) (by omega)
                          have HYb : Hid (((Y : Int) * (Y : Int)).natAbs + 1 < lim) := by
                            have h1 : ((Y : Int) * (Y : Int)).natAbs = Y * Y := by rw [← Int.natCast_mul]; rfl
                            unfold Hid
                            rw [h1]
                            exact lim_sqc hYb
                          have hzn : Y * Y % n < n := Nat.mod_lt _ (by omega)
                          obtain ⟨Z, hZ⟩ : ∃ Z, Y * Y % n = Z := ⟨_, rfl⟩
                          rw [hZ] at hsq hYY hzn
                          have HYY := hide hYY
                          have HSQ2 : Hid (decide (Z = n - 1) = false → sqB n (t - (m + 1)) Z = true) := by
                            intro h1
                            rw [if_neg (by simpa using h1)] at hsq
                            exact hsq
                          have ON := HO.out.new.new
                          rw [World.size_alloc] at ON
                          have HON := hide ON
                          clear hYY hYb hZ hsq ON
                          go_wp2_with fail
                          refine (mul_own HON.out 0 2 2 rfl rfl rfl (by have := HL.out.2.2 Y (by omega); omega) (by have := HL.out.2.2 Y (by omega); omega) (by have := HYb.out; omega)).mono ?_
                          rintro e w11 ⟨rfl, O⟩
                          simp only [List.set] at O
                          have O11 := hide O
                          clear O
                          go_wp2_with fail
                          refine (mod_int wr.heap.size (wr.heap.size + 1) g ((Y : Int) * Y) n w11 (O11.out.blk (i := 1) rfl) (O11.out.at_ 0 _ _ rfl) (HXW.out.below O11.out.bel) HYb.out (by have := HL.out.1; omega) (by omega)).mono ?_
                          rintro e w12 hr
                          rw [HYY.out] at hr
                          obtain ⟨rfl, O⟩ := RetInt.own O11.out (i := 1) rfl hr
                          simp only [List.set] at O
                          have O12 := hide (O.sub [1, 3, 4, 5] rfl (by decide))
                          clear O hr O11
                          have C3 := hide (cmp_own O12.out 0 2 rfl rfl (by have := HL.out.2.2 Z (by omega); omega) (by have := HL.out.2.2 (n - 1) (by omega); omega))
                          have hz3 : (icmp (Z : Int) ((n - 1 : Nat) : Int) == 0) = decide (Z = n - 1) := by
                            unfold icmp
                            by_cases h1 : Z = n - 1
                            · rw [if_neg (by omega), if_neg (by omega)]; simp [h1]
                            · have h2 : decide (Z = n - 1) = false := by simpa using h1
                              rw [h2]
                              split
                              · rfl
                              · rw [if_pos (by omega)]; rfl
                          obtain ⟨z3, hz⟩ : ∃ z, icmp (Z : Int) ((n - 1 : Nat) : Int) = z := ⟨_, rfl⟩
                          rw [hz] at C3 hz3
                          obtain ⟨B3, hB3⟩ : ∃ B, decide (Z = n - 1) = B := ⟨_, rfl⟩
                          rw [hB3] at hz3 HSQ2
                          clear hz hB3
                          go_wp2_with fail
                          refine C3.out.mono ?_
                          rintro e w13 ⟨rfl, O⟩
                          have O13 := hide O
                          clear O
                          go_wp2_with fail
                          go_roundg (t - (m + 1))
                          case measure => omega
                          case rel => exact ⟨m + 1, _, Z, B3, rfl, rfl, rfl, by simp, by omega, by omega, hzn, HSQ2, O13⟩
                        · exfalso
                          have hsq := HSQ.out rfl
                          rw [show t - m = 0 from by omega, sqB_stop] at hsq
                          cases hsq
                      · have O13 := hide (HO.out.sub [1, 2, 3] rfl (by decide))
                        have hJ2 := hJ
                        by_cases hmt : m < t
                        · go_wp2_with fail
                          go_roundg (12 - (i + 1))
                          case measure => omega
                          case rel => exact ⟨i + 1, rfl, by simp, by omega, O13, HPB2⟩
                        · go_wp2_with fail
                          go_roundg (12 - (i + 1))
                          case measure => omega
                          case rel => exact ⟨i + 1, rfl, by simp, by omega, O13, HPB2⟩
            · exfalso
              obtain rfl : i = 12 := by omega
              have h1 : bases.all (mrB n D t) = true := List.all_eq_true.2 fun a ha => by
                obtain ⟨j, hj, hja⟩ := List.getElem_of_mem ha
                exact HPB.out j a (by simpa [bases] using hj) (by rw [List.getElem?_eq_getElem hj, hja])
              have h2 := HBF.out
              rw [h1] at h2
              cases h2
end Go.Proofs.YtpppnaljndhjcaaDoor
