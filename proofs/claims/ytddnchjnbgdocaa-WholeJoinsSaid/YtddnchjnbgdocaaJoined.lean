/- The walk of the answer's Joined. -/
import Derived.Test.YtddnchjnbgdocaaOwn
import Derived.Test.YtddnchjnbgdocaaJoinedLaw
import Derived.Test.YtddnchjnbgdocaaJoinM
namespace Go.Proofs.Ytddnchjnbgdocaa
open Go.RowKit

set_option maxRecDepth 100000 in
set_option maxHeartbeats 1600000 in
theorem joined_many (A B : Option Addr) (n c m d : Nat) (rs ms : List Int) (w : World) (hrs : rs.length = n) (hms : ms.length = m) (h : 1000 < n ∨ 1000 < m) :
    Calls Try.prog 8 #[.slice A n c, .slice B m d] w (RetJoin w rs ms) := by
  have HJ : Hid (JoinAll rs ms (0, 0, 2, 0)) := by unfold Hid JoinAll; rw [if_pos (by omega)]
  have C := fun W => hide (refF_any 2 0 W)
  clear hrs hms
  by_cases h1 : 1000 < n
  · have q1 : decide ((1000 : Int) < (n : Int)) = true := by rw [decide_eq_true_eq]; omega
    clear h h1
    go_enter Try.func8, Try.ntmps8
    go_wp2_with fail
    refine (C _).out.mono ?_
    rintro e w1 ⟨rfl, hb⟩
    have F1 := (FC.fresh w).below hb
    obtain ⟨d0, d1, f0, f1⟩ := F1.cells
    obtain ⟨p0, p1⟩ := F1.put 2 0
    have HB2 := hide (below_fault (u := .int .i64 2) (v := .int .i64 0) (below_new hb) (Nat.le_refl w.heap.size))
    clear hb F1
    go_wp2_with fail
    exact bodyPost_ret (v := .tuple #[.int .i64 0, .int .i64 0, fv (2, 0)]) (by simp [results, Try.results8, go_sem, fv, p0, p1]) rfl ⟨_, HJ.out, rfl, HB2.out⟩
  · have q1 : decide ((1000 : Int) < (n : Int)) = false := by rw [decide_eq_false_iff_not]; omega
    have q2 : decide ((1000 : Int) < (m : Int)) = true := by rw [decide_eq_true_eq]; omega
    clear h h1
    go_enter Try.func8, Try.ntmps8
    go_wp2_with fail
    refine (C _).out.mono ?_
    rintro e w1 ⟨rfl, hb⟩
    have F1 := (FC.fresh w).below hb
    obtain ⟨d0, d1, f0, f1⟩ := F1.cells
    obtain ⟨p0, p1⟩ := F1.put 2 0
    have HB2 := hide (below_fault (u := .int .i64 2) (v := .int .i64 0) (below_new hb) (Nat.le_refl w.heap.size))
    clear hb F1
    go_wp2_with fail
    exact bodyPost_ret (v := .tuple #[.int .i64 0, .int .i64 0, fv (2, 0)]) (by simp [results, Try.results8, go_sem, fv, p0, p1]) rfl ⟨_, HJ.out, rfl, HB2.out⟩

set_option maxRecDepth 100000 in
set_option maxHeartbeats 1600000 in
theorem joined_size (A B : Option Addr) (n c m d : Nat) (rs ms : List Int) (w : World) (hrs : rs.length = n) (hms : ms.length = m) (hn : n ≤ 1000) (hm : m ≤ 1000) (h : n ≠ m) :
    Calls Try.prog 8 #[.slice A n c, .slice B m d] w (RetJoin w rs ms) := by
  have HJ : Hid (JoinAll rs ms (0, 0, 8, 0)) := by unfold Hid JoinAll; rw [if_neg (by omega), if_pos (by omega)]
  have C := fun W => hide (refF_any 8 0 W)
  clear hrs hms
  have q1 : decide ((1000 : Int) < (n : Int)) = false := by rw [decide_eq_false_iff_not]; omega
  have q2 : decide ((1000 : Int) < (m : Int)) = false := by rw [decide_eq_false_iff_not]; omega
  have q3 : ((n : Int) != (m : Int)) = true := by simp; omega
  clear h hn hm
  · go_enter Try.func8, Try.ntmps8
    go_wp2_with fail
    refine (C _).out.mono ?_
    rintro e w1 ⟨rfl, hb⟩
    have F1 := (FC.fresh w).below hb
    obtain ⟨d0, d1, f0, f1⟩ := F1.cells
    obtain ⟨p0, p1⟩ := F1.put 8 0
    have HB2 := hide (below_fault (u := .int .i64 8) (v := .int .i64 0) (below_new hb) (Nat.le_refl w.heap.size))
    clear hb F1
    go_wp2_with fail
    exact bodyPost_ret (v := .tuple #[.int .i64 0, .int .i64 0, fv (8, 0)]) (by simp [results, Try.results8, go_sem, fv, p0, p1]) rfl ⟨_, HJ.out, rfl, HB2.out⟩

theorem mul_abs {x y : Int} {p q : Nat} (hx : x.natAbs ≤ p) (hy : y.natAbs ≤ q) : (x * y).natAbs ≤ p * q := by
  rw [Int.natAbs_mul]; exact Nat.mul_le_mul hx hy

set_option maxRecDepth 100000 in
set_option maxHeartbeats 4000000 in
theorem joined_main (A B : Option Addr) (n c d : Nat) (rs ms : List Int) (w : World) (hrs : rs.length = n) (hms : ms.length = n) (hn : n ≤ 1000) (hA : Ints w w.heap.size A rs) (hB : Ints w w.heap.size B ms) :
    Calls Try.prog 8 #[.slice A n c, .slice B n d] w (RetJoin w rs ms) := by
  have HJ : Hid (∀ o, JoinP 0 0 1 (rs.zip ms) o → JoinAll rs ms o) := by
    intro o h
    unfold JoinAll
    rw [if_neg (by omega), if_neg (by omega)]
    exact h
  have HRL := hide hrs
  have HML := hide hms
  have HA := hide hA
  have HB := hide hB
  have q1 : decide ((1000 : Int) < (n : Int)) = false := by rw [decide_eq_false_iff_not]; omega
  have O0 := hide (Own.start (w.alloc (.cells #[.int .i64 0, .int .i64 0] 24)))
  clear hrs hms hA hB
  go_enter Try.func8, Try.ntmps8
  go_wp2_with fail
  refine (b_own O0.out 0 (by omega) (by omega)).mono ?_
  rintro e w1 ⟨g1, rfl, O⟩
  have O1 := hide O
  clear O
  go_wp2_with fail
  refine (b_own O1.out 1 (by omega) (by omega)).mono ?_
  rintro e w2 ⟨g2, rfl, O⟩
  have O2 := hide O
  clear O
  go_wp2_with fail
  go_loopw [7, 8, 9] (fun a b i wr => ∃ (k g h : Nat) (r M : Int), a = .pointer (some ⟨g, 0, none⟩) ∧ b = .pointer (some ⟨h, 0, none⟩) ∧ i = .int .i64 k ∧ k ≤ n ∧ Hid (0 ≤ r ∧ r < M ∧ M ≤ 1000000000000000000) ∧ Hid (∀ o, JoinP k r M ((rs.zip ms).drop k) o → JoinP 0 0 1 (rs.zip ms) o) ∧ Hid (Own (w.alloc (.cells #[.int .i64 0, .int .i64 0] 24)) wr [(h, M), (g, r)])) (fun _ _ i _ => n - (intOf i).toNat)
  case atStart => exact ⟨0, g1, g2, 0, 1, rfl, rfl, rfl, by omega, ⟨by omega, by omega, by omega⟩, fun o h => h, O2⟩
  case round =>
    obtain ⟨k, g, h, r, M, rfl, rfl, rfl, hk, HS, HP, HO⟩ := hrel
    clear O0 O1 O2
    have HF : Hid (FC wr w.heap.size 0 0) := (FC.fresh w).below HO.out.bel
    have HW2 : Hid (Below w.heap.size w wr) := below_new HO.out.bel
    by_cases hkn : k < n
    · obtain ⟨ad, a, rfl, ha, c1⟩ := HA.out.cellk (k := k) (by rw [HRL.out]; exact hkn) HW2.out
      obtain ⟨bd, m, rfl, hm, c2⟩ := HB.out.cellk (k := k) (by rw [HML.out]; exact hkn) HW2.out
      have HAC : Hid (∀ W, Below w.heap.size w W → W.cell? (ad.add k) = some (.int .i64 a)) := by
        intro W hW
        obtain ⟨ad', a', e, ha', c⟩ := HA.out.cellk (k := k) (by rw [HRL.out]; exact hkn) hW
        injection e with e
        subst e
        rw [ha] at ha'
        injection ha' with ha'
        rw [ha']; exact c
      rw [zip_drop ha hm] at HP
      clear ha hm
      have K1 := fun W => hide (number_any a W)
      have K2 := fun W => hide (number_any m W)
      have C3 := fun W => hide (refF_any 3 (k : Int) W)
      by_cases hv : okB a = true ∧ 1 ≤ m ∧ okB m = true
      · obtain ⟨hoa, hm1, hom⟩ := hv
        have ba := ok_bounds hoa
        have bm := ok_bounds hom
        rw [hoa] at K1
        rw [hom] at K2
        have q2 : decide (m < 1) = false := by simpa using hm1
        obtain ⟨h0, h1, h2⟩ := HS.out
        have HR : Hid (0 ≤ r ∧ r < M ∧ M ≤ 1000000000000000000 ∧ 1 ≤ m ∧ m ≤ 1000000000000000000 ∧ -1000000000000000000 ≤ a ∧ a ≤ 1000000000000000000) := ⟨h0, h1, h2, hm1, bm.2, ba.1, ba.2⟩
        have HOK : Hid (okB a = true ∧ 1 ≤ m ∧ okB m = true) := ⟨hoa, hm1, hom⟩
        clear hoa hm1 hom ba bm h0 h1 h2
        go_wp2_with fail
        refine (K1 _).out.mono ?_
        rintro e w1 ⟨rfl, rfl⟩
        go_wp2_with fail
        refine (K2 _).out.mono ?_
        rintro e w1 ⟨rfl, rfl⟩
        go_wp2_with fail
        refine (b_own HO.out.new.new m (by have := HR.out; omega) (by have := HR.out; omega)).mono ?_
        rintro e w3 ⟨g3, rfl, O⟩
        simp only [World.size_alloc] at O
        have O3 := hide O
        clear O
        go_wp2_with fail
        refine (gcd_own O3.out 2 1 3 0 rfl rfl (by decide) rfl rfl (by have := HR.out; omega) (by have := HR.out; omega) (lim_256 ?_)).mono ?_
        · have := HR.out
          exact Nat.lt_of_le_of_lt (Nat.mul_le_mul (show _ ≤ 2000000000000000002 by omega) (show _ ≤ 2000000000000000002 by omega)) (by decide)
        rintro e w4 ⟨s, rfl, hs, hsb, O⟩
        simp only [List.set] at O
        have O4 := hide O
        have h9 := HR.out
        have hGp := gcd_pos' (M := M) (m := m) (by omega)
        have hGd : (Int.gcd M m : Int) ∣ m := Int.gcd_dvd_right M m
        have hGle := Int.le_of_dvd (by omega) hGd
        obtain ⟨G, hG⟩ : ∃ G : Nat, Int.gcd M m = G := ⟨_, rfl⟩
        rw [hG] at O4 hs hGp hGd hGle
        have KG := hide hG
        have KS := hide hs
        have KSB : Hid (s.natAbs ≤ 1000000000000000000) := by unfold Hid; omega
        have KGP : Hid (0 < (G : Int) ∧ (G : Int) ≤ 1000000000000000000) := ⟨hGp, by omega⟩
        have a1 := HAC.out (w4.alloc (.cells #[.bool false, .slice none 0 0] 45)) (below_new O4.out.new.bel)
        have KR : Hid (0 ≤ r ∧ r < M ∧ M ≤ 1000000000000000000 ∧ 1 ≤ m ∧ m ≤ 1000000000000000000 ∧ (a - r).natAbs ≤ 2000000000000000000) := by unfold Hid; have := HR.out; omega
        have C5 := fun W => hide (refF_any 5 (k : Int) W)
        have C9 := fun W => hide (refF_any 9 (k : Int) W)
        clear O hs hsb h9 hGp hGd hGle hG
        go_wp2_with fail
        refine (b_own O4.out.new a (by have := HR.out; omega) (by have := HR.out; omega)).mono ?_
        rintro e w5 ⟨g5, rfl, O⟩
        have O5 := hide O
        clear O
        go_wp2_with fail
        refine (sub_own O5.out 1 0 6 rfl rfl rfl (lim_256 (by have := HR.out; omega)) (lim_256 (by have := HR.out; omega)) (lim_256 (by have := KR.out; omega))).mono ?_
        rintro e w6 ⟨rfl, O⟩
        have O6 : Hid (Own (w.alloc (.cells #[.int .i64 0, .int .i64 0] 24)) w6 [(w4.heap.size, a - r), (wr.heap.size + 1, s), (wr.heap.size, (G : Int)), (h, M), (g, r)]) := O.sub [1, 3, 4, 5, 6] rfl (by decide)
        clear O
        go_wp2_with fail
        refine (mod_own O6.out.new 0 1 3 rfl rfl rfl (lim_256 (by have := KR.out; omega)) (lim_256 (by have := KGP.out; omega)) (by have := KGP.out; omega)).mono ?_
        rintro e w7 ⟨rfl, O⟩
        simp only [List.set] at O
        have O7 := hide O
        clear O
        have hmb : ((a - r) % (G : Int)).natAbs < lim := lim_256 (by have := KGP.out; have := Int.emod_nonneg (a - r) (b := (G : Int)) (by omega); have := Int.emod_lt_of_pos (a - r) KGP.out.1; omega)
        have CS := hide (sign_own O7.out 0 rfl hmb)
        by_cases hgd : (G : Int) ∣ a - r
        · have hsg : ((a - r) % (G : Int)).sign = 0 := by rw [Int.emod_eq_zero_of_dvd hgd]; rfl
          rw [hsg] at CS
          have O8 : Hid (Own (w.alloc (.cells #[.int .i64 0, .int .i64 0] 24)) w7 [(w4.heap.size, a - r), (wr.heap.size + 1, s), (wr.heap.size, (G : Int)), (h, M), (g, r)]) := O7.out.sub [1, 2, 3, 4, 5] rfl (by decide)
          obtain ⟨q, hq⟩ := hgd
          have hqd : (a - r).tdiv (G : Int) = q := by rw [hq]; exact Int.mul_tdiv_cancel_left q (by have := KGP.out; omega)
          obtain ⟨m', hm'⟩ : ∃ m', m / (G : Int) = m' := ⟨_, rfl⟩
          have hmd : m.tdiv (G : Int) = m' := by rw [Int.tdiv_eq_ediv_of_nonneg (by have := KR.out; omega), hm']
          have hst := joined_step (x := (r + q * s * M) % (M * m')) (a := a) (s := s) (q := q) (r := r) (show 0 < m by have := KR.out; omega) (show 0 < M by have := KR.out; omega) (by rw [KG.out]; exact KS.out) (by rw [KG.out]; exact hq) (by rw [KG.out, hm'])
          rw [KG.out, hm'] at hst
          have hqb : q.natAbs ≤ 2000000000000000000 := by
            have h9 := Int.natAbs_mul (G : Int) q
            rw [← hq] at h9
            have h10 : q.natAbs ≤ (G : Int).natAbs * q.natAbs := Nat.le_mul_of_pos_left _ (by have := KGP.out; omega)
            have := KR.out
            omega
          have hmb2 : 0 < m' ∧ m' ≤ 1000000000000000000 := by
            have h1 := step_pos (M := M) (m := m) (by have := KR.out; omega)
            rw [KG.out, hm'] at h1
            have h2 : m' ≤ m := by rw [← hm']; exact Int.ediv_le_self _ (by have := KR.out; omega)
            have := KR.out
            omega
          have hb1 := mul_abs (x := q) (y := s) hqb KSB.out
          have hb2 := mul_abs (x := q * s) (y := M) hb1 (show M.natAbs ≤ 1000000000000000000 by have := KR.out; omega)
          have hb3 := mul_abs (x := M) (y := m') (show M.natAbs ≤ 1000000000000000000 by have := KR.out; omega) (show m'.natAbs ≤ 1000000000000000000 by omega)
          have hpp : 0 < M * m' := Int.mul_pos (by have := KR.out; omega) hmb2.1
          have L1 : Hid (q.natAbs < lim ∧ s.natAbs < lim ∧ (q * s).natAbs < lim ∧ M.natAbs < lim ∧ (q * s * M).natAbs < lim ∧ (r + q * s * M).natAbs + 1 < lim ∧ r.natAbs < lim ∧ m.natAbs < lim ∧ m'.natAbs < lim ∧ (M * m').natAbs < lim ∧ (G : Int).natAbs < lim ∧ (1000000000000000000 : Int).natAbs < lim) := by
            have := KR.out
            have := KSB.out
            have := KGP.out
            exact ⟨lim_256 (by omega), lim_256 (by omega), lim_256 (by omega), lim_256 (by omega), lim_256 (by omega), lim_256 (by omega), lim_256 (by omega), lim_256 (by omega), lim_256 (by omega), lim_256 (by omega), lim_256 (by omega), lim_256 (by omega)⟩
          have KQ : Hid ((a - r).tdiv (G : Int) = q ∧ m.tdiv (G : Int) = m' ∧ M * m' ≠ 0) := ⟨hqd, hmd, by omega⟩
          have KST := hide hst
          have KD : Hid ((G : Int) ∣ a - r) := ⟨q, hq⟩
          have KM := hide hm'
          clear O7 hmb hsg hq hqd hm' hmd hst hqb hmb2 hb1 hb2 hb3 hpp
          go_wp2_with fail
          refine CS.out.mono ?_
          rintro e w8 ⟨rfl, rfl⟩
          go_wp2_with fail
          refine (quo_own O8.out.new 0 1 3 rfl rfl rfl (lim_256 (by have := KR.out; omega)) L1.out.2.2.2.2.2.2.2.2.2.2.1 (by have := KGP.out; omega)).mono ?_
          rintro e w9 ⟨rfl, O⟩
          rw [KQ.out.1] at O
          simp only [List.set] at O
          have O9 := hide O
          clear O
          go_wp2_with fail
          refine (mul_own O9.out 0 0 2 rfl rfl rfl L1.out.1 L1.out.2.1 L1.out.2.2.1).mono ?_
          rintro e w10 ⟨rfl, O⟩
          simp only [List.set] at O
          have O10 := hide O
          clear O
          go_wp2_with fail
          refine (mul_own O10.out.new 1 1 5 rfl rfl rfl L1.out.2.2.1 L1.out.2.2.2.1 L1.out.2.2.2.2.1).mono ?_
          rintro e w11 ⟨rfl, O⟩
          simp only [List.set] at O
          have O11 := hide O
          clear O
          go_wp2_with fail
          refine (add_own O11.out 0 6 1 rfl rfl rfl L1.out.2.2.2.2.2.2.1 L1.out.2.2.2.2.1 (by have := L1.out.2.2.2.2.2.1; omega)).mono ?_
          rintro e w12 ⟨rfl, O⟩
          have O12 : Hid (Own (w.alloc (.cells #[.int .i64 0, .int .i64 0] 24)) w12 [(w10.heap.size, r + q * s * M), (wr.heap.size, (G : Int)), (h, M)]) := O.sub [0, 4, 5] rfl (by decide)
          clear O
          go_wp2_with fail
          refine (b_own O12.out.new.new m (by have := KR.out; omega) (by have := KR.out; omega)).mono ?_
          rintro e w13 ⟨g13, rfl, O⟩
          simp only [World.size_alloc] at O
          have O13 := hide O
          clear O
          go_wp2_with fail
          refine (quo_own O13.out 1 0 4 rfl rfl rfl L1.out.2.2.2.2.2.2.2.1 L1.out.2.2.2.2.2.2.2.2.2.2.1 (by have := KGP.out; omega)).mono ?_
          rintro e w14 ⟨rfl, O⟩
          rw [KQ.out.2.1] at O
          simp only [List.set] at O
          have O14 := hide O
          clear O
          go_wp2_with fail
          refine (mul_own O14.out 2 5 1 rfl rfl rfl L1.out.2.2.2.1 L1.out.2.2.2.2.2.2.2.2.1 L1.out.2.2.2.2.2.2.2.2.2.1).mono ?_
          rintro e w15 ⟨rfl, O⟩
          simp only [List.set] at O
          have O15 := hide O
          clear O
          go_wp2_with fail
          refine (mod_own O15.out 3 3 2 rfl rfl rfl L1.out.2.2.2.2.2.1 L1.out.2.2.2.2.2.2.2.2.2.1 KQ.out.2.2).mono ?_
          rintro e w16 ⟨rfl, O⟩
          simp only [List.set] at O
          have O16 := hide O
          clear O
          go_wp2_with fail
          refine (b_own O16.out 1000000000000000000 (by omega) (by omega)).mono ?_
          rintro e w17 ⟨g17, rfl, O⟩
          have O17 := hide O
          clear O
          go_wp2_with fail
          refine (cmp_own O17.out 3 0 rfl rfl L1.out.2.2.2.2.2.2.2.2.2.1 L1.out.2.2.2.2.2.2.2.2.2.2.2).mono ?_
          rintro e w18 ⟨rfl, O⟩
          have O18 : Hid (Own (w.alloc (.cells #[.int .i64 0, .int .i64 0] 24)) w18 [(w12.heap.size, M * m'), (w10.heap.size, (r + q * s * M) % (M * m'))]) := O.sub [3, 4] rfl (by decide)
          clear O
          by_cases hle : M * m' ≤ 1000000000000000000
          · have hic : Hid (icmp (M * m') 1000000000000000000 ≤ 0) := by unfold Hid icmp; split <;> (try split) <;> omega
            obtain ⟨ic, hice⟩ : ∃ ic, icmp (M * m') 1000000000000000000 = ic := ⟨_, rfl⟩
            have q4 : decide (0 < ic) = false := by rw [decide_eq_false_iff_not]; have := hic.out; omega
            rw [hice]
            have HS2 : Hid (0 ≤ (r + q * s * M) % (M * m') ∧ (r + q * s * M) % (M * m') < M * m' ∧ M * m' ≤ 1000000000000000000) := ⟨KST.out.1, KST.out.2.1, hle⟩
            have HP2 : Hid (∀ o, JoinP (k + 1) ((r + q * s * M) % (M * m')) (M * m') ((rs.zip ms).drop (k + 1)) o → JoinP 0 0 1 (rs.zip ms) o) := by
              intro o ho
              refine HP.out o ?_
              rw [JoinP, if_pos HOK.out, KG.out, if_pos KD.out, KM.out, if_pos hle]
              exact ⟨_, KST.out.1, KST.out.2.1, KST.out.2.2.1, KST.out.2.2.2, ho⟩
            clear hle hice
            go_wp2_with fail
            exact ⟨⟨k + 1, _, _, _, _, rfl, rfl, by simp, by omega, HS2, HP2, O18⟩, by simp [intOf]; omega⟩
          · have hX : JoinP k r M ((a, m) :: (rs.zip ms).drop (k + 1)) (0, 0, 9, (k : Int)) := by
              rw [JoinP, if_pos HOK.out, KG.out, if_pos KD.out, KM.out, if_neg hle]
            have HX := hide (HJ.out _ (HP.out _ hX))
            have hic : icmp (M * m') 1000000000000000000 = 1 := by unfold icmp; rw [if_neg (by omega), if_pos (by omega)]
            rw [hic]
            clear hX hle hic
            go_wp2_with fail
            refine (C9 _).out.mono ?_
            rintro e wz ⟨rfl, hb⟩
            have F1 := (FC.below (FC.fresh w) O18.out.bel).below hb
            obtain ⟨d0, d1, f0, f1⟩ := F1.cells
            obtain ⟨p0, p1⟩ := F1.put 9 (k : Int)
            have HB2 := hide (below_fault (u := .int .i64 9) (v := .int .i64 (k : Int)) ((below_new O18.out.bel).trans (hb.mono (below_new O18.out.bel).size)) (Nat.le_refl w.heap.size))
            clear hb F1
            go_wp2_with fail
            exact bodyPost_ret (v := .tuple #[.int .i64 0, .int .i64 0, fv (9, k)]) (by simp [results, Try.results8, go_sem, fv, p0, p1]) rfl ⟨_, HX.out, rfl, HB2.out⟩
        · have hX : JoinP k r M ((a, m) :: (rs.zip ms).drop (k + 1)) (0, 0, 5, (k : Int)) := by
            rw [JoinP, if_pos HOK.out, KG.out, if_neg hgd]
          have HX := hide (HJ.out _ (HP.out _ hX))
          obtain ⟨sg, hsg⟩ : ∃ sg, ((a - r) % (G : Int)).sign = sg := ⟨_, rfl⟩
          have q3 : (sg != 0) = true := by
            rw [bne_iff_ne, ← hsg]
            exact fun h => hgd (Int.dvd_of_emod_eq_zero (Int.sign_eq_zero_iff_zero.1 h))
          rw [hsg] at CS
          clear hX hgd hsg hmb
          go_wp2_with fail
          refine CS.out.mono ?_
          rintro e w8 ⟨rfl, rfl⟩
          go_wp2_with fail
          refine (C5 _).out.mono ?_
          rintro e wz ⟨rfl, hb⟩
          have F1 := (FC.below (FC.fresh w) O7.out.bel).below hb
          obtain ⟨d0, d1, f0, f1⟩ := F1.cells
          obtain ⟨p0, p1⟩ := F1.put 5 (k : Int)
          have HB2 := hide (below_fault (u := .int .i64 5) (v := .int .i64 (k : Int)) ((below_new O7.out.bel).trans (hb.mono (below_new O7.out.bel).size)) (Nat.le_refl w.heap.size))
          clear hb F1
          go_wp2_with fail
          exact bodyPost_ret (v := .tuple #[.int .i64 0, .int .i64 0, fv (5, k)]) (by simp [results, Try.results8, go_sem, fv, p0, p1]) rfl ⟨_, HX.out, rfl, HB2.out⟩
      · have HX : Hid (JoinAll rs ms (0, 0, 3, (k : Int))) := HJ.out _ (HP.out _ (by rw [JoinP, if_neg hv]))
        cases ha : okB a
        · rw [ha] at K1
          clear hv
          go_wp2_with fail
          refine (K1 _).out.mono ?_
          rintro e w1 ⟨rfl, rfl⟩
          go_wp2_with fail
          refine (C3 _).out.mono ?_
          rintro e w1 ⟨rfl, hb⟩
          have F1 := HF.out.below hb
          obtain ⟨d0, d1, f0, f1⟩ := F1.cells
          obtain ⟨p0, p1⟩ := F1.put 3 (k : Int)
          have HB2 := hide (below_fault (u := .int .i64 3) (v := .int .i64 (k : Int)) (HW2.out.trans (hb.mono HW2.out.size)) (Nat.le_refl w.heap.size))
          clear hb F1
          go_wp2_with fail
          exact bodyPost_ret (v := .tuple #[.int .i64 0, .int .i64 0, fv (3, k)]) (by simp [results, Try.results8, go_sem, fv, p0, p1]) rfl ⟨_, HX.out, rfl, HB2.out⟩
        · rw [ha] at K1
          by_cases hm1 : m < 1
          · have q2 : decide (m < 1) = true := by simpa using hm1
            clear hv hm1
            go_wp2_with fail
            refine (K1 _).out.mono ?_
            rintro e w1 ⟨rfl, rfl⟩
            go_wp2_with fail
            refine (C3 _).out.mono ?_
            rintro e w1 ⟨rfl, hb⟩
            have F1 := HF.out.below hb
            obtain ⟨d0, d1, f0, f1⟩ := F1.cells
            obtain ⟨p0, p1⟩ := F1.put 3 (k : Int)
            have HB2 := hide (below_fault (u := .int .i64 3) (v := .int .i64 (k : Int)) (HW2.out.trans (hb.mono HW2.out.size)) (Nat.le_refl w.heap.size))
            clear hb F1
            go_wp2_with fail
            exact bodyPost_ret (v := .tuple #[.int .i64 0, .int .i64 0, fv (3, k)]) (by simp [results, Try.results8, go_sem, fv, p0, p1]) rfl ⟨_, HX.out, rfl, HB2.out⟩
          · have q2 : decide (m < 1) = false := by simpa using hm1
            have hom : okB m = false := by
              cases h : okB m
              · rfl
              · exact (hv ⟨ha, by omega, h⟩).elim
            rw [hom] at K2
            clear hv hm1
            go_wp2_with fail
            refine (K1 _).out.mono ?_
            rintro e w1 ⟨rfl, rfl⟩
            go_wp2_with fail
            refine (K2 _).out.mono ?_
            rintro e w1 ⟨rfl, rfl⟩
            go_wp2_with fail
            refine (C3 _).out.mono ?_
            rintro e w1 ⟨rfl, hb⟩
            have F1 := HF.out.below hb
            obtain ⟨d0, d1, f0, f1⟩ := F1.cells
            obtain ⟨p0, p1⟩ := F1.put 3 (k : Int)
            have HB2 := hide (below_fault (u := .int .i64 3) (v := .int .i64 (k : Int)) (HW2.out.trans (hb.mono HW2.out.size)) (Nat.le_refl w.heap.size))
            clear hb F1
            go_wp2_with fail
            exact bodyPost_ret (v := .tuple #[.int .i64 0, .int .i64 0, fv (3, k)]) (by simp [results, Try.results8, go_sem, fv, p0, p1]) rfl ⟨_, HX.out, rfl, HB2.out⟩
    · obtain rfl : k = n := by omega
      have hx : JoinP k r M ((rs.zip ms).drop k) (r, M, 0, 0) := by
        rw [List.drop_of_length_le (by rw [List.length_zip, HRL.out, HML.out]; omega)]
        rfl
      have HX := hide (HJ.out _ (HP.out _ hx))
      have I1 := hide (int64_own HO.out 1 rfl (by have := HS.out; omega) (by have := HS.out; omega))
      have I2 := hide (int64_own HO.out 0 rfl (by have := HS.out; omega) (by have := HS.out; omega))
      clear hx
      obtain ⟨d0, d1, f0, f1⟩ := HF.out.cells
      obtain ⟨p0, p1⟩ := HF.out.put 0 0
      have HB2 := hide (below_fault (u := .int .i64 0) (v := .int .i64 0) HW2.out (Nat.le_refl w.heap.size))
      have q5 : decide (k < k) = false := by simp
      go_wp2_with fail
      refine I1.out.mono ?_
      rintro e w2 ⟨rfl, rfl⟩
      go_wp2_with fail
      refine I2.out.mono ?_
      rintro e w2 ⟨rfl, rfl⟩
      go_wp2_with fail
      exact bodyPost_ret (v := .tuple #[.int .i64 r, .int .i64 M, fv (0, 0)]) (by simp [results, Try.results8, go_sem, fv, p0, p1]) rfl ⟨_, HX.out, rfl, HB2.out⟩
end Go.Proofs.Ytddnchjnbgdocaa
