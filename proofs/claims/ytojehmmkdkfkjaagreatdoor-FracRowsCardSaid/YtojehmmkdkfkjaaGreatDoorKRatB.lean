/- The walk of arithmeticabig's common: the greatest common divisor of two naturals, under the bound lim. -/
import Derived.Test.YtojehmmkdkfkjaaGreatDoorKDivB
namespace Go.Proofs.YtojehmmkdkfkjaaGreatDoor
open Go.RowKit

/-- how many words a number has -/
theorem NatAt.sized {w : World} {v : Value} {x : Nat} (h : NatAt w v x) (hx : x < lim) : ∃ A n c, v = .slice A n c ∧ n ≤ 1000 ∧ (n = 0 ↔ x = 0) ∧ (2 < n → 18446744073709551616 ≤ x) ∧ (n ≤ 2 → x < 18446744073709551616) := by
  obtain ⟨A, n, c, l, rfl, hl, hnl, hv, hn⟩ := h.open_ hx
  have hlen := hl.len
  refine ⟨A, n, c, rfl, hn, ?_, fun h2 => ?_, fun h2 => ?_⟩
  · constructor
    · intro h0
      rw [h0] at hlen
      rw [← hv, List.eq_nil_of_length_eq_zero hlen]; rfl
    · intro h0
      by_cases hn0 : n = 0
      · exact hn0
      · have := wv_ge hnl (by omega)
        have h3 : 0 < 4294967296 ^ (l.length - 1) := Nat.pow_pos (by omega)
        omega
  · have := wv_ge hnl (by omega)
    have h3 : 4294967296 ^ 2 ≤ 4294967296 ^ (l.length - 1) := Nat.pow_le_pow_right (by omega) (by omega)
    have h4 : (4294967296 : Nat) ^ 2 = 18446744073709551616 := rfl
    omega
  · have := wv_lt l hl.small
    have h3 : 4294967296 ^ l.length ≤ 4294967296 ^ 2 := Nat.pow_le_pow_right (by omega) (by omega)
    have h4 : (4294967296 : Nat) ^ 2 = 18446744073709551616 := rfl
    omega

set_option maxRecDepth 100000 in
set_option maxHeartbeats 1600000 in
theorem common_any (va vb : Value) (x y : Nat) (w : World) (ha : NatAt w va x) (hb : NatAt w vb y) (hx : x < lim) (hy : y < lim) :
    Calls Tryz.prog 64 #[va, vb] w (RetNat w (Nat.gcd x y)) := by
  obtain ⟨g, hg⟩ : ∃ g, Nat.gcd x y = g := ⟨_, rfl⟩
  rw [hg]
  have HA := hide ha
  have HB := hide hb
  have HX := hide hx
  have HY := hide hy
  have HG := hide hg
  clear ha hb hx hy hg
  go_enter Tryz.func64, Tryz.ntmps64
  go_wp2_with fail
  go_loopg [0, 1] y (fun M a b wr => ∃ X N : Nat, N = M ∧ Hid (NatAt wr a X) ∧ Hid (NatAt wr b N) ∧ Hid (X < lim) ∧ Hid (N < lim) ∧ Hid (Nat.gcd X N = g) ∧ Hid (Below w.heap.size w wr))
  case atStart => exact ⟨x, y, rfl, HA, HB, HX, HY, HG, hide (Below.refl _ _)⟩
  case round =>
    obtain ⟨X, N, rfl, HA, HB, HX, HY, HG, HW⟩ := hrel
    obtain ⟨wo, rfl⟩ : ∃ Z, Z = wr := ⟨_, rfl⟩
    obtain ⟨pA, n, cn, rfl, hn, hn0, hn2, hn3⟩ := HB.out.sized HY.out
    by_cases h2 : 2 < n
    · have q1 : decide ((2 : Int) < (n : Int)) = true := by rw [decide_eq_true_eq]; omega
      have hN : 0 < N := by have := hn2 h2; omega
      have CD := hide (div_any _ _ X N wo HA.out HB.out HX.out HY.out hN)
      have HN := hide hN
      clear hn hn0 hn2 hn3 h2 hN
      go_wp2_with fail
      refine CD.out.mono ?_
      rintro e w1 ⟨v1, v2, rfl, h1, h2, hb⟩
      have HA1 := hide (HB.out.below hb)
      have HB1 := hide h2
      have HW1 := hide (HW.out.trans (hb.mono HW.out.size))
      clear h1 h2 hb CD
      go_wp2_with fail
      go_roundg (X % N)
      case measure => exact Nat.mod_lt _ HN.out
      case rel => exact ⟨N, X % N, rfl, HA1, HB1, HY, hide (Nat.lt_of_lt_of_le (Nat.mod_lt _ HN.out) (Nat.le_of_lt HY.out)), hide (by rw [← HG.out, Nat.gcd_comm X N, Nat.gcd_rec N X, Nat.gcd_comm]), HW1⟩
    · have q1 : decide ((2 : Int) < (n : Int)) = false := by rw [decide_eq_false_iff_not]; omega
      have hNl := hn3 (by omega)
      by_cases h0 : n = 0
      · subst h0
        have hN0 : N = 0 := hn0.1 rfl
        have HG2 : Hid (X = g) := by have := HG.out; rw [hN0, Nat.gcd_zero_right] at this; exact this
        clear hn hn0 hn2 hn3 h2 hNl hN0
        go_wp2_with fail
        go_ret
        exact ⟨_, rfl, by rw [← HG2.out]; exact HA.out, HW.out⟩
      · have q2 : ((n : Int) == 0) = false := by simp; omega
        have q3 : decide ((n : Int) = 0) = false := by simp; omega
        have q4 : decide (n = 0) = false := by simp; omega
        have hN : 0 < N := by
          by_cases hz : N = 0
          · exact absurd (hn0.2 hz) h0
          · omega
        have HN := hide hN
        have HNL := hide hNl
        clear hn hn0 hn2 hn3 h2 hNl h0 hN
        obtain ⟨qA, m, cm, rfl, hm, hm0, hm2, hm3⟩ := HA.out.sized HX.out
        by_cases h2 : 2 < m
        · have q5 : decide ((2 : Int) < (m : Int)) = true := by rw [decide_eq_true_eq]; omega
          have CD := hide (div_any _ _ X N wo HA.out HB.out HX.out HY.out HN.out)
          clear hm hm0 hm2 hm3 h2
          go_wp2_with fail
          refine CD.out.mono ?_
          rintro e wd ⟨v1, v2, rfl, h1, h2, hb⟩
          have HA2 := hide (HB.out.below hb)
          have HB2 := hide h2
          have HXL := HNL
          have HNL := hide (Nat.lt_trans (Nat.mod_lt X HN.out) HXL.out)
          have HG2 : Hid (Nat.gcd N (X % N) = g) := hide (by rw [← HG.out, Nat.gcd_comm X N, Nat.gcd_rec N X, Nat.gcd_comm])
          have HW2 := hide (HW.out.trans (hb.mono HW.out.size))
          clear h1 h2 hb CD
          go_upto_region 9 with (fail)
          have HP1 := hide (plain_any _ _ wd HA2.out (lim_u64 HXL.out))
          have HP2 := hide (plain_any _ _ wd HB2.out (lim_u64 HNL.out))
          rw [Nat.mod_eq_of_lt HXL.out] at HP1
          rw [Nat.mod_eq_of_lt HNL.out] at HP2
          clear HA2 HB2
          go_wp2_with fail
          refine HP1.out.mono ?_
          rintro e w3 ⟨rfl, rfl⟩
          go_wp2_with fail
          refine HP2.out.mono ?_
          rintro e w3 ⟨rfl, rfl⟩
          clear HP1 HP2
          go_wp2_with fail
          go_loopw [9, 10] (fun p q wr => ∃ P Q : Nat, p = .int .u64 P ∧ q = .int .u64 Q ∧ Hid (P < 18446744073709551616) ∧ Hid (Q < 18446744073709551616) ∧ Hid (Nat.gcd P Q = g) ∧ Hid (Below wd.heap.size wd wr)) (fun _ q _ => (intOf q).toNat)
          case atStart => exact ⟨_, _, rfl, rfl, HXL, HNL, HG2, hide (Below.refl _ _)⟩
          case round =>
            obtain ⟨P, Q, rfl, rfl, HPl, HQl, HGG, HWR⟩ := hrel
            by_cases hQ : 0 < Q
            · have e1 : decide ((0 : Int) < (Q : Int)) = true := by rw [decide_eq_true_eq]; omega
              have e2 : ((Q : Int) == 0) = false := by simp; omega
              have e3 : ¬ (Q : Int) = 0 := by omega
              have e4 : (P : Int).tmod (Q : Int) = ((P % Q : Nat) : Int) := rfl
              have e5 : IntKind.u64.wrap ((P % Q : Nat) : Int) = ((P % Q : Nat) : Int) := by
                have := Nat.mod_lt P hQ
                have := HQl.out
                rw [IntKind.wrap_u64]; omega
              have HM := hide (Nat.mod_lt P hQ)
              clear hQ
              go_wp2_with fail
              go_quiet (fail)
              go_wp2_with fail
              exact ⟨⟨Q, P % Q, rfl, by rw [Int.natCast_emod], HQl, hide (Nat.lt_trans HM.out HQl.out), hide (by rw [← HGG.out, Nat.gcd_comm P Q, Nat.gcd_rec Q P, Nat.gcd_comm]), hide (below_drewN HWR.out nq)⟩, by have := HM.out; simp only [intOf]; rw [← Int.natCast_emod]; omega⟩
            · obtain rfl : Q = 0 := by omega
              have HGP : Hid (P = g) := by have := HGG.out; rw [Nat.gcd_zero_right] at this; exact this
              have CW := fun W => hide (words_any P W HPl.out)
              clear hQ
              go_wp2_with fail
              refine (CW _).out.mono ?_
              rintro e w3 ⟨v, rfl, hv, hb⟩
              have HV := hide hv
              have HBB := hide (HW2.out.trans ((HWR.out.trans (hb.mono HWR.out.size)).mono HW2.out.size))
              clear hv hb CW
              go_wp2_with fail
              go_ret
              exact ⟨v, rfl, by rw [← HGP.out]; exact HV.out, HBB.out⟩
        · have q5 : decide ((2 : Int) < (m : Int)) = false := by rw [decide_eq_false_iff_not]; omega
          have HXL := hide (hm3 (by omega))
          have HA2 := HA
          have HB2 := HB
          have HG2 := HG
          have HW2 := HW
          obtain ⟨wd, rfl⟩ : ∃ Z, Z = wo := ⟨_, rfl⟩
          clear hm hm0 hm2 hm3 h2 HA HB HX HY HG HW
          go_upto_region 9 with (fail)
          have HP1 := hide (plain_any _ _ wd HA2.out (lim_u64 HXL.out))
          have HP2 := hide (plain_any _ _ wd HB2.out (lim_u64 HNL.out))
          rw [Nat.mod_eq_of_lt HXL.out] at HP1
          rw [Nat.mod_eq_of_lt HNL.out] at HP2
          clear HA2 HB2
          go_wp2_with fail
          refine HP1.out.mono ?_
          rintro e w3 ⟨rfl, rfl⟩
          go_wp2_with fail
          refine HP2.out.mono ?_
          rintro e w3 ⟨rfl, rfl⟩
          clear HP1 HP2
          go_wp2_with fail
          go_loopw [9, 10] (fun p q wr => ∃ P Q : Nat, p = .int .u64 P ∧ q = .int .u64 Q ∧ Hid (P < 18446744073709551616) ∧ Hid (Q < 18446744073709551616) ∧ Hid (Nat.gcd P Q = g) ∧ Hid (Below wd.heap.size wd wr)) (fun _ q _ => (intOf q).toNat)
          case atStart => exact ⟨_, _, rfl, rfl, HXL, HNL, HG2, hide (Below.refl _ _)⟩
          case round =>
            obtain ⟨P, Q, rfl, rfl, HPl, HQl, HGG, HWR⟩ := hrel
            by_cases hQ : 0 < Q
            · have e1 : decide ((0 : Int) < (Q : Int)) = true := by rw [decide_eq_true_eq]; omega
              have e2 : ((Q : Int) == 0) = false := by simp; omega
              have e3 : ¬ (Q : Int) = 0 := by omega
              have e4 : (P : Int).tmod (Q : Int) = ((P % Q : Nat) : Int) := rfl
              have e5 : IntKind.u64.wrap ((P % Q : Nat) : Int) = ((P % Q : Nat) : Int) := by
                have := Nat.mod_lt P hQ
                have := HQl.out
                rw [IntKind.wrap_u64]; omega
              have HM := hide (Nat.mod_lt P hQ)
              clear hQ
              go_wp2_with fail
              go_quiet (fail)
              go_wp2_with fail
              exact ⟨⟨Q, P % Q, rfl, by rw [Int.natCast_emod], HQl, hide (Nat.lt_trans HM.out HQl.out), hide (by rw [← HGG.out, Nat.gcd_comm P Q, Nat.gcd_rec Q P, Nat.gcd_comm]), hide (below_drewN HWR.out nq)⟩, by have := HM.out; simp only [intOf]; rw [← Int.natCast_emod]; omega⟩
            · obtain rfl : Q = 0 := by omega
              have HGP : Hid (P = g) := by have := HGG.out; rw [Nat.gcd_zero_right] at this; exact this
              have CW := fun W => hide (words_any P W HPl.out)
              clear hQ
              go_wp2_with fail
              refine (CW _).out.mono ?_
              rintro e w3 ⟨v, rfl, hv, hb⟩
              have HV := hide hv
              have HBB := hide (HW2.out.trans ((HWR.out.trans (hb.mono HWR.out.size)).mono HW2.out.size))
              clear hv hb CW
              go_wp2_with fail
              go_ret
              exact ⟨v, rfl, by rw [← HGP.out]; exact HV.out, HBB.out⟩
end Go.Proofs.YtojehmmkdkfkjaaGreatDoor
