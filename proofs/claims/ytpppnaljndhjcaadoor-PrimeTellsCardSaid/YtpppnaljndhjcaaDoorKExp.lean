/- The walks of arithmeticabig's bit and Exp (of an exponent from 0 on; with a modulus above 0, or without one). Each under a bound on the numbers. -/
import Derived.Test.YtpppnaljndhjcaaDoorKOwn
namespace Go.Proofs.YtpppnaljndhjcaaDoor
open Go.RowKit

theorem bit_digit {x i k s d : Nat} {l : List Nat} (hl : ∀ (j d : Nat), l[j]? = some d → d < 4294967296) (hv : wv l = x) (hi : i = 32 * k + s) (hs : s < 32) (hd : l[k]? = some d) : x / 2 ^ i % 2 = d / 2 ^ s % 2 := by
  have hk : k ≤ l.length := Nat.le_of_lt (List.getElem?_eq_some_iff.1 hd).1
  have h1 := wv_div l k hk hl
  rw [hv, wv_drop hd] at h1
  rw [hi, Nat.pow_add, ← Nat.div_div_eq_div_mul, Nat.pow_mul, show (2 ^ 32 : Nat) = 4294967296 from rfl, h1]
  obtain ⟨t, ht⟩ : ∃ t, 4294967296 = 2 ^ s * (2 * t) := ⟨2 ^ (31 - s), by
    rw [← Nat.pow_succ', ← Nat.pow_add, show s + (31 - s + 1) = 32 from by omega]⟩
  generalize wv (l.drop (k + 1)) = z
  rw [ht, Nat.mul_assoc, Nat.add_mul_div_left _ _ (Nat.pow_pos (by omega)), Nat.mul_assoc, Nat.add_mul_mod_self_left]

set_option maxRecDepth 100000 in
set_option maxHeartbeats 800000 in
theorem bit_any (v : Value) (x i : Nat) (w : World) (ha : NatAt w v x) (hx : x < lim) (hi : i < 1000000) :
    Calls Tryd.prog 45 #[v, .int .i64 i] w fun e w' => e = .returned (.int .u64 ((x / 2 ^ i % 2 : Nat) : Int)) ∧ w = w' := by
  obtain ⟨A, n, c, l, rfl, hl, hnl, hv, hn⟩ := ha.open_ hx
  obtain ⟨k, hk⟩ : ∃ k, i / 32 = k := ⟨_, rfl⟩
  obtain ⟨s, hs⟩ : ∃ s, i % 32 = s := ⟨_, rfl⟩
  have hik : i = 32 * k + s := by omega
  have hs32 : s < 32 := by omega
  have e1 : (i : Int) / 32 = (k : Int) := by omega
  have e2 : (i : Int) % 32 = (s : Int) := by omega
  have q0 : decide ((i : Int) < 0) = false := by simp
  have hkb : k < 1000000 := by omega
  by_cases hkn : n ≤ k
  · have HE : Hid (x / 2 ^ i % 2 = 0) := by
      have h1 := wv_lt l hl.small
      rw [hl.len, hv] at h1
      have h2 : 4294967296 ^ n ≤ 2 ^ i := by
        rw [show (4294967296 : Nat) = 2 ^ 32 from rfl, ← Nat.pow_mul]
        exact Nat.pow_le_pow_right (by omega) (by omega)
      unfold Hid
      rw [Nat.div_eq_of_lt (by omega)]
    have q1 : decide (n ≤ k) = true := by simpa using hkn
    clear hl hnl hv hx hs hik hs32 e2 hkn ha hk
    go_enter Tryd.func45, Tryd.ntmps45
    go_wp2_with fail
    go_ret
    exact ⟨ret_int (by rw [HE.out]; rfl), rfl⟩
  · obtain ⟨ad, d, rfl, hd, hd1, hab, hac⟩ := hl.at_ (k := k) (by omega)
    have HE := hide (bit_digit hl.small hv hik hs32 hd)
    have q1 : decide (n ≤ k) = false := by simpa using hkn
    have hdb : d / 2 ^ s ≤ d := Nat.div_le_self _ _
    obtain ⟨z, hz⟩ : ∃ z, d / 2 ^ s = z := ⟨_, rfl⟩
    have e3 : (d : Int) / 2 ^ s = (z : Int) := by rw [← hz, Int.natCast_ediv, Int.natCast_pow]; rfl
    have e4 := and_one_u64 (z : Int) (by omega) (by omega)
    have e5 := wrap_u64_nat z (by omega)
    rw [hz] at HE
    clear hl hnl hv hx hs hik hd hz ha hk hn hdb
    go_enter Tryd.func45, Tryd.ntmps45
    go_wp2_with fail
    go_ret
    exact ⟨ret_int (by rw [HE.out]; omega), rfl⟩

theorem pow_even (X : Int) (y j : Nat) (h : y / 2 ^ j % 2 = 0) : X ^ (y / 2 ^ j) = X ^ (y / 2 ^ (j + 1)) * X ^ (y / 2 ^ (j + 1)) := by
  rw [← Int.pow_add]
  congr 1
  rw [Nat.pow_succ, ← Nat.div_div_eq_div_mul]
  omega
theorem pow_odd (X : Int) (y j : Nat) (h : y / 2 ^ j % 2 = 1) : X ^ (y / 2 ^ j) = X ^ (y / 2 ^ (j + 1)) * X ^ (y / 2 ^ (j + 1)) * X := by
  rw [← Int.pow_add, ← Int.pow_succ]
  congr 1
  rw [Nat.pow_succ, ← Nat.div_div_eq_div_mul]
  omega
theorem sq_emod (a m : Int) : (a % m) * (a % m) % m = a * a % m := by rw [← Int.mul_emod]
theorem sqx_emod (a x m : Int) : ((a % m) * (a % m) % m) * x % m = a * a * x % m := by
  rw [sq_emod, Int.mul_emod, Int.emod_emod_of_dvd _ (Int.dvd_refl m), ← Int.mul_emod]
theorem pow32 (k : Nat) : 4294967296 ^ k = 2 ^ (32 * k) := by rw [Nat.pow_mul]
theorem blen_lim {x : Nat} (h : x < lim) : blen x ≤ 32000 := by
  have e : lim = 2 ^ (32 * limW) := pow32 limW
  rw [e] at h
  exact Nat.le_trans (blen_le h) (by decide)

theorem abs_lt_sq {R M : Int} {K : Nat} (h0 : 0 ≤ R) (h1 : R < M) (h2 : M.natAbs ≤ K) : (R * R).natAbs ≤ K * K ∧ R.natAbs ≤ K := by
  refine ⟨?_, by omega⟩
  rw [Int.natAbs_mul]
  exact Nat.mul_le_mul (by omega) (by omega)

set_option maxRecDepth 100000 in
set_option maxHeartbeats 3200000 in
theorem exp_mod (K g p q r : Nat) (X M : Int) (y : Nat) (w : World) (hz : IntBlk w g) (hx : IntAt w p X) (hy : IntAt w q (y : Int)) (hm : IntAt w r M) (hM : 0 < M) (hyl : y < lim) (hK : K * K + K + 1 < lim) (hXK : X.natAbs ≤ K) (hMK : M.natAbs ≤ K) :
    Calls Tryd.prog 32 #[.pointer (some ⟨g, 0, none⟩), .pointer (some ⟨p, 0, none⟩), .pointer (some ⟨q, 0, none⟩), .pointer (some ⟨r, 0, none⟩)] w (RetInt w g (X ^ y % M)) := by
  have O0 := hide ((Own.start w).new)
  obtain ⟨yn, yv, y0, y1, hyv, hys⟩ := hy.cells
  have yn0 : yn = false := by cases yn; rfl; have := hys.1 rfl; omega
  subst yn0
  obtain ⟨Am, nm, cm, m1, nm0⟩ := hm.abs1 (by omega) (by omega)
  have t1 : decide (0 < nm) = true := by simpa using nm0
  have CS := hide (set_int w.heap.size p X _ (O0.out.blk (i := 0) rfl) (hx.below O0.out.bel) (by omega))
  have HZ := hide hz
  have HY := hide hyv
  have HM := hide hm
  have HK : Hid (0 < M ∧ K * K + K + 1 < lim ∧ X.natAbs ≤ K ∧ M.natAbs ≤ K ∧ y < lim) := ⟨hM, hK, hXK, hMK, hyl⟩
  have hql : q < w.heap.size := hy.lt
  have hrl : r < w.heap.size := hm.lt
  have hn32 := blen_lim hyl
  clear hz hx hy hm hM hyl hK hXK hMK hyv hys nm0
  go_enter Tryd.func32, Tryd.ntmps32
  go_wp2_with fail
  refine CS.out.mono ?_
  rintro e w1 hr
  obtain ⟨rfl, O⟩ := RetInt.own O0.out (i := 0) rfl hr
  simp only [List.set] at O
  have O1 := hide O
  have y0' := (O.bel.cell (p := ⟨q, 0, none⟩) hql).trans y0
  clear O hr CS
  go_wp2_with fail
  refine (newInt_own O1.out 1 (by omega) (by omega)).mono ?_
  rintro e w2 ⟨b1, rfl, O⟩
  have O2 := hide O
  have y1' := (O.bel.cell (p := ⟨q, 1, none⟩) hql).trans y1
  have CT := hide (twin_any yv y w2 (HY.out.below O.bel) HK.out.2.2.2.2)
  clear O y0'
  go_wp2_with fail
  refine CT.out.mono ?_
  rintro e w3 ⟨ev, rfl, hev, hb⟩
  have O3 := hide (O2.out.below hb)
  have E3 := hide hev
  clear hev hb y1' CT
  have CA := hide (abs_int w3.heap.size r M _ (O3.out.new.blk (i := 0) rfl) (HM.out.below O3.out.new.bel) (by have := HK.out; omega))
  go_wp2_with fail
  refine CA.out.mono ?_
  rintro e w4 hr
  have E4 := hide ((E3.out.below (bel_new w3 _)).kept (.of_grown hr.2.2 (O3.out.new.blk (i := 0) rfl)))
  obtain ⟨rfl, O⟩ := RetInt.own O3.out.new (i := 0) rfl hr
  simp only [List.set] at O
  rw [show (M.natAbs : Int) = M from by have := HK.out; omega] at O
  have O4 := hide O
  clear O hr CA
  go_wp2_with fail
  refine (mod_int b1 b1 w3.heap.size 1 M w4 (O4.out.blk (i := 1) rfl) (O4.out.at_ 1 _ _ rfl) (O4.out.at_ 0 _ _ rfl) (by have := HK.out; rw [show (1 : Int).natAbs = 1 from rfl]; have h9 : K * K ≥ 1 * 1 := Nat.mul_le_mul (by omega) (by omega); omega) (by have := HK.out; omega) (by have := HK.out; omega)).mono ?_
  rintro e w5 hr
  have E5 := hide (E4.out.kept (.of_grown hr.2.2 (O4.out.blk (i := 1) rfl)))
  obtain ⟨rfl, O⟩ := RetInt.own O4.out (i := 1) rfl hr
  simp only [List.set] at O
  have O5 := hide O
  have CL := hide (length_any ev y w5 E5.out HK.out.2.2.2.2)
  clear O hr
  go_wp2_with fail
  refine CL.out.mono ?_
  rintro e w6 ⟨rfl, rfl⟩
  go_wp2_with fail
  have R0 : Hid (1 % M = X ^ (y / 2 ^ (((blen y : Nat) : Int) - 1 + 1).toNat) % M) := by
    unfold Hid
    rw [show (((blen y : Nat) : Int) - 1 + 1).toNat = blen y from by omega, Nat.div_eq_of_lt (lt_blen y), Int.pow_zero]
  go_loopw [14] (fun v wr => ∃ (i R : Int), v = .int .i64 i ∧ -1 ≤ i ∧ i < 32000 ∧ Hid (R = X ^ (y / 2 ^ (i + 1).toNat) % M) ∧ Hid (Own w wr [(w3.heap.size, M), (b1, R), (w.heap.size, X)]) ∧ Hid (NatAt wr ev y)) (fun v _ => (intOf v + 1).toNat)
  case atStart => exact ⟨_, _, rfl, by omega, by omega, R0, O5, E5⟩
  case round =>
    clear R0 O5 E5 O4 E4 O3 E3 O2 O1 O0
    obtain ⟨i, R, rfl, hi0, hi1, HR, HO, HE⟩ := hrel
    by_cases hi : i < 0
    · obtain rfl : i = -1 := by omega
      have HR2 : Hid (R = X ^ y % M) := by have := HR.out; rw [show ((-1 : Int) + 1).toNat = 0 from rfl, Nat.pow_zero, Nat.div_one] at this; exact this
      have hRb : R.natAbs < lim := by
        have h1 := HR2.out
        have h2 := Int.emod_nonneg (X ^ y) (b := M) (by have := HK.out; omega)
        have h3 := Int.emod_lt_of_pos (X ^ y) (b := M) HK.out.1
        have := HK.out
        omega
      have hzr : IntBlk wr g := HZ.out.below HO.out.bel
      have CG := hide (set_int g b1 R wr hzr (HO.out.at_ 1 _ _ rfl) hRb)
      clear hi hi0 hi1 hRb hzr
      go_wp2_with fail
      refine CG.out.mono ?_
      rintro e w7 ⟨rfl, hi, hg⟩
      have HI := hide hi
      have HG := hide (grown_after HO.out.bel hg)
      clear hi hg
      go_wp2_with fail
      go_ret
      exact ⟨rfl, by rw [← HR2.out]; exact HI.out, HG.out⟩
    · obtain ⟨j, rfl⟩ : ∃ j : Nat, i = j := ⟨i.toNat, by omega⟩
      have hRM : R = X ^ (y / 2 ^ (j + 1)) % M := by have := HR.out; rwa [show ((j : Int) + 1).toNat = j + 1 from by omega] at this
      have hR0 : 0 ≤ R ∧ R < M := by
        rw [hRM]
        exact ⟨Int.emod_nonneg _ (by have := HK.out; omega), Int.emod_lt_of_pos _ HK.out.1⟩
      have hRK := abs_lt_sq hR0.1 hR0.2 HK.out.2.2.2.1
      have HR0 := hide hRM
      have HRK : Hid (R.natAbs < lim ∧ (R * R).natAbs + 1 < lim) := by have := HK.out; unfold Hid; omega
      have CB := hide (bit_any ev y j)
      have HS : Hid (0 ≤ R * R % M ∧ R * R % M < M) := ⟨Int.emod_nonneg _ (by have := HK.out; omega), Int.emod_lt_of_pos _ HK.out.1⟩
      have HSX : Hid ((R * R % M).natAbs < lim ∧ (R * R % M * X).natAbs + 1 < lim) := by
        have h1 := HS.out
        have h2 := HK.out
        have h3 : (R * R % M * X).natAbs ≤ K * K := by rw [Int.natAbs_mul]; exact Nat.mul_le_mul (by omega) (by omega)
        unfold Hid
        omega
      have h2n : (j : Int) - 1 < 32000 := by omega
      have hjm : j < 1000000 := by omega
      clear hi hi0 hRM hR0 hRK
      go_wp2_with fail
      refine (mul_int b1 b1 b1 R R wr (HO.out.blk (i := 1) rfl) (HO.out.at_ 1 _ _ rfl) (HO.out.at_ 1 _ _ rfl) HRK.out.1 HRK.out.1 (by have := HRK.out; omega)).mono ?_
      rintro e w7 hr
      have E7 := hide (HE.out.kept (.of_grown hr.2.2 (HO.out.blk (i := 1) rfl)))
      obtain ⟨rfl, O⟩ := RetInt.own HO.out (i := 1) rfl hr
      simp only [List.set] at O
      have O7 := hide O
      clear O hr
      go_wp2_with fail
      refine (mod_int b1 b1 w3.heap.size (R * R) M w7 (O7.out.blk (i := 1) rfl) (O7.out.at_ 1 _ _ rfl) (O7.out.at_ 0 _ _ rfl) HRK.out.2 (by have := HK.out; omega) (by have := HK.out; omega)).mono ?_
      rintro e w8 hr
      have E8 := hide (E7.out.kept (.of_grown hr.2.2 (O7.out.blk (i := 1) rfl)))
      obtain ⟨rfl, O⟩ := RetInt.own O7.out (i := 1) rfl hr
      simp only [List.set] at O
      have O8 := hide O
      clear O hr
      rcases Nat.mod_two_eq_zero_or_one (y / 2 ^ j) with hb | hb
      · have CB8 := CB.out w8 E8.out HK.out.2.2.2.2 hjm
        rw [hb, show ((0 : Nat) : Int) = 0 from rfl] at CB8
        have C8 := hide CB8
        have HN : Hid (R * R % M = X ^ (y / 2 ^ ((j : Int) - 1 + 1).toNat) % M) := by
          unfold Hid
          rw [show ((j : Int) - 1 + 1).toNat = j from by omega, pow_even X y j hb, HR0.out, sq_emod]
        clear hb CB8 CB
        go_wp2_with fail
        refine C8.out.mono ?_
        rintro e w9 ⟨rfl, rfl⟩
        go_wp2_with fail
        exact ⟨⟨(j : Int) - 1, _, rfl, by omega, h2n, HN, O8, E8⟩, by simp [intOf]⟩
      · have CB8 := CB.out w8 E8.out HK.out.2.2.2.2 hjm
        rw [hb, show ((1 : Nat) : Int) = 1 from rfl] at CB8
        have C8 := hide CB8
        have HN : Hid (R * R % M * X % M = X ^ (y / 2 ^ ((j : Int) - 1 + 1).toNat) % M) := by
          unfold Hid
          rw [show ((j : Int) - 1 + 1).toNat = j from by omega, pow_odd X y j hb, HR0.out, sqx_emod]
        clear hb CB8 CB
        go_wp2_with fail
        refine C8.out.mono ?_
        rintro e w9 ⟨rfl, rfl⟩
        go_wp2_with fail
        refine (mul_int b1 b1 w.heap.size (R * R % M) X _ (O8.out.blk (i := 1) rfl) (O8.out.at_ 1 _ _ rfl) (O8.out.at_ 2 _ _ rfl) HSX.out.1 (by have := HK.out; omega) (by have := HSX.out; omega)).mono ?_
        rintro e w10 hr
        have E10 := hide (E8.out.kept (.of_grown hr.2.2 (O8.out.blk (i := 1) rfl)))
        obtain ⟨rfl, O⟩ := RetInt.own O8.out (i := 1) rfl hr
        simp only [List.set] at O
        have O10 := hide O
        clear O hr
        go_wp2_with fail
        refine (mod_int b1 b1 w3.heap.size (R * R % M * X) M w10 (O10.out.blk (i := 1) rfl) (O10.out.at_ 1 _ _ rfl) (O10.out.at_ 0 _ _ rfl) HSX.out.2 (by have := HK.out; omega) (by have := HK.out; omega)).mono ?_
        rintro e w11 hr
        have E11 := hide (E10.out.kept (.of_grown hr.2.2 (O10.out.blk (i := 1) rfl)))
        obtain ⟨rfl, O⟩ := RetInt.own O10.out (i := 1) rfl hr
        simp only [List.set] at O
        have O11 := hide O
        clear O hr
        go_wp2_with fail
        exact ⟨⟨(j : Int) - 1, _, rfl, by omega, h2n, HN, O11, E11⟩, by simp [intOf]⟩

set_option maxRecDepth 100000 in
set_option maxHeartbeats 3200000 in
theorem exp_nil (g p q : Nat) (X : Int) (y : Nat) (w : World) (hz : IntBlk w g) (hx : IntAt w p X) (hy : IntAt w q (y : Int)) (hyl : y < lim) (hK : ∀ k, k ≤ y → (X ^ k).natAbs < lim) (hXl : X.natAbs < lim) :
    Calls Tryd.prog 32 #[.pointer (some ⟨g, 0, none⟩), .pointer (some ⟨p, 0, none⟩), .pointer (some ⟨q, 0, none⟩), .pointer none] w (RetInt w g (X ^ y)) := by
  have O0 := hide ((Own.start w).new)
  obtain ⟨yn, yv, y0, y1, hyv, hys⟩ := hy.cells
  have yn0 : yn = false := by cases yn; rfl; have := hys.1 rfl; omega
  subst yn0
  have CS := hide (set_int w.heap.size p X _ (O0.out.blk (i := 0) rfl) (hx.below O0.out.bel) hXl)
  have HZ := hide hz
  have HY := hide hyv
  have HK := hide hK
  have HL : Hid (X.natAbs < lim ∧ y < lim) := ⟨hXl, hyl⟩
  have hql : q < w.heap.size := hy.lt
  have hn32 := blen_lim hyl
  clear hz hx hy hyl hK hXl hyv hys
  go_enter Tryd.func32, Tryd.ntmps32
  go_wp2_with fail
  refine CS.out.mono ?_
  rintro e w1 hr
  obtain ⟨rfl, O⟩ := RetInt.own O0.out (i := 0) rfl hr
  simp only [List.set] at O
  have O1 := hide O
  have y0' := (O.bel.cell (p := ⟨q, 0, none⟩) hql).trans y0
  clear O hr CS
  go_wp2_with fail
  refine (newInt_own O1.out 1 (by omega) (by omega)).mono ?_
  rintro e w2 ⟨b1, rfl, O⟩
  have O2 := hide O
  have y1' := (O.bel.cell (p := ⟨q, 1, none⟩) hql).trans y1
  have CT := hide (twin_any yv y w2 (HY.out.below O.bel) HL.out.2)
  clear O y0'
  go_wp2_with fail
  refine CT.out.mono ?_
  rintro e w5 ⟨ev, rfl, hev, hb⟩
  have O5 := hide (O2.out.below hb)
  have E5 := hide hev
  clear hev hb y1' CT
  have CL := hide (length_any ev y w5 E5.out HL.out.2)
  go_wp2_with fail
  refine CL.out.mono ?_
  rintro e w6 ⟨rfl, rfl⟩
  go_wp2_with fail
  have R0 : Hid (1 = X ^ (y / 2 ^ (((blen y : Nat) : Int) - 1 + 1).toNat)) := by
    unfold Hid
    rw [show (((blen y : Nat) : Int) - 1 + 1).toNat = blen y from by omega, Nat.div_eq_of_lt (lt_blen y), Int.pow_zero]
  go_loopw [14] (fun v wr => ∃ (i R : Int), v = .int .i64 i ∧ -1 ≤ i ∧ i < 32000 ∧ Hid (R = X ^ (y / 2 ^ (i + 1).toNat)) ∧ Hid (Own w wr [(b1, R), (w.heap.size, X)]) ∧ Hid (NatAt wr ev y)) (fun v _ => (intOf v + 1).toNat)
  case atStart => exact ⟨_, _, rfl, by omega, by omega, R0, O5, E5⟩
  case round =>
    clear R0 O5 E5 O2 O1 O0
    obtain ⟨i, R, rfl, hi0, hi1, HR, HO, HE⟩ := hrel
    have hRb : R.natAbs < lim := by rw [HR.out]; exact HK.out _ (Nat.div_le_self _ _)
    by_cases hi : i < 0
    · obtain rfl : i = -1 := by omega
      have HR2 : Hid (R = X ^ y) := by have := HR.out; rw [show ((-1 : Int) + 1).toNat = 0 from rfl, Nat.pow_zero, Nat.div_one] at this; exact this
      have hzr : IntBlk wr g := HZ.out.below HO.out.bel
      have CG := hide (set_int g b1 R wr hzr (HO.out.at_ 0 _ _ rfl) hRb)
      clear hi hi0 hi1 hRb hzr
      go_wp2_with fail
      refine CG.out.mono ?_
      rintro e w7 ⟨rfl, hi, hg⟩
      have HI := hide hi
      have HG := hide (grown_after HO.out.bel hg)
      clear hi hg
      go_wp2_with fail
      go_ret
      exact ⟨rfl, by rw [← HR2.out]; exact HI.out, HG.out⟩
    · obtain ⟨j, rfl⟩ : ∃ j : Nat, i = j := ⟨i.toNat, by omega⟩
      have hRM : R = X ^ (y / 2 ^ (j + 1)) := by have := HR.out; rwa [show ((j : Int) + 1).toNat = j + 1 from by omega] at this
      have HR0 := hide hRM
      have HRB := hide hRb
      have CB := hide (bit_any ev y j)
      have h2n : (j : Int) - 1 < 32000 := by omega
      have hjm : j < 1000000 := by omega
      have HSQ : Hid ((R * R).natAbs < lim) := by
        unfold Hid
        rw [hRM, ← Int.pow_add]
        refine HK.out _ (Nat.le_trans ?_ (Nat.div_le_self y (2 ^ j)))
        rw [Nat.pow_succ, ← Nat.div_div_eq_div_mul]
        omega
      clear hi hi0 hRM hRb
      go_wp2_with fail
      refine (mul_int b1 b1 b1 R R wr (HO.out.blk (i := 0) rfl) (HO.out.at_ 0 _ _ rfl) (HO.out.at_ 0 _ _ rfl) HRB.out HRB.out HSQ.out).mono ?_
      rintro e w8 hr
      have E8 := hide (HE.out.kept (.of_grown hr.2.2 (HO.out.blk (i := 0) rfl)))
      obtain ⟨rfl, O⟩ := RetInt.own HO.out (i := 0) rfl hr
      simp only [List.set] at O
      have O8 := hide O
      clear O hr
      rcases Nat.mod_two_eq_zero_or_one (y / 2 ^ j) with hb | hb
      · have CB8 := CB.out w8 E8.out HL.out.2 hjm
        rw [hb, show ((0 : Nat) : Int) = 0 from rfl] at CB8
        have C8 := hide CB8
        have HN : Hid (R * R = X ^ (y / 2 ^ ((j : Int) - 1 + 1).toNat)) := by
          unfold Hid
          rw [show ((j : Int) - 1 + 1).toNat = j from by omega, pow_even X y j hb, HR0.out]
        clear hb CB8 CB
        go_wp2_with fail
        refine C8.out.mono ?_
        rintro e w9 ⟨rfl, rfl⟩
        go_wp2_with fail
        exact ⟨⟨(j : Int) - 1, _, rfl, by omega, h2n, HN, O8, E8⟩, by simp [intOf]⟩
      · have CB8 := CB.out w8 E8.out HL.out.2 hjm
        rw [hb, show ((1 : Nat) : Int) = 1 from rfl] at CB8
        have C8 := hide CB8
        have HN : Hid (R * R * X = X ^ (y / 2 ^ ((j : Int) - 1 + 1).toNat)) := by
          unfold Hid
          rw [show ((j : Int) - 1 + 1).toNat = j from by omega, pow_odd X y j hb, HR0.out]
        have HNB : Hid ((R * R * X).natAbs < lim) := by
          unfold Hid
          rw [HN.out]
          exact HK.out _ (Nat.div_le_self _ _)
        clear hb CB8 CB
        go_wp2_with fail
        refine C8.out.mono ?_
        rintro e w9 ⟨rfl, rfl⟩
        go_wp2_with fail
        refine (mul_int b1 b1 w.heap.size (R * R) X _ (O8.out.blk (i := 0) rfl) (O8.out.at_ 0 _ _ rfl) (O8.out.at_ 1 _ _ rfl) HSQ.out HL.out.1 HNB.out).mono ?_
        rintro e w10 hr
        have E10 := hide (E8.out.kept (.of_grown hr.2.2 (O8.out.blk (i := 0) rfl)))
        obtain ⟨rfl, O⟩ := RetInt.own O8.out (i := 0) rfl hr
        simp only [List.set] at O
        have O10 := hide O
        clear O hr
        go_wp2_with fail
        exact ⟨⟨(j : Int) - 1, _, rfl, by omega, h2n, HN, O10, E10⟩, by simp [intOf]⟩
end Go.Proofs.YtpppnaljndhjcaaDoor
