/- The walks of arithmeticabig's Bit and Rsh (by one place), and of ProbablyPrime at what the program takes for a prime. Under the bounds that each names. -/
import Derived.Test.YtpppnaljndhjcaaDoorKRefC
import Derived.Test.YtpppnaljndhjcaaDoorK0
import Derived.Test.YtpppnaljndhjcaaDoorKPadD
import Derived.Deep.LoopGhost
namespace Go.Proofs.YtpppnaljndhjcaaDoor
open Go.RowKit

theorem small256 {z : Int} (h : z.natAbs ≤ 1000000000000000000) : z.natAbs + 1 < lim := lim_pow (k := 3) (by omega) (by omega)
theorem lim_sq {y : Nat} (h : y ≤ 1000000000000000000 * 1000000000000000000) : y + 1 < lim := lim_pow (k := 5) (Nat.lt_of_le_of_lt (Nat.succ_le_succ h) (by decide)) (by omega)
theorem lim256b : 1000000000000000000 * 1000000000000000000 + 1000000000000000000 + 1 < lim := lim_pow (k := 5) (by decide) (by omega)
theorem add_zero_base (g i : Nat) : (⟨g, 0, none⟩ : Addr).add i = ⟨g, i, none⟩ := by
  unfold Addr.add
  split
  · rename_i h0; subst h0; rfl
  · simp
theorem IntAt.nat {w : World} {g X : Nat} (h : IntAt w g (X : Int)) : ∃ v, w.cell? ⟨g, 0, none⟩ = some (.bool false) ∧ w.cell? ⟨g, 1, none⟩ = some v ∧ NatAt w v X := by
  obtain ⟨n, v, x0, x1, hv, hs⟩ := h.cells
  have : n = false := by
    cases n with
    | false => rfl
    | true => have := hs.1 rfl; omega
  subst this
  exact ⟨v, x0, x1, hv⟩

set_option maxRecDepth 100000 in
set_option maxHeartbeats 800000 in
theorem bit_int (p X i : Nat) (w : World) (hx : IntAt w p (X : Int)) (hX : X < lim) (hi : i < 1000000) :
    Calls Tryd.prog 30 #[.pointer (some ⟨p, 0, none⟩), .int .i64 i] w fun e w' => e = .returned (.int .u64 ((X / 2 ^ i % 2 : Nat) : Int)) ∧ w = w' := by
  obtain ⟨v, x0, x1, hv⟩ := hx.nat
  have C := hide (bit_any v X i w hv hX hi)
  have q0 : decide ((i : Int) < 0) = false := by simp
  obtain ⟨Y, hY⟩ : ∃ Y, X / 2 ^ i % 2 = Y := ⟨_, rfl⟩
  rw [hY] at C ⊢
  clear hx hX hv hY hi
  go_enter Tryd.func30, Tryd.ntmps30
  go_wp2_with fail
  refine C.out.mono ?_
  rintro e w1 ⟨rfl, rfl⟩
  go_wp2_with fail
  go_ret
  exact ⟨rfl, rfl⟩

set_option maxRecDepth 100000 in
set_option maxHeartbeats 800000 in
theorem rsh_int (g p X s : Nat) (w : World) (hz : IntBlk w g) (hx : IntAt w p (X : Int)) (hX : X < lim) (hs : s < 32) :
    Calls Tryd.prog 31 #[.pointer (some ⟨g, 0, none⟩), .pointer (some ⟨p, 0, none⟩), .int .u64 s] w (RetInt w g ((X / 2 ^ s : Nat) : Int)) := by
  obtain ⟨v, x0, x1, hv⟩ := hx.nat
  have C := hide (right_any v X s w hv hX hs)
  have HZ := hide hz
  have HX : Hid (X / 2 ^ s < lim) := Nat.lt_of_le_of_lt (Nat.div_le_self _ _) hX
  clear hx hX hv hz hs
  go_enter Tryd.func31, Tryd.ntmps31
  go_wp2_with fail
  refine C.out.mono ?_
  rintro e w1 ⟨v1, rfl, hv1, hb⟩
  have C2 := hide (give_any g (X / 2 ^ s) false v1 w1 (HZ.out.below hb) hv1 HX.out)
  have HG := hide (HZ.out.lt)
  have HB := hide hb
  clear hv1 hb
  go_wp2_with fail
  refine C2.out.mono ?_
  rintro e w2 ⟨rfl, h1, h2⟩
  go_wp2_with fail
  go_ret
  refine ⟨rfl, ?_, ?_⟩
  · have : toI false (X / 2 ^ s) = ((X / 2 ^ s : Nat) : Int) := by simp [toI]
    rw [this] at h1
    exact h1
  · have hb := HB.out
    exact ⟨h2.os.trans hb.os, h2.tape.trans hb.tape, h2.output.trans hb.output, Nat.le_trans hb.size h2.size, fun k hk hne => (h2.block k (Nat.lt_of_lt_of_le hk hb.size) hne).trans (hb.block k hk)⟩

/-- the twelve bases in memory -/
def basesI : List Int := [2, 3, 5, 7, 11, 13, 17, 19, 23, 29, 31, 37]
theorem basesI_get {i : Nat} (h : i < 12) : ∃ a, bases[i]? = some a ∧ basesI[i]? = some (a : Int) := by
  match i, h with
  | 0, _ => exact ⟨2, rfl, rfl⟩
  | 1, _ => exact ⟨3, rfl, rfl⟩
  | 2, _ => exact ⟨5, rfl, rfl⟩
  | 3, _ => exact ⟨7, rfl, rfl⟩
  | 4, _ => exact ⟨11, rfl, rfl⟩
  | 5, _ => exact ⟨13, rfl, rfl⟩
  | 6, _ => exact ⟨17, rfl, rfl⟩
  | 7, _ => exact ⟨19, rfl, rfl⟩
  | 8, _ => exact ⟨23, rfl, rfl⟩
  | 9, _ => exact ⟨29, rfl, rfl⟩
  | 10, _ => exact ⟨31, rfl, rfl⟩
  | 11, _ => exact ⟨37, rfl, rfl⟩
theorem basesI_new (W : World) : Ints (W.alloc (.cells #[.int .i64 2, .int .i64 3, .int .i64 5, .int .i64 7, .int .i64 11, .int .i64 13, .int .i64 17, .int .i64 19, .int .i64 23, .int .i64 29, .int .i64 31, .int .i64 37] 2)) (W.heap.size + 1) (some ⟨W.heap.size, 0, none⟩) basesI :=
  Ints.of_block (heap_alloc_new _ _) rfl

/-- what is known of a number that the program takes for a prime -/
theorem big_prime {n : Nat} (h : 100000000 < n) (hn : n ≤ 1000000000000000000) (hb : isB n = true) :
    (∀ a ∈ bases, a < n ∧ n % a ≠ 0 ∧ mrB n ((n - 1) / 2 ^ tz n) (tz n) a = true) ∧ 1 ≤ tz n ∧ tz n < 64 ∧ (∀ t, t < tz n → (n - 1) / 2 ^ t % 2 = 0) ∧ (n - 1) / 2 ^ tz n % 2 = 1 := by
  unfold isB at hb
  split at hb
  · cases hb
  · rename_i hh
    rw [if_neg (by omega)] at hb
    have hnh := not_hit_of (by simpa using hh : hitB n = false)
    have hnd : ∀ d, 2 ≤ d → d < 1000 → ¬ d ∣ n := fun d h1 h3 h4 => hnh ⟨d, h1, h3, by have := Nat.mul_le_mul (show d ≤ 999 by omega) (show d ≤ 999 by omega); omega, h4⟩
    obtain ⟨t1, t2, t3⟩ := tz_spec (n := n) (by omega) (by omega)
    have htz : 1 ≤ tz n := by
      rcases Nat.eq_zero_or_pos (tz n) with h0 | h0
      · rw [h0] at t2
        simp at t2
        exact (hnd 2 (by omega) (by omega) (Nat.dvd_of_mod_eq_zero (by omega))).elim
      · exact h0
    refine ⟨fun a ha => ?_, htz, t3, fun t ht => ?_, t2⟩
    · have hs := bases_small a ha
      unfold mrAll at hb
      rw [List.all_eq_true] at hb
      exact ⟨by omega, fun h0 => hnd a hs.1 (by omega) (Nat.dvd_of_mod_eq_zero h0), hb a ha⟩
    · obtain ⟨u, hu⟩ : ∃ u, tz n = t + 1 + u := ⟨tz n - (t + 1), by omega⟩
      have e : n - 1 = 2 ^ t * (2 * (2 ^ u * ((n - 1) / 2 ^ tz n))) := by
        conv => lhs; rw [t1]
        rw [hu, Nat.pow_add, Nat.pow_add, Nat.pow_one]
        generalize (n - 1) / (2 ^ t * 2 * 2 ^ u) = z
        grind
      rw [e, Nat.mul_div_cancel_left _ (Nat.two_pow_pos _), Nat.mul_mod_right]

theorem sqB_stop {n x : Nat} : sqB n 0 x = false := rfl

set_option maxRecDepth 100000 in
set_option maxHeartbeats 12800000 in
theorem prob_any (g n : Nat) (k : Int) (w : World) (hx : IntAt w g (n : Int)) (h : 100000000 < n) (hn : n ≤ 1000000000000000000) (hb : isB n = true) :
    Calls Tryd.prog 17 #[.pointer (some ⟨g, 0, none⟩), .int .i64 k] w fun e w' => e = .returned (.bool true) ∧ Below w.heap.size w w' := by
  obtain ⟨hba, htz1, htz2, hev, hod⟩ := big_prime h hn hb
  have HBA := hide hba
  have HEV := hide hev
  have HX := hide hx
  obtain ⟨s, hs⟩ : ∃ s, tz n = s := ⟨_, rfl⟩
  rw [hs] at HBA HEV htz1 htz2 hod
  have HOD := hide hod
  have HL : Hid ((n : Int).natAbs + 1 < lim ∧ ((n : Int) - 1).natAbs < lim ∧ ∀ m : Nat, m ≤ 1000000000000000000 → m < lim) := ⟨small256 (by omega), by have := small256 (z := (n : Int) - 1) (by omega); omega, fun m hm => by have := small256 (z := (m : Int)) (by omega); omega⟩
  have CS := fun W (hi : IntAt W g (n : Int)) => hide (sign_int g n W hi (by have := HL.out.1; omega))
  have hsg : ((n : Nat) : Int).sign = 1 := Int.sign_eq_one_of_pos (by omega)
  rw [hsg] at CS
  have O0 := hide (Own.start w)
  clear hba hev hod hs hsg hb hx
  go_enter Tryd.func17, Tryd.ntmps17
  go_wp2_with fail
  refine (CS _ HX.out).out.mono ?_
  rintro e w1 ⟨rfl, rfl⟩
  go_wp2_with fail
  refine (newInt_own O0.out 1 (by omega) (by omega)).mono ?_
  rintro e w1 ⟨g1, rfl, O⟩
  have CC := hide (cmp_int g g1 n 1 w1 (HX.out.below O.bel) (O.at_ 0 _ _ rfl) (by have := HL.out.1; omega) (by have := HL.out.2.2 1 (by omega); omega))
  unfold RetCmp at CC
  rw [show icmp (n : Int) 1 = 1 from by unfold icmp; rw [if_neg (by omega), if_pos (by omega)]] at CC
  have B1 := hide O.bel
  clear O
  go_wp2_with fail
  refine CC.out.mono ?_
  rintro e w2 ⟨rfl, hb⟩
  have B2 := hide (B1.out.trans (hb.mono B1.out.size))
  have HI := hide (basesI_new w2)
  obtain ⟨W, hW⟩ : ∃ W, w2.alloc (.cells #[.int .i64 2, .int .i64 3, .int .i64 5, .int .i64 7, .int .i64 11, .int .i64 13, .int .i64 17, .int .i64 19, .int .i64 23, .int .i64 29, .int .i64 31, .int .i64 37] 2) = W := ⟨_, rfl⟩
  have HWs : W.heap.size = w2.heap.size + 1 := by rw [← hW]; simp
  have BW : Hid (Below w.heap.size w W) := by rw [← hW]; exact B2.out.alloc B2.out.size _
  rw [hW, ← HWs] at HI
  have HXW := hide (HX.out.below BW.out)
  have HW := hide hW
  clear hb CC hW
  go_wp2_with fail
  rw [HW.out]
  go_loopg [29] 12 (fun J y wr => ∃ i : Nat, J = 12 - i ∧ y = .int .i64 i ∧ i ≤ 12 ∧ Hid (Below W.heap.size W wr))
  case atStart => exact ⟨0, rfl, rfl, by omega, Below.refl _ _⟩
  case round =>
    obtain ⟨i, hJ, rfl, hi, HB⟩ := hrel
    by_cases hi2 : i < 12
    · as_aux_lemma =>
      obtain ⟨a, ha, hai⟩ := basesI_get hi2
      obtain ⟨ad, hA, hab, hac⟩ := HI.out.cell i _ hai
      injection hA with hA
      subst hA
      have c1 := (HB.out.cell (p := (⟨w2.heap.size, 0, none⟩ : Addr).add i) (by rw [add_block]; exact hab)).trans hac
      rw [add_zero_base] at c1
      have hba := HBA.out a (List.mem_of_getElem? ha)
      have hbs := bases_small a (List.mem_of_getElem? ha)
      have O1 := hide (Own.of_below HB.out)
      have hmod : ((n : Int) % (a : Int)) = ((n % a : Nat) : Int) := by simp
      have hmz : n % a ≠ 0 := hba.2.1
      have hml : n % a ≤ 1000000000000000000 := Nat.le_trans (Nat.mod_le _ _) hn
      obtain ⟨R, hR⟩ : ∃ R, n % a = R := ⟨_, rfl⟩
      rw [hR] at hmod hmz hml
      have HM := hide hmod
      have HR : Hid (((R : Nat) : Int).sign = 1 ∧ R ≤ 1000000000000000000) := ⟨Int.sign_eq_one_of_pos (by omega), hml⟩
      have HA : Hid (2 ≤ a ∧ a ≤ 37 ∧ a < n) := ⟨hbs.1, hbs.2, hba.1⟩
      clear ha hai hab hac hba hbs hmod hmz hml hR
      go_wp2_with fail
      refine (newInt_own O1.out (a : Int) (by have := HA.out; omega) (by have := HA.out; omega)).mono ?_
      rintro e w3 ⟨g3, rfl, O⟩
      have CC := hide (cmp_int g g3 n a w3 (HXW.out.below O.bel) (O.at_ 0 _ _ rfl) (by have := HL.out.1; omega) (by have := HL.out.2.2 a (by have := HA.out; omega); omega))
      unfold RetCmp at CC
      rw [show icmp (n : Int) (a : Int) = 1 from by have := HA.out; unfold icmp; rw [if_neg (by omega), if_pos (by omega)]] at CC
      have O3 := hide O
      clear O c1
      go_wp2_with fail
      refine CC.out.mono ?_
      rintro e w4 ⟨rfl, hb⟩
      have O4 := hide (O3.out.below hb)
      clear hb CC
      go_wp2_with fail
      refine (newInt_own O4.out.new (a : Int) (by have := HA.out; omega) (by have := HA.out; omega)).mono ?_
      rintro e w5 ⟨g5, rfl, O⟩
      have O5 := hide O
      clear O
      go_wp2_with fail
      refine (mod_int w4.heap.size g g5 n a w5 (O5.out.blk (i := 1) rfl) (HXW.out.below O5.out.bel) (O5.out.at_ 0 _ _ rfl) HL.out.1 (by have := HL.out.2.2 a (by have := HA.out; omega); omega) (by have := HA.out; omega)).mono ?_
      rintro e w6 hr
      rw [HM.out] at hr
      obtain ⟨rfl, O⟩ := RetInt.own O5.out (i := 1) rfl hr
      simp only [List.set] at O
      have CS2 := hide (sign_int w4.heap.size R w6 (O.at_ 1 _ _ rfl) (by have := HL.out.2.2 R HR.out.2; omega))
      rw [HR.out.1] at CS2
      have O6 := hide O.bel
      clear O hr
      go_wp2_with fail
      refine CS2.out.mono ?_
      rintro e w7 ⟨rfl, rfl⟩
      go_wp2_with fail
      go_roundg (12 - (i + 1))
      case measure => omega
      case rel => exact ⟨i + 1, rfl, by simp, by omega, O6⟩
    · as_aux_lemma =>
      have O1 := hide (Own.of_below HB.out)
      have HN1 : Hid (((n - 1 : Nat) : Int) = (n : Int) - 1) := by unfold Hid; omega
      obtain rfl : i = 12 := by omega
      clear hi hi2 hJ
      go_wp2_with fail
      refine (newInt_own O1.out 1 (by omega) (by omega)).mono ?_
      rintro e w3 ⟨g3, rfl, O⟩
      have O3 := hide O.new
      clear O
      go_wp2_with fail
      refine (sub_int w3.heap.size g g3 n 1 _ (O3.out.blk (i := 0) rfl) (HXW.out.below O3.out.bel) (O3.out.at_ 1 _ _ rfl) (by have := HL.out.1; omega) (by have := HL.out.2.2 1 (by omega); omega) HL.out.2.1).mono ?_
      rintro e w4 hr
      obtain ⟨rfl, O⟩ := RetInt.own O3.out (i := 0) rfl hr
      simp only [List.set] at O
      have O4 := hide O.new
      clear O hr
      go_wp2_with fail
      refine (set_own O4.out 0 1 rfl rfl HL.out.2.1).mono ?_
      rintro e w5 ⟨rfl, O⟩
      simp only [List.set] at O
      rw [← HN1.out] at O
      have O5 := hide O
      clear O O3 O4
      go_wp2_with fail
      go_loopg [10, 11] s (fun J d y wr => ∃ (t gd : Nat), J = s - t ∧ d = .pointer (some ⟨gd, 0, none⟩) ∧ y = .int .i64 t ∧ t ≤ s ∧ Hid (Own W wr [(gd, (((n - 1) / 2 ^ t : Nat) : Int)), (w3.heap.size, ((n - 1 : Nat) : Int)), (g3, 1)]))
      case atStart => exact ⟨0, _, rfl, rfl, rfl, by omega, by rw [Nat.pow_zero, Nat.div_one]; exact O5⟩
      case round =>
        clear O5
        obtain ⟨t, gd, hJ, rfl, rfl, ht, HO⟩ := hrel
        have hDl : (n - 1) / 2 ^ t ≤ 1000000000000000000 := Nat.le_trans (Nat.div_le_self _ _) (by omega)
        have CB := hide (bit_int gd ((n - 1) / 2 ^ t) 0 wr (HO.out.at_ 0 _ _ rfl) (HL.out.2.2 _ hDl) (by omega))
        have qt : decide ((t : Int) < 1048576) = true := by rw [decide_eq_true_eq]; omega
        by_cases hts : t < s
        · rw [Nat.pow_zero, Nat.div_one, HEV.out t hts, show ((0 : Nat) : Int) = 0 from rfl] at CB
          have CR := hide (rsh_int wr.heap.size gd ((n - 1) / 2 ^ t) 1 _ (HO.out.new.blk (i := 0) rfl) (HO.out.new.at_ 1 _ _ rfl) (HL.out.2.2 _ hDl) (by omega))
          rw [Nat.div_div_eq_div_mul, ← Nat.pow_add, show ((1 : Nat) : Int) = 1 from rfl] at CR
          clear hDl
          go_wp2_with fail
          refine CB.out.mono ?_
          rintro e w6 ⟨rfl, rfl⟩
          go_wp2_with fail
          refine CR.out.mono ?_
          rintro e w7 hr
          obtain ⟨rfl, O⟩ := RetInt.own HO.out.new (i := 0) rfl hr
          simp only [List.set] at O
          have O7 := hide (O.sub [0, 2, 3] rfl (by decide))
          clear O hr
          go_wp2_with fail
          go_roundg (s - (t + 1))
          case measure => omega
          case rel => exact ⟨t + 1, _, rfl, rfl, by simp, by omega, O7⟩
        · obtain rfl : t = s := by omega
          rw [Nat.pow_zero, Nat.div_one, HOD.out, show ((0 : Nat) : Int) = 0 from rfl, show ((1 : Nat) : Int) = 1 from rfl] at CB
          obtain ⟨D, hD⟩ : ∃ D, (n - 1) / 2 ^ t = D := ⟨_, rfl⟩
          rw [hD] at HO hDl HBA
          have HDl := hide hDl
          clear hDl hD hJ hts
          go_wp2_with fail
          refine CB.out.mono ?_
          rintro e w6 ⟨rfl, rfl⟩
          have HO6 := HO
          clear HO CB
          go_wp2_with fail
          go_loopg [68] 12 (fun J y wr => ∃ i : Nat, J = 12 - i ∧ y = .int .i64 i ∧ i ≤ 12 ∧ Hid (Own W wr [(gd, (D : Int)), (w3.heap.size, ((n - 1 : Nat) : Int)), (g3, 1)]))
          case atStart => exact ⟨0, rfl, rfl, by omega, HO6⟩
          case round =>
            clear HO6
            obtain ⟨i, hJ, rfl, hi, HO⟩ := hrel
            by_cases hi2 : i < 12
            · obtain ⟨a, ha, hai⟩ := basesI_get hi2
              obtain ⟨ad, hA, hab, hac⟩ := HI.out.cell i _ hai
              injection hA with hA
              subst hA
              have c1 := (HO.out.bel.cell (p := (⟨w2.heap.size, 0, none⟩ : Addr).add i) (by rw [add_block]; exact hab)).trans hac
              rw [add_zero_base] at c1
              have hba := HBA.out a (List.mem_of_getElem? ha)
              have hbs := bases_small a (List.mem_of_getElem? ha)
              have HA : Hid (2 ≤ a ∧ a ≤ 37 ∧ a < n) := ⟨hbs.1, hbs.2, hba.1⟩
              have HMR : Hid (mrB n D t a = true) := hba.2.2
              have hpw : ((a : Int) ^ D % (n : Int)) = ((a ^ D % n : Nat) : Int) := by rw [Int.natCast_emod, Int.natCast_pow]
              have HPW := hide hpw
              have hyn : a ^ D % n < n := Nat.mod_lt _ (by omega)
              have HYN := hide hyn
              clear ha hai hab hac hba hbs hpw ht qt hyn
              go_wp2_with fail
              refine (newInt_own HO.out.new (a : Int) (by have := HA.out; omega) (by have := HA.out; omega)).mono ?_
              rintro e w7 ⟨g7, rfl, O⟩
              have O7 := hide O
              clear O c1
              go_wp2_with fail
              refine (exp_mod 1000000000000000000 wr.heap.size g7 gd g a n D w7 (O7.out.blk (i := 1) rfl) (O7.out.at_ 0 _ _ rfl) (O7.out.at_ 2 _ _ rfl) (HXW.out.below O7.out.bel) (by omega) (HL.out.2.2 D HDl.out) (by exact lim256b) (by have := HA.out; omega) (by omega)).mono ?_
              rintro e w8 hr
              rw [HPW.out] at hr
              obtain ⟨rfl, O⟩ := RetInt.own O7.out (i := 1) rfl hr
              simp only [List.set] at O
              have O8 := hide (O.sub [1, 2, 3, 4] rfl (by decide))
              clear O hr O7
              have hmr := HMR.out
              unfold mrB at hmr
              obtain ⟨Y, hY⟩ : ∃ Y, a ^ D % n = Y := ⟨_, rfl⟩
              have hyn := HYN.out
              rw [hY] at O8 hmr hyn
              have C1 := hide (cmp_own O8.out 0 3 rfl rfl (by have := HL.out.2.2 Y (by omega); omega) (by have := HL.out.2.2 1 (by omega); omega))
              clear hY
              by_cases hy1 : Y = 1
              · rw [show icmp (Y : Int) 1 = 0 from by rw [hy1]; rfl] at C1
                go_wp2_with fail
                refine C1.out.mono ?_
                rintro e w9 ⟨rfl, O⟩
                have O9 := hide (O.sub [1, 2, 3] rfl (by decide))
                clear O hmr hy1
                go_wp2_with fail
                go_roundg (12 - (i + 1))
                case measure => omega
                case rel => exact ⟨i + 1, rfl, by simp, by omega, O9⟩
              · have hi1 : icmp (Y : Int) 1 ≠ 0 := by unfold icmp; split <;> (try split) <;> omega
                obtain ⟨z1, hz1⟩ : ∃ z, icmp (Y : Int) 1 = z := ⟨_, rfl⟩
                rw [hz1] at C1 hi1
                have q1 : (z1 == 0) = false := by simpa using hi1
                clear hz1 hi1
                go_wp2_with fail
                refine C1.out.mono ?_
                rintro e w9 ⟨rfl, O⟩
                have O9 := hide O
                have C2 := hide (cmp_own O 0 2 rfl rfl (by have := HL.out.2.2 Y (by omega); omega) (by have := HL.out.2.2 (n - 1) (by omega); omega))
                clear O C1
                by_cases hy2 : Y = n - 1
                · rw [show icmp (Y : Int) ((n - 1 : Nat) : Int) = 0 from by rw [hy2]; unfold icmp; rw [if_neg (by omega), if_neg (by omega)]] at C2
                  go_wp2_with fail
                  refine C2.out.mono ?_
                  rintro e w10 ⟨rfl, O⟩
                  have O10 := hide (O.sub [1, 2, 3] rfl (by decide))
                  clear O hmr hy2
                  go_wp2_with fail
                  go_roundg (12 - (i + 1))
                  case measure => omega
                  case rel => exact ⟨i + 1, rfl, by simp, by omega, O10⟩
                · rw [if_neg (by omega)] at hmr
                  have HSQ := hide hmr
                  have hi1 : icmp (Y : Int) ((n - 1 : Nat) : Int) ≠ 0 := by unfold icmp; split <;> (try split) <;> omega
                  obtain ⟨z2, hz2⟩ : ∃ z, icmp (Y : Int) ((n - 1 : Nat) : Int) = z := ⟨_, rfl⟩
                  rw [hz2] at C2 hi1
                  have q2 : (z2 == 0) = false := by simpa using hi1
                  clear hz2 hi1 hmr hy1 hy2
                  go_wp2_with fail
                  refine C2.out.mono ?_
                  rintro e w10 ⟨rfl, O⟩
                  have O10 := hide O
                  clear O C2 O9
                  go_wp2_with fail
                  go_loopg [14, 15, 16] (t - 1) (fun J y b i wr => ∃ (m gy Y : Nat) (B : Bool), J = t - m ∧ y = .pointer (some ⟨gy, 0, none⟩) ∧ b = .bool B ∧ i = .int .i64 m ∧ 1 ≤ m ∧ m ≤ t ∧ Y < n ∧ Hid (B = false → sqB n (t - m) Y = true) ∧ Hid (Own W wr [(gy, (Y : Int)), (gd, (D : Int)), (w3.heap.size, ((n - 1 : Nat) : Int)), (g3, 1)]))
                  case atStart => exact ⟨1, _, Y, false, by omega, rfl, rfl, rfl, by omega, htz1, hyn, fun _ => HSQ.out, O10⟩
                  case round =>
                    clear O10 HSQ hyn
                    obtain ⟨m, gy, Y, B, hJ, rfl, rfl, rfl, hm1, hm2, hYn, HSQ, HO⟩ := hrel
                    cases B
                    · by_cases hmt : m < t
                      · have hsq := HSQ.out rfl
                        rw [show t - m = (t - (m + 1)) + 1 from by omega, sqB] at hsq
                        have hYY : (Y : Int) * (Y : Int) % (n : Int) = ((Y * Y % n : Nat) : Int) := by rw [Int.natCast_emod, Int.natCast_mul]
                        have hYb : Y * Y ≤ 1000000000000000000 * 1000000000000000000 := Nat.mul_le_mul (by omega) (by omega)
                        have HYb : Hid (((Y : Int) * (Y : Int)).natAbs + 1 < lim) := by
                          have h1 : ((Y : Int) * (Y : Int)).natAbs = Y * Y := by rw [← Int.natCast_mul]; rfl
                          unfold Hid
                          rw [h1]
                          exact lim_sq hYb
                        have hzn : Y * Y % n < n := Nat.mod_lt _ (by omega)
                        obtain ⟨Z, hZ⟩ : ∃ Z, Y * Y % n = Z := ⟨_, rfl⟩
                        rw [hZ] at hsq hYY hzn
                        have HYY := hide hYY
                        have HSQ2 : Hid (decide (Z = n - 1) = false → sqB n (t - (m + 1)) Z = true) := by
                          intro h1
                          rw [if_neg (by simpa using h1)] at hsq
                          exact hsq
                        have ON := HO.out.new.new
                        rw [World.size_alloc] at ON
                        have HON := hide ON
                        clear hYY hYb hZ hsq ON
                        go_wp2_with fail
                        refine (mul_own HON.out 0 2 2 rfl rfl rfl (by have := HL.out.2.2 Y (by omega); omega) (by have := HL.out.2.2 Y (by omega); omega) (by have := HYb.out; omega)).mono ?_
                        rintro e w11 ⟨rfl, O⟩
                        simp only [List.set] at O
                        have O11 := hide O
                        clear O
                        go_wp2_with fail
                        refine (mod_int wr.heap.size (wr.heap.size + 1) g ((Y : Int) * Y) n w11 (O11.out.blk (i := 1) rfl) (O11.out.at_ 0 _ _ rfl) (HXW.out.below O11.out.bel) HYb.out (by have := HL.out.1; omega) (by omega)).mono ?_
                        rintro e w12 hr
                        rw [HYY.out] at hr
                        obtain ⟨rfl, O⟩ := RetInt.own O11.out (i := 1) rfl hr
                        simp only [List.set] at O
                        have O12 := hide (O.sub [1, 3, 4, 5] rfl (by decide))
                        clear O hr O11
                        have C3 := hide (cmp_own O12.out 0 2 rfl rfl (by have := HL.out.2.2 Z (by omega); omega) (by have := HL.out.2.2 (n - 1) (by omega); omega))
                        have hz3 : (icmp (Z : Int) ((n - 1 : Nat) : Int) == 0) = decide (Z = n - 1) := by
                          unfold icmp
                          by_cases h1 : Z = n - 1
                          · rw [if_neg (by omega), if_neg (by omega)]; simp [h1]
                          · have h2 : decide (Z = n - 1) = false := by simpa using h1
                            rw [h2]
                            split
                            · rfl
                            · rw [if_pos (by omega)]; rfl
                        obtain ⟨z3, hz⟩ : ∃ z, icmp (Z : Int) ((n - 1 : Nat) : Int) = z := ⟨_, rfl⟩
                        rw [hz] at C3 hz3
                        obtain ⟨B3, hB3⟩ : ∃ B, decide (Z = n - 1) = B := ⟨_, rfl⟩
                        rw [hB3] at hz3 HSQ2
                        clear hz hB3
                        go_wp2_with fail
                        refine C3.out.mono ?_
                        rintro e w13 ⟨rfl, O⟩
                        have O13 := hide O
                        clear O
                        go_wp2_with fail
                        go_roundg (t - (m + 1))
                        case measure => omega
                        case rel => exact ⟨m + 1, _, Z, B3, rfl, rfl, rfl, by simp, by omega, by omega, hzn, HSQ2, O13⟩
                      · exfalso
                        have hsq := HSQ.out rfl
                        rw [show t - m = 0 from by omega, sqB_stop] at hsq
                        cases hsq
                    · have O13 := hide (HO.out.sub [1, 2, 3] rfl (by decide))
                      have hJ2 := hJ
                      by_cases hmt : m < t
                      · go_wp2_with fail
                        go_roundg (12 - (i + 1))
                        case measure => omega
                        case rel => exact ⟨i + 1, rfl, by simp, by omega, O13⟩
                      · go_wp2_with fail
                        go_roundg (12 - (i + 1))
                        case measure => omega
                        case rel => exact ⟨i + 1, rfl, by simp, by omega, O13⟩
            · obtain rfl : i = 12 := by omega
              have HF := hide (BW.out.trans (HO.out.bel.mono BW.out.size))
              clear hJ hi hi2
              go_wp2_with fail
              go_ret
              exact ⟨rfl, HF.out⟩
end Go.Proofs.YtpppnaljndhjcaaDoor
