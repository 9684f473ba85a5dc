/- bits.Div64 and bits.Rem64: under the bounds of uint64, the high word below the divisor. -/
import Derived.Test.YtpppnaljndhjcaaDoorK0
import Derived.Test.YtpppnaljndhjcaaDoorKShelf
import Derived.Deep.DeepCutAuto
import Derived.Deep.CutBlock
namespace Go.Proofs.YtpppnaljndhjcaaDoor
open Go.RowKit

theorem or_shl {hi lo s : Nat} (hs : s ≤ 63) (h : hi * 2 ^ s < 18446744073709551616) (hlo : lo < 18446744073709551616) :
    bits .or .u64 ((hi * 2 ^ s : Nat) : Int) ((lo : Int) / 2 ^ (64 - s)) = ((hi * 2 ^ s + lo / 2 ^ (64 - s) : Nat) : Int) := by
  have e : ((lo : Int) / 2 ^ (64 - s)) = ((lo / 2 ^ (64 - s) : Nat) : Int) := by rw [Int.natCast_ediv, Int.natCast_pow]; rfl
  have hpp : 2 ^ s * 2 ^ (64 - s) = 18446744073709551616 := by rw [← Nat.pow_add, show s + (64 - s) = 64 from by omega]
  have hq : lo / 2 ^ (64 - s) < 2 ^ s := by
    rw [Nat.div_lt_iff_lt_mul (Nat.pow_pos (by omega)), hpp]; exact hlo
  rw [e, bits_or_u64_nat _ _ h (Nat.lt_of_le_of_lt (Nat.div_le_self _ _) hlo)]
  rw [Nat.mul_comm, Nat.two_pow_add_eq_or_of_lt hq]

theorem emod_form (u y1 : Nat) : (u : Int) - (u : Int) / (y1 : Int) * (y1 : Int) = ((u % y1 : Nat) : Int) := by
  rw [Int.natCast_emod]
  have := Int.emod_add_mul_ediv (u : Int) (y1 : Int)
  rw [Int.mul_comm] at this
  omega

theorem wrap_sub_nat {a b c : Nat} (h : a = b + c) (hc : c < 18446744073709551616) :
    IntKind.u64.wrap (IntKind.u64.wrap (a : Int) - IntKind.u64.wrap (b : Int)) = (c : Int) := by
  rw [IntKind.wrap_u64, IntKind.wrap_u64, IntKind.wrap_u64]; omega
theorem wrap_rest {u n T Y : Nat} (hT : T = (u * 4294967296 + n) / Y) (hY : 0 < Y) (hY2 : Y < 18446744073709551616) :
    IntKind.u64.wrap (IntKind.u64.wrap (IntKind.u64.wrap ((u : Int) * 4294967296) + (n : Int)) - IntKind.u64.wrap ((T : Int) * (Y : Int))) = (((u * 4294967296 + n) % Y : Nat) : Int) := by
  have e : u * 4294967296 + n = T * Y + (u * 4294967296 + n) % Y := by
    rw [hT, Nat.mul_comm _ Y]; exact (Nat.div_add_mod _ _).symm
  have hl := Nat.mod_lt (u * 4294967296 + n) hY
  have h := wrap_sub_nat e (by omega)
  rw [← Int.natCast_mul]
  have e2 : IntKind.u64.wrap (IntKind.u64.wrap ((u : Int) * 4294967296) + (n : Int)) = IntKind.u64.wrap ((u * 4294967296 + n : Nat) : Int) := by
    rw [IntKind.wrap_u64, IntKind.wrap_u64, IntKind.wrap_u64]; omega
  rw [e2]; exact h

theorem congr_tuple2 {a b c d : Value} (h : a = c) (k : b = d) : Value.tuple #[a, b] = Value.tuple #[c, d] := by rw [h, k]
theorem wrap_quo {a b c : Nat} (h : a * 4294967296 + b = c) (hc : c < 18446744073709551616) :
    Value.int IntKind.u64 (IntKind.u64.wrap (IntKind.u64.wrap ((a : Int) * 4294967296) + (b : Int))) = .int .u64 (c : Int) := by
  rw [IntKind.wrap_u64, IntKind.wrap_u64]; exact congrArg (Value.int .u64) (by omega)
theorem wrap_rem {R n T Y s c : Nat} (hT : T = (R * 4294967296 + n) / Y) (hY : 0 < Y) (hY2 : Y < 18446744073709551616) (hc : (R * 4294967296 + n) % Y / 2 ^ s = c) :
    Value.int IntKind.u64 (IntKind.u64.wrap (IntKind.u64.wrap (IntKind.u64.wrap ((R : Int) * 4294967296) + (n : Int)) - IntKind.u64.wrap ((T : Int) * (Y : Int))) / 2 ^ s) = .int .u64 (c : Int) := by
  rw [wrap_rest hT hY hY2, ← hc, Int.natCast_ediv, Int.natCast_pow]; rfl

set_option maxRecDepth 100000 in
set_option maxHeartbeats 4000000 in
theorem div64_zero (lo y : Nat) (w : World) (hy : 0 < y) (hy2 : y < 18446744073709551616) (hlo : lo < 18446744073709551616) :
    Calls Tryd.prog 53 #[.int .u64 0, .int .u64 lo, .int .u64 y] w fun e w' => e = .returned (.tuple #[.int .u64 ((lo / y : Nat) : Int), .int .u64 ((lo % y : Nat) : Int)]) ∧ ∃ n, w' = w.drewN n := by
  have h1 : ((y : Int) == 0) = false := by simp; omega
  have h2 : decide ((y : Int) ≤ 0) = false := by simp; omega
  have h3 : (y : Int) ≠ 0 := by omega
  go_enter Tryd.func53, Tryd.ntmps53
  go_wp2
  go_quiet (fail)
  go_wp2
  go_ret2
  refine ⟨?_, nq, rfl⟩
  rw [show IntKind.u64.wrap ((lo : Int) / (y : Int)) = ((lo / y : Nat) : Int) from by rw [← Int.natCast_ediv]; exact wrap_u64_nat _ (Nat.lt_of_le_of_lt (Nat.div_le_self _ _) hlo)]
  exact rfl

theorem bitLen_bounds (y : Nat) (h0 : 0 < y) (h1 : y < 18446744073709551616) : ∃ k, Lib.bitLen y = k + 1 ∧ k < 64 ∧ 2 ^ k ≤ y ∧ y < 2 ^ (k + 1) := by
  have hl : 2 ^ Nat.log2 y ≤ y := Nat.log2_self_le (by omega)
  have hu : y < 2 ^ (Nat.log2 y + 1) := Nat.lt_log2_self
  have hk : Nat.log2 y < 64 := (Nat.log2_lt (by omega)).2 h1
  have hd : y / 2 ^ Nat.log2 y = 1 := by
    have hp : 0 < 2 ^ Nat.log2 y := Nat.pow_pos (by omega)
    apply Nat.le_antisymm
    · apply Nat.le_of_lt_succ
      rw [Nat.div_lt_iff_lt_mul hp, Nat.mul_comm, ← Nat.pow_succ]; exact hu
    · rw [Nat.le_div_iff_mul_le hp]; omega
  refine ⟨Nat.log2 y, ?_, hk, hl, hu⟩
  rw [Lib.bitLen_shift _ _ hl h1, hd]
  rfl
theorem lz_any (y : Nat) (h0 : 0 < y) (h1 : y < 18446744073709551616) :
    ∃ s : Nat, s ≤ 63 ∧ 9223372036854775808 ≤ y * 2 ^ s ∧ y * 2 ^ s < 18446744073709551616 ∧
      ∀ w : World, Calls Tryd.prog 62 #[.int .u64 y] w fun e w' => e = .returned (.int .i64 (s : Int)) ∧ w = w' := by
  obtain ⟨k, hk, hlt, h2, h3⟩ := bitLen_bounds y h0 h1
  have e1 : 2 ^ k * 2 ^ (63 - k) = 9223372036854775808 := by rw [← Nat.pow_add, show k + (63 - k) = 63 from by omega]
  have e2 : 2 ^ (k + 1) * 2 ^ (63 - k) = 18446744073709551616 := by rw [← Nat.pow_add, show k + 1 + (63 - k) = 64 from by omega]
  have hp : 0 < 2 ^ (63 - k) := Nat.pow_pos (by omega)
  refine ⟨63 - k, by omega, ?_, ?_, fun w => ?_⟩
  · rw [← e1]; exact Nat.mul_le_mul_right _ h2
  · rw [← e2]; exact Nat.mul_lt_mul_of_pos_right h3 hp
  · refine (Tryd.bits_LeadingZeros64 (y : Int) w (by omega) (by omega)).mono fun e w' ⟨he, hw⟩ => ⟨?_, hw.symm⟩
    rw [he, Int.toNat_natCast, hk]
    exact ret_int (by omega)

set_option maxRecDepth 100000 in
set_option maxHeartbeats 4000000 in
theorem div64_pos (hi lo y : Nat) (w : World) (hh : 0 < hi) (hy : hi < y) (hy2 : y < 18446744073709551616) (hlo : lo < 18446744073709551616) :
    Calls Tryd.prog 53 #[.int .u64 hi, .int .u64 lo, .int .u64 y] w fun e w' => e = .returned (.tuple #[.int .u64 (((hi * 18446744073709551616 + lo) / y : Nat) : Int), .int .u64 (((hi * 18446744073709551616 + lo) % y : Nat) : Int)]) ∧ w = w' := by
  have h1 : ((y : Int) == 0) = false := by simp; omega
  have h2 : decide (y ≤ hi) = false := by simp; omega
  have h3 : ((hi : Int) == 0) = false := by simp; omega
  obtain ⟨s, hs, hs1, hs2, hlz⟩ := lz_any y (by omega) hy2
  have HL := Lib.hid hlz
  have H1 := Lib.hid hs1
  have H2 := Lib.hid hs2
  clear hlz hs1 hs2
  go_enter Tryd.func53, Tryd.ntmps53
  go_upto_region 14 with (go_at_call 62; refine (HL.out _).mono ?_; rintro e w' ⟨rfl, rfl⟩)
  go_cut [2, 8, 9, 10, 11, 13, 14] (fun a2 a8 a9 a10 a11 a13 a14 wx => ∃ Y y1 y0 u n1 n0 : Nat, Ar.Dn hi lo y s Y y1 y0 u n1 n0 ∧ a2 = .int .u64 Y ∧ a8 = .int .u64 s ∧ a9 = .int .u64 y1 ∧ a10 = .int .u64 y0 ∧ a11 = .int .u64 u ∧ a13 = .int .u64 n1 ∧ a14 = .int .u64 n0 ∧ wx = w)
  case first =>
    go_wp2_with fail
    go_meet
    have hD := Ar.Dn.make hs hy hlo H1.out H2.out
    have e1 : (hi : Nat) * 2 ^ s < 18446744073709551616 := Nat.lt_of_le_of_lt (Nat.mul_le_mul_right _ (Nat.le_of_lt hy)) H2.out
    refine ⟨_, _, _, _, _, _, hD, ?_, rfl, ?_, ?_, ?_, ?_, ?_, rfl⟩
    · rw [wrap_shl _ _ H2.out]
    · rw [wrap_shl _ _ H2.out]; exact congrArg (Value.int .u64) (by omega)
    · rw [wrap_shl _ _ H2.out, bits_mask32 _ H2.out]
    · rw [wrap_shl _ _ e1, or_shl hs e1 hlo]
    · rw [wrap_shl_any]; exact congrArg (Value.int .u64) (by omega)
    · rw [wrap_shl_any, bits_mask32 _ (by omega)]
  case rest =>
    obtain ⟨Y, y1, y0, u, n1, n0, hD, rfl, rfl, rfl, rfl, rfl, rfl, rfl, hww⟩ := hcut
    subst hww
    have d1 := hD.y1ge
    have d2 := hD.y1lt
    have d3 := hD.y0lt
    have d4 := hD.n1lt
    have d5 := hD.n0lt
    have D := Lib.hid hD
    clear hD
    have hYp : 0 < Y := by have := D.out.Yd; omega
    have d6 : u < 18446744073709551616 := by have := D.out.ult; have := D.out.Yd; omega
    have d7 : Y < 18446744073709551616 := by have := D.out.Yd; omega
    have q1 : 0 ≤ (u : Int) / (y1 : Int) * (y1 : Int) := by
      have := Int.mul_nonneg (Int.ediv_nonneg (a := (u : Int)) (b := (y1 : Int)) (by omega) (by omega)) (show (0 : Int) ≤ y1 by omega)
      exact this
    have q2 : (u : Int) / (y1 : Int) * (y1 : Int) ≤ u := Int.ediv_mul_le _ (by omega)
    have q3 : (u : Int) / (y1 : Int) ≤ u := Int.ediv_le_self _ (by omega)
    have q4 : 0 ≤ (u : Int) / (y1 : Int) := Int.ediv_nonneg (by omega) (by omega)
    obtain ⟨T, hT⟩ : ∃ T, T = (u * 4294967296 + n1) / Y := ⟨_, rfl⟩
    have HT := Lib.hid hT
    clear hT
    go_upto_block 0 with (fail)
    go_cut [15] (fun aq wx => aq = .int .u64 (T : Int) ∧ wx = wc)
    case first =>
      go_wp2_with fail
      go_loop [15, 16] (fun aq ar => ∃ q r : Nat, Ar.GuessAt Y y1 y0 u n1 T q r ∧ r < 4294967296 ∧ q ≤ 4294967297 ∧ aq = .int .u64 q ∧ ar = .int .u64 r) (fun aq _ => (intOf aq).toNat)
      case atStart =>
        have g0 := Ar.Guess.start D.out.Yd D.out.y0lt D.out.y1ge D.out.ult D.out.n1lt
        exact ⟨u / y1, u % y1, ⟨g0, HT.out, D.out.Yd, D.out.y0lt, D.out.y1ge, D.out.ult, D.out.n1lt⟩, by have := Nat.mod_lt u (show y1 > 0 by omega); omega, g0.le, rfl, by rw [← emod_form]⟩
      case round =>
        obtain ⟨q, r, hg, hr, hqle, rfl, rfl⟩ := hrel
        have G := Lib.hid hg
        clear hg
        have p1 : 0 ≤ (q : Int) * (y0 : Int) := Int.mul_nonneg (by omega) (by omega)
        have p2 : (q : Int) * (y0 : Int) ≤ 18446744073709551615 := Int.le_trans (Int.mul_le_mul (c := 4294967297) (d := 4294967295) (by omega) (by omega) (by omega) (by omega)) (by omega)
        have hz0 : ∀ b, b = decide ((4294967296 : Int) ≤ (r : Int) + (y1 : Int)) → (b = true → 4294967296 ≤ r + y1) ∧ (b = false → r + y1 < 4294967296) := by
          intro b e; subst e; rw [decide_eq_true_eq, decide_eq_false_iff_not]; omega
        have hb0 : ∀ b, b = decide ((4294967296 : Int) ≤ (q : Int)) → (b = true → 4294967296 ≤ q) ∧ (b = false → q < 4294967296) := by
          intro b e; subst e; rw [decide_eq_true_eq, decide_eq_false_iff_not]; omega
        have ht0 : ∀ b, b = decide ((4294967296 : Int) * (r : Int) + (n1 : Int) < (q : Int) * (y0 : Int)) → (b = true → 4294967296 * r + n1 < q * y0) ∧ (b = false → ¬ 4294967296 * r + n1 < q * y0) := by
          intro b e; subst e
          rw [decide_eq_true_eq, decide_eq_false_iff_not, ← Int.natCast_mul]; omega
        have HZ := hide (hz0 _ rfl)
        have HB := hide (hb0 _ rfl)
        have HT := hide (ht0 _ rfl)
        clear hz0 hb0 ht0
        cases hb : decide ((4294967296 : Int) ≤ (q : Int))
        · cases ht : decide ((4294967296 : Int) * (r : Int) + (n1 : Int) < (q : Int) * (y0 : Int))
          · have HS := hide (G.out.out (HT.out.2 ht))
            go_wp2_with fail
            go_meet
            exact ⟨congrArg (Value.int .u64) (by have := HS.out; omega), rfl⟩
          · have hl := G.out.lt_of (.inr (HT.out.1 ht))
            have hq1 : 1 ≤ q := by omega
            have HD := hide (G.out.down (.inr (HT.out.1 ht)))
            clear hl
            cases hz : decide ((4294967296 : Int) ≤ (r : Int) + (y1 : Int))
            · go_wp2_with fail
              go_round
              case rel => exact ⟨q - 1, r + y1, HD.out, HZ.out.2 hz, by omega, by go_num, by go_num⟩
              case measure => simp [intOf]; omega
            · have HS := hide (G.out.stop (.inr (HT.out.1 ht)) (HZ.out.1 hz))
              go_wp2_with fail
              go_meet
              exact ⟨congrArg (Value.int .u64) (by have := HS.out; omega), rfl⟩
        · have hl := G.out.lt_of (.inl (HB.out.1 hb))
          have hq1 : 1 ≤ q := by omega
          have HD := hide (G.out.down (.inl (HB.out.1 hb)))
          clear hl
          cases hz : decide ((4294967296 : Int) ≤ (r : Int) + (y1 : Int))
          · go_wp2_with fail
            go_round
            case rel => exact ⟨q - 1, r + y1, HD.out, HZ.out.2 hz, by omega, by go_num, by go_num⟩
            case measure => simp [intOf]; omega
          · have HS := hide (G.out.stop (.inl (HB.out.1 hb)) (HZ.out.1 hz))
            go_wp2_with fail
            go_meet
            exact ⟨congrArg (Value.int .u64) (by have := HS.out; omega), rfl⟩
    case rest =>
      obtain ⟨rfl, hww⟩ := hcut
      subst hww
      go_upto_region 21 with (fail)
      go_cut [17] (fun a wx => ∃ R : Nat, R = (u * 4294967296 + n1) % Y ∧ a = .int .u64 R ∧ wx = wc)
      case first =>
        go_wp2_with fail
        go_meet
        exact ⟨_, rfl, congrArg (Value.int .u64) (wrap_rest HT.out hYp d7), rfl⟩
      case rest =>
        obtain ⟨R, hRR, rfl, hww⟩ := hcut
        subst hww
        obtain ⟨wd, hwd⟩ : ∃ wd : World, wd = wc := ⟨_, rfl⟩
        subst hwd
        have HR := Lib.hid hRR
        clear hRR
        have hR : R < Y := by rw [HR.out]; exact Nat.mod_lt _ hYp
        have d8 : R < 18446744073709551616 := by omega
        have q5 : 0 ≤ (R : Int) / (y1 : Int) * (y1 : Int) := Int.mul_nonneg (Int.ediv_nonneg (a := (R : Int)) (b := (y1 : Int)) (by omega) (by omega)) (show (0 : Int) ≤ y1 by omega)
        have q6 : (R : Int) / (y1 : Int) * (y1 : Int) ≤ R := Int.ediv_mul_le _ (by omega)
        have q7 : (R : Int) / (y1 : Int) ≤ R := Int.ediv_le_self _ (by omega)
        have q8 : 0 ≤ (R : Int) / (y1 : Int) := Int.ediv_nonneg (by omega) (by omega)
        obtain ⟨T2, hT2⟩ : ∃ T, T = (R * 4294967296 + n0) / Y := ⟨_, rfl⟩
        have HT2 := Lib.hid hT2
        clear hT2
        go_upto_block 2 with (fail)
        go_cut [18] (fun aq wx => aq = .int .u64 (T2 : Int) ∧ wx = wd)
        case first =>
          go_wp2_with fail
          go_loop [18, 16] (fun aq ar => ∃ q r : Nat, Ar.GuessAt Y y1 y0 R n0 T2 q r ∧ r < 4294967296 ∧ q ≤ 4294967297 ∧ aq = .int .u64 q ∧ ar = .int .u64 r) (fun aq _ => (intOf aq).toNat)
          case atStart =>
            have g0 := Ar.Guess.start D.out.Yd D.out.y0lt D.out.y1ge hR D.out.n0lt
            exact ⟨R / y1, R % y1, ⟨g0, HT2.out, D.out.Yd, D.out.y0lt, D.out.y1ge, hR, D.out.n0lt⟩, by have := Nat.mod_lt R (show y1 > 0 by omega); omega, g0.le, rfl, by rw [← emod_form]⟩
          case round =>
            obtain ⟨q, r, hg, hr, hqle, rfl, rfl⟩ := hrel
            have G := Lib.hid hg
            clear hg
            have p1 : 0 ≤ (q : Int) * (y0 : Int) := Int.mul_nonneg (by omega) (by omega)
            have p2 : (q : Int) * (y0 : Int) ≤ 18446744073709551615 := Int.le_trans (Int.mul_le_mul (c := 4294967297) (d := 4294967295) (by omega) (by omega) (by omega) (by omega)) (by omega)
            have hz0 : ∀ b, b = decide ((4294967296 : Int) ≤ (r : Int) + (y1 : Int)) → (b = true → 4294967296 ≤ r + y1) ∧ (b = false → r + y1 < 4294967296) := by
              intro b e; subst e; rw [decide_eq_true_eq, decide_eq_false_iff_not]; omega
            have hb0 : ∀ b, b = decide ((4294967296 : Int) ≤ (q : Int)) → (b = true → 4294967296 ≤ q) ∧ (b = false → q < 4294967296) := by
              intro b e; subst e; rw [decide_eq_true_eq, decide_eq_false_iff_not]; omega
            have ht0 : ∀ b, b = decide ((4294967296 : Int) * (r : Int) + (n0 : Int) < (q : Int) * (y0 : Int)) → (b = true → 4294967296 * r + n0 < q * y0) ∧ (b = false → ¬ 4294967296 * r + n0 < q * y0) := by
              intro b e; subst e
              rw [decide_eq_true_eq, decide_eq_false_iff_not, ← Int.natCast_mul]; omega
            have HZ := hide (hz0 _ rfl)
            have HB := hide (hb0 _ rfl)
            have HT := hide (ht0 _ rfl)
            clear hz0 hb0 ht0
            cases hb : decide ((4294967296 : Int) ≤ (q : Int))
            · cases ht : decide ((4294967296 : Int) * (r : Int) + (n0 : Int) < (q : Int) * (y0 : Int))
              · have HS := hide (G.out.out (HT.out.2 ht))
                go_wp2_with fail
                go_meet
                exact ⟨congrArg (Value.int .u64) (by have := HS.out; omega), rfl⟩
              · have hl := G.out.lt_of (.inr (HT.out.1 ht))
                have hq1 : 1 ≤ q := by omega
                have HD := hide (G.out.down (.inr (HT.out.1 ht)))
                clear hl
                cases hz : decide ((4294967296 : Int) ≤ (r : Int) + (y1 : Int))
                · go_wp2_with fail
                  go_round
                  case rel => exact ⟨q - 1, r + y1, HD.out, HZ.out.2 hz, by omega, by go_num, by go_num⟩
                  case measure => simp [intOf]; omega
                · have HS := hide (G.out.stop (.inr (HT.out.1 ht)) (HZ.out.1 hz))
                  go_wp2_with fail
                  go_meet
                  exact ⟨congrArg (Value.int .u64) (by have := HS.out; omega), rfl⟩
            · have hl := G.out.lt_of (.inl (HB.out.1 hb))
              have hq1 : 1 ≤ q := by omega
              have HD := hide (G.out.down (.inl (HB.out.1 hb)))
              clear hl
              cases hz : decide ((4294967296 : Int) ≤ (r : Int) + (y1 : Int))
              · go_wp2_with fail
                go_round
                case rel => exact ⟨q - 1, r + y1, HD.out, HZ.out.2 hz, by omega, by go_num, by go_num⟩
                case measure => simp [intOf]; omega
              · have HS := hide (G.out.stop (.inl (HB.out.1 hb)) (HZ.out.1 hz))
                go_wp2_with fail
                go_meet
                exact ⟨congrArg (Value.int .u64) (by have := HS.out; omega), rfl⟩
        case rest =>
          obtain ⟨rfl, hww⟩ := hcut
          subst hww
          go_wp2_with fail
          go_ret2
          have hq := D.out.quo
          have hr := D.out.rem
          rw [← HR.out, ← HT.out, ← HT2.out] at hq
          rw [← HR.out] at hr
          have hlt : (hi * 18446744073709551616 + lo) / y < 18446744073709551616 := by
            rw [Nat.div_lt_iff_lt_mul (by omega)]
            have := Nat.mul_le_mul_left 18446744073709551616 hy
            omega
          refine ⟨?_, rfl⟩
          exact congrArg Ending.returned (congr_tuple2 (wrap_quo hq hlt) (wrap_rem HT2.out hYp d7 hr))
theorem div64_any (hi lo y : Nat) (w : World) (hy : hi < y) (hy2 : y < 18446744073709551616) (hlo : lo < 18446744073709551616) :
    Calls Tryd.prog 53 #[.int .u64 hi, .int .u64 lo, .int .u64 y] w fun e w' => e = .returned (.tuple #[.int .u64 (((hi * 18446744073709551616 + lo) / y : Nat) : Int), .int .u64 (((hi * 18446744073709551616 + lo) % y : Nat) : Int)]) ∧ ∃ n, w' = w.drewN n := by
  rcases Nat.eq_zero_or_pos hi with h | h
  · subst h
    simpa using div64_zero lo y w hy hy2 hlo
  · exact (div64_pos hi lo y w h hy hy2 hlo).mono fun _ _ ⟨he, hw⟩ => ⟨he, 0, by rw [← hw]; rfl⟩

theorem rem_fold (hi lo y : Nat) : (hi % y * 18446744073709551616 + lo) % y = (hi * 18446744073709551616 + lo) % y := by
  have hd := Nat.div_add_mod hi y
  have e : hi * 18446744073709551616 + lo = (hi % y * 18446744073709551616 + lo) + y * (hi / y * 18446744073709551616) := by
    generalize hi % y = b at *
    generalize hi / y = a at *
    subst hd
    rw [Nat.add_mul, Nat.mul_assoc]
    generalize y * (a * 18446744073709551616) = c
    omega
  exact ((congrArg (fun z => z % y) e).trans (Nat.add_mul_mod_self_left _ _ _)).symm

set_option maxRecDepth 100000 in
set_option maxHeartbeats 400000 in
theorem rem64_any (hi lo y : Nat) (w : World) (h0 : 0 < y) (hy2 : y < 18446744073709551616) (hhi : hi < 18446744073709551616) (hlo : lo < 18446744073709551616) :
    Calls Tryd.prog 36 #[.int .u64 hi, .int .u64 lo, .int .u64 y] w fun e w' => e = .returned (.int .u64 (((hi * 18446744073709551616 + lo) % y : Nat) : Int)) ∧ ∃ n, w' = w.drewN n := by
  have h1 : (y : Int) ≠ 0 := by omega
  have hm := Nat.mod_lt hi h0
  have C := hide (div64_any (hi % y) lo y w hm hy2 hlo)
  go_enter Tryd.func36, Tryd.ntmps36
  go_wp2_with fail
  rw [← Int.natCast_emod]
  refine C.out.mono ?_
  rintro e w' ⟨rfl, n, rfl⟩
  go_wp2_with fail
  go_ret
  refine ⟨ret_int ?_, n, rfl⟩
  rw [← rem_fold, Int.natCast_emod (hi % y * 18446744073709551616 + lo) y, Int.natCast_add, Int.natCast_mul, Int.natCast_emod hi y]
  rfl
end Go.Proofs.YtpppnaljndhjcaaDoor
