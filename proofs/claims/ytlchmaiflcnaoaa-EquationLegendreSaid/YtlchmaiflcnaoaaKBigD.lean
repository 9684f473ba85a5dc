/- The walks of package arithmeticabig's left and right (by fewer than 32 places). Each under a bound on the numbers. -/
import Derived.Test.YtlchmaiflcnaoaaKBigC
namespace Go.Proofs.Ytlchmaiflcnaoaa
open Go.RowKit

/-- what stands between the rounds of left's loop -/
structure LeftAt (l L : List Nat) (n i s o : Nat) : Prop where
  len : L.length = n + 1
  small : ∀ (t d : Nat), L[t]? = some d → d < 4294967296
  zero : ∀ t : Nat, i < t → t ≤ n → L[t]? = some 0
  at_ : L[i]? = some o
  lt : o < 2 ^ s
  val : wv L = wv (l.take i) * 2 ^ s
theorem bits_or_u32_nat (a b : Nat) (ha : a < 4294967296) (hb : b < 4294967296) :
    bits .or .u32 (a : Int) (b : Int) = ((a ||| b : Nat) : Int) := by
  have hx : a ||| b < 2 ^ 32 := Nat.or_lt_two_pow (by omega) (by omega)
  show IntKind.u32.wrap ((BitVec.ofInt 32 (a : Int) ||| BitVec.ofInt 32 (b : Int)).toNat : Int) = _
  rw [BitVec.toNat_or, ofInt_u32 a ha, ofInt_u32 b hb, IntKind.wrap_u32]
  omega
theorem pow_split {s : Nat} (hs : s < 32) : 2 ^ s * 2 ^ (32 - s) = 4294967296 := by rw [← Nat.pow_add, show s + (32 - s) = 32 from by omega]
theorem shl_mod {a s : Nat} (hs : s < 32) : a * 2 ^ s % 4294967296 = 2 ^ s * (a % 2 ^ (32 - s)) := by
  rw [← pow_split hs, Nat.mul_comm a, Nat.mul_mod_mul_left]
theorem shl_div {a s : Nat} (ha : a < 4294967296) : a * 2 ^ s / 4294967296 < 2 ^ s := by
  rw [Nat.div_lt_iff_lt_mul (by omega), Nat.mul_comm]
  exact Nat.mul_lt_mul_of_pos_left ha (Nat.pow_pos (by omega))
theorem pow_le32 {s : Nat} (hs : s < 32) : 2 ^ s ≤ 2147483648 := by
  have : 2 ^ s ≤ 2 ^ 31 := Nat.pow_le_pow_right (by omega) (by omega)
  omega
theorem LeftAt.next {l L : List Nat} {n i s o a : Nat} (h : LeftAt l L n i s o) (hs : s < 32) (hi : i < n) (ha : l[i]? = some a) (ha1 : a < 4294967296) :
    LeftAt l ((L.set i (o + a * 2 ^ s % 4294967296)).set (i + 1) (a * 2 ^ s / 4294967296)) n (i + 1) s (a * 2 ^ s / 4294967296) := by
  have hp := pow_split hs
  have hq := shl_mod (a := a) hs
  have hd := shl_div (s := s) ha1
  have hp2 := pow_le32 hs
  have hlo : o + a * 2 ^ s % 4294967296 < 4294967296 := by
    have h1 : a % 2 ^ (32 - s) + 1 ≤ 2 ^ (32 - s) := Nat.mod_lt _ (Nat.pow_pos (by omega))
    have h2 := Nat.mul_le_mul_left (2 ^ s) h1
    rw [Nat.mul_succ, hp, ← hq] at h2
    have := h.lt
    omega
  have hlen : (L.set i (o + a * 2 ^ s % 4294967296)).length = n + 1 := by simp [h.len]
  refine ⟨by simp [h.len], fun t d hd2 => ?_, fun t h1 h2 => ?_, ?_, hd, ?_⟩
  · rw [List.getElem?_set] at hd2
    split at hd2
    · split at hd2
      · injection hd2 with hd2; omega
      · cases hd2
    · rw [List.getElem?_set] at hd2
      split at hd2
      · split at hd2
        · injection hd2 with hd2; omega
        · cases hd2
      · exact h.small t d hd2
  · rw [List.getElem?_set, if_neg (by omega), List.getElem?_set, if_neg (by omega)]
    exact h.zero t (by omega) h2
  · rw [List.getElem?_set, if_pos rfl, if_pos (by rw [hlen]; omega)]
  · have h1 := wv_set (d := o + a * 2 ^ s % 4294967296) h.at_
    have h2 : (L.set i (o + a * 2 ^ s % 4294967296))[i + 1]? = some 0 := by
      rw [List.getElem?_set, if_neg (by omega)]; exact h.zero _ (by omega) (by omega)
    have h3 := wv_set (d := a * 2 ^ s / 4294967296) h2
    have h4 := h.val
    have h5 := Nat.div_add_mod (a * 2 ^ s) 4294967296
    rw [wv_take_succ ha, Nat.add_mul, ← h4]
    rw [Nat.pow_succ] at h3
    have h6 : 4294967296 ^ i * a * 2 ^ s = 4294967296 ^ i * (a * 2 ^ s) := Nat.mul_assoc _ _ _
    rw [h6]
    generalize a * 2 ^ s / 4294967296 = q at *
    generalize a * 2 ^ s % 4294967296 = m at *
    generalize a * 2 ^ s = z at *
    subst h5
    generalize 4294967296 ^ i = P at *
    grind

theorem or_u32 {o a s : Nat} (ho : o < 2 ^ s) (hs : s < 32) : bits .or .u32 (o : Int) ((a * 2 ^ s % 4294967296 : Nat) : Int) = ((o + a * 2 ^ s % 4294967296 : Nat) : Int) := by
  have hp2 := pow_le32 hs
  have hm := shl_mod (a := a) hs
  have h1 : a % 2 ^ (32 - s) + 1 ≤ 2 ^ (32 - s) := Nat.mod_lt _ (Nat.pow_pos (by omega))
  have h2 := Nat.mul_le_mul_left (2 ^ s) h1
  rw [Nat.mul_succ, pow_split hs] at h2
  rw [hm, bits_or_u32_nat _ _ (by omega) (by omega), Nat.or_comm, ← Nat.two_pow_add_eq_or_of_lt ho]
  exact congrArg Int.ofNat (by omega)
theorem left_forms {o a s : Nat} (hs : s < 32) (ha : a < 4294967296) (ho : o < 2 ^ s) :
    bits .or .u32 (o : Int) (IntKind.u64.wrap ((a : Int) * 2 ^ s) % 4294967296) = ((o + a * 2 ^ s % 4294967296 : Nat) : Int) ∧
    bits .or .u32 0 (IntKind.u64.wrap ((a : Int) * 2 ^ s) / 4294967296 % 4294967296) = ((a * 2 ^ s / 4294967296 : Nat) : Int) ∧ a * 2 ^ s / 4294967296 < 4294967296 := by
  have hp2 := pow_le32 hs
  have hd := shl_div (s := s) ha
  have h64 : a * 2 ^ s < 18446744073709551616 := Nat.lt_of_le_of_lt (Nat.mul_le_mul (Nat.le_of_lt ha) hp2) (by omega)
  rw [wrap_shl _ _ h64]
  refine ⟨?_, ?_, by omega⟩
  · rw [show ((a * 2 ^ s : Nat) : Int) % 4294967296 = ((a * 2 ^ s % 4294967296 : Nat) : Int) from by omega, or_u32 ho hs]
  · rw [show ((a * 2 ^ s : Nat) : Int) / 4294967296 % 4294967296 = ((a * 2 ^ s / 4294967296 : Nat) : Int) from by omega]
    have := bits_or_u32_nat 0 (a * 2 ^ s / 4294967296) (by omega) (by omega)
    rw [Nat.zero_or] at this
    exact this

set_option maxRecDepth 100000 in
set_option maxHeartbeats 1600000 in
theorem left_any (va : Value) (x s : Nat) (w : World) (ha : NatAt w va x) (hx : x < lim) (hs : s < 32) :
    Calls Try.prog 194 #[va, .int .u64 s] w (RetNat w (x * 2 ^ s)) := by
  obtain ⟨A, n, c, l, rfl, hl, hnl, hxl, hn⟩ := ha.open_ hx
  have HL := hide hl
  have HX := hide hxl
  clear hl hnl ha hxl hx
  by_cases hn0 : n = 0
  · subst hn0
    have e : Hid (x * 2 ^ s = 0) := by
      have := List.eq_nil_of_length_eq_zero HL.out.len
      unfold Hid
      rw [← HX.out, this]; simp [wv]
    go_enter Try.func194, Try.ntmps194
    go_wp2_with fail
    go_ret
    exact ⟨_, rfl, by rw [e.out]; exact nat_nil, Below.refl _ _⟩
  have h1 : ((n : Int) == 0) = false := by rw [beq_eq_false_iff_ne]; omega
  have e1 : (s : Int) / 32 = 0 := by omega
  have e2 : (s : Int) % 32 = s := by omega
  have hmk := run_make_row' (P := Try.prog) 56 108 (.int .u32 0) 4 Try.underlying56 uinfo rfl .i64 .i64 (n + 1) (by omega) (by omega)
  rw [wcs_zero, show ((n + 1 : Nat) : Int) = (n : Int) + 1 from by omega] at hmk
  clear hn0
  go_enter Try.func194, Try.ntmps194
  go_wp2_with fail
  clear hmk e1 e2
  go_loopw [8] (fun ai wr => ∃ (i o : Nat) (L : List Nat), i ≤ n ∧ o < 4294967296 ∧ Hid (LeftAt l L n i s o) ∧ ai = .int .i64 i ∧ wr = w.alloc (.cells (wcs L) 108)) (fun ai _ => n - (intOf ai).toNat)
  case atStart =>
    refine ⟨0, 0, _, by omega, by omega, ⟨by simp, fun t d hd => ?_, fun t _ ht => ?_, ?_, Nat.pow_pos (by omega), ?_⟩, rfl, rfl⟩
    · rw [List.getElem?_replicate] at hd
      split at hd
      · injection hd with hd; omega
      · cases hd
    · rw [List.getElem?_replicate, if_pos (by omega)]
    · rw [List.getElem?_replicate, if_pos (by omega)]
    · rw [wv_zeros]; simp [wv]
  case round =>
    obtain ⟨i, o, L, hi, ho1, HS, rfl, rfl⟩ := hrel
    by_cases hin : i < n
    · obtain ⟨ad, a, rfl, ha, ha1, hab, hac⟩ := HL.out.at_ hin
      have c1 : (w.alloc (.cells (wcs L) 108)).cell? (ad.add i) = some (.int .u32 (a : Int)) := by
        rw [World.cell?_alloc_lt _ _ _ (by rw [add_block]; exact hab)]; exact hac
      have hz : (wcs L)[i]? = some (.int .u32 (o : Int)) := by rw [wcs_get, HS.out.at_]; rfl
      have hz2 : (wcs L)[i + 1]? = some (.int .u32 0) := by rw [wcs_get, HS.out.zero (i + 1) (by omega) (by omega)]; rfl
      have HN := hide (HS.out.next hs hin ha ha1)
      clear ha hac
      have hw := left_forms hs ha1 HS.out.lt
      have HWf := hide hw
      clear hw
      go_wp2_with fail
      refine ⟨⟨i + 1, _, _, by omega, ?_, HN, by go_num, ?_⟩, by simp [intOf]; omega⟩
      · exact HWf.out.2.2
      · rw [Nat.mod_eq_of_lt hs, HWf.out.1, HWf.out.2.1, wcs_set, wcs_set]
    · obtain rfl : i = n := by omega
      have C := hide (trim_list HS.out.len HS.out.small (by omega) w)
      have HV : Hid (wv L = x * 2 ^ s) := by
        have hv := HS.out.val
        rw [List.take_of_length_le (by rw [HL.out.len]; omega), HX.out] at hv
        exact hv
      go_wp2_with fail
      refine C.out.mono ?_
      rintro e w' ⟨v, rfl, hn, hbw⟩
      have HN2 := hide hn
      have HW := hide hbw
      clear hn hbw
      go_wp2_with fail
      go_ret
      exact ⟨_, rfl, HV.out ▸ HN2.out, HW.out⟩

theorem wv_div (l : List Nat) (k : Nat) (hk : k ≤ l.length) (hs : ∀ (j d : Nat), l[j]? = some d → d < 4294967296) : wv l / 4294967296 ^ k = wv (l.drop k) := by
  have hb := wv_lt (l.take k) (fun i d hd => hs i d (by
    rw [List.getElem?_take] at hd
    split at hd
    · exact hd
    · cases hd))
  rw [List.length_take, Nat.min_eq_left hk] at hb
  rw [wv_split l k hk, Nat.add_mul_div_left _ _ (Nat.pow_pos (by omega)), Nat.div_eq_of_lt hb, Nat.zero_add]
theorem right_digit {l : List Nat} {k a b s z : Nat} (hk : k ≤ l.length) (hl : ∀ (j d : Nat), l[j]? = some d → d < 4294967296) (hs : s < 32) (hd : wv (l.drop k) = a + 4294967296 * (b + 4294967296 * z)) :
    wv l / 2 ^ s / 4294967296 ^ k % 4294967296 = (a + 4294967296 * b) / 2 ^ s % 4294967296 := by
  rw [Nat.div_div_eq_div_mul, Nat.mul_comm, ← Nat.div_div_eq_div_mul, wv_div l k hk hl, hd]
  have hp := pow_split hs
  have e : a + 4294967296 * (b + 4294967296 * z) = (a + 4294967296 * b) + 2 ^ s * (4294967296 * (2 ^ (32 - s) * z)) := by
    have : 2 ^ s * (4294967296 * (2 ^ (32 - s) * z)) = 4294967296 * (4294967296 * z) := by rw [← hp]; grind
    rw [this]; omega
  rw [e, Nat.add_mul_div_left _ _ (Nat.pow_pos (by omega)), Nat.add_mul_mod_self_left]

theorem right_form (a b s : Nat) : ((a : Int) + 4294967296 * (b : Int)) / 2 ^ s % 4294967296 = (((a + 4294967296 * b) / 2 ^ s % 4294967296 : Nat) : Int) := by
  rw [Int.natCast_emod, Int.natCast_ediv, Int.natCast_add, Int.natCast_mul, Int.natCast_pow]; rfl

set_option maxRecDepth 100000 in
set_option maxHeartbeats 1600000 in
theorem right_any (va : Value) (x s : Nat) (w : World) (ha : NatAt w va x) (hx : x < lim) (hs : s < 32) :
    Calls Try.prog 195 #[va, .int .u64 s] w (RetNat w (x / 2 ^ s)) := by
  obtain ⟨A, n, c, l, rfl, hl, hnl, hxl, hn⟩ := ha.open_ hx
  have HL := hide hl
  have HX := hide hxl
  clear hl hnl ha hxl hx
  have e1 : (s : Int) / 32 = 0 := by omega
  have e2 : (s : Int) % 32 = s := by omega
  by_cases hn0 : n = 0
  · subst hn0
    have e : Hid (x / 2 ^ s = 0) := by
      have := List.eq_nil_of_length_eq_zero HL.out.len
      unfold Hid
      rw [← HX.out, this]; simp [wv]
    go_enter Try.func195, Try.ntmps195
    go_wp2_with fail
    go_ret
    exact ⟨_, rfl, by rw [e.out]; exact nat_nil, Below.refl _ _⟩
  have h1 : decide (n = 0) = false := by rw [decide_eq_false_iff_not]; exact hn0
  have hmk := run_make_row' (P := Try.prog) 56 108 (.int .u32 0) 4 Try.underlying56 uinfo rfl .i64 .i64 n (by omega) (by omega)
  rw [wcs_zero] at hmk
  clear hn0
  go_enter Try.func195, Try.ntmps195
  go_wp2_with fail
  clear hmk e1 e2
  go_loopw [8] (fun ai wr => ∃ (k p : Nat) (D L : List Nat), k ≤ n ∧ Hid (k + p = n) ∧ Hid (Made D L k p) ∧ Hid (wv D = x / 2 ^ s % 4294967296 ^ k) ∧ ai = .int .i64 k ∧ wr = w.alloc (.cells (wcs L) 108)) (fun ai _ => n - (intOf ai).toNat)
  case atStart => exact ⟨0, n, [], _, by omega, by unfold Hid; omega, Made.start _, by unfold Hid; simp [wv, Nat.mod_one], rfl, rfl⟩
  case round =>
    obtain ⟨k, p, D, L, hk, hp, HM, hv, rfl, rfl⟩ := hrel
    by_cases hkn : k < n
    · obtain ⟨ad, a, rfl, ha, ha1, hab, hac⟩ := HL.out.at_ hkn
      have c1 : (w.alloc (.cells (wcs L) 108)).cell? (ad.add k) = some (.int .u32 (a : Int)) := by
        rw [World.cell?_alloc_lt _ _ _ (by rw [add_block]; exact hab)]; exact hac
      have HA := hide ha
      clear ha hac
      obtain ⟨p', rfl⟩ : ∃ p', p = p' + 1 := ⟨p - 1, by have := hp.out; omega⟩
      have hz := HM.out.cell (by omega)
      have hdrop := wv_drop HA.out
      have hkl : k ≤ l.length := by rw [HL.out.len]; omega
      by_cases hk1 : k + 1 < n
      · obtain ⟨bd, b, hbd, hb, hb1, hbb, hbc⟩ := HL.out.at_ hk1
        injection hbd with hbd
        subst hbd
        have c2 : (w.alloc (.cells (wcs L) 108)).cell? (ad.add (k + 1)) = some (.int .u32 (b : Int)) := by
          rw [World.cell?_alloc_lt _ _ _ (by rw [add_block]; exact hbb)]; exact hbc
        rw [addr_pos _ (k + 1) (by omega)] at c2
        rw [wv_drop hb] at hdrop
        have hg := right_digit hkl HL.out.small hs hdrop
        rw [HX.out] at hg
        have HN := hide (HM.out.next (d := (a + 4294967296 * b) / 2 ^ s % 4294967296) (Nat.mod_lt _ (by omega)))
        have HV2 : Hid (wv (D ++ [(a + 4294967296 * b) / 2 ^ s % 4294967296]) = x / 2 ^ s % 4294967296 ^ (k + 1)) := by
          unfold Hid
          rw [wv_snoc, HM.out.len, Nat.mod_pow_succ, hg, hv.out]
        have hor := or_shl32 ha1 hb1
        clear hb hbc hdrop hg hkl
        go_wp2_with fail
        refine ⟨⟨k + 1, p', _, _, by omega, by have := hp.out; unfold Hid; omega, HN, HV2, by go_num, ?_⟩, by simp [intOf]; omega⟩
        rw [← wcs_set, Nat.mod_eq_of_lt hs, ← right_form]
      · have hd0 : wv (l.drop (k + 1)) = 0 := by rw [List.drop_eq_nil_of_le (by rw [HL.out.len]; omega)]; rfl
        have hg := right_digit (b := 0) (z := 0) hkl HL.out.small hs (by rw [hdrop, hd0])
        rw [HX.out] at hg
        have HN := hide (HM.out.next (d := (a + 4294967296 * 0) / 2 ^ s % 4294967296) (Nat.mod_lt _ (by omega)))
        have HV2 : Hid (wv (D ++ [(a + 4294967296 * 0) / 2 ^ s % 4294967296]) = x / 2 ^ s % 4294967296 ^ (k + 1)) := by
          unfold Hid
          rw [wv_snoc, HM.out.len, Nat.mod_pow_succ, hg, hv.out]
        clear hdrop hg hkl hd0
        go_wp2_with fail
        refine ⟨⟨k + 1, p', _, _, by omega, by have := hp.out; unfold Hid; omega, HN, HV2, by go_num, ?_⟩, by simp [intOf]; omega⟩
        rw [← wcs_set, Nat.mod_eq_of_lt hs, ← right_form]
        simp
    · obtain rfl : k = n := by omega
      obtain rfl : p = 0 := by have := hp.out; omega
      have C := hide (trim_fresh HM.out (by omega) w)
      have HV : Hid (wv D = x / 2 ^ s) := by
        unfold Hid
        rw [hv.out, Nat.mod_eq_of_lt]
        have := wv_lt l HL.out.small
        rw [HL.out.len, HX.out] at this
        exact Nat.lt_of_le_of_lt (Nat.div_le_self _ _) this
      go_wp2_with fail
      refine C.out.mono ?_
      rintro e w' ⟨v, rfl, hn, hbw⟩
      have HN2 := hide hn
      have HW := hide hbw
      clear hn hbw
      go_wp2_with fail
      go_ret
      exact ⟨_, rfl, HV.out ▸ HN2.out, HW.out⟩
end Go.Proofs.Ytlchmaiflcnaoaa
