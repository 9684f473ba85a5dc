/- arithmeticabig's long division, walked. Under a bound on the numbers; the divisor has two words or more, the dividend three or more. -/
import Derived.Test.YtpppnaljndhjcaaDoorKDivR
namespace Go.Proofs.YtpppnaljndhjcaaDoor
open Go.RowKit

/-- the divisor moved up: s places, so that its top word has its top bit -/
theorem norm_shift {y n s : Nat} (hs : s = 32 - (blen y - 1) % 32 - 1) (hn : blen y = (n - 1) * 32 + ((blen y - 1) % 32 + 1)) (hn1 : 1 ≤ n) (h0 : y ≠ 0) :
    4294967296 ^ (n - 1) * 2147483648 ≤ y * 2 ^ s ∧ y * 2 ^ s < 4294967296 ^ n := by
  have h1 := blen_ge h0
  have h2 := lt_blen y
  have hk : (blen y - 1) % 32 < 32 := Nat.mod_lt _ (by omega)
  generalize (blen y - 1) % 32 = k at *
  have e1 : (4294967296 : Nat) ^ (n - 1) = 2 ^ ((n - 1) * 32) := by rw [Nat.mul_comm, Nat.pow_mul]
  have e2 : (4294967296 : Nat) ^ n = 2 ^ ((n - 1) * 32 + 32) := by
    rw [show (n - 1) * 32 + 32 = 32 * n from by omega, Nat.pow_mul]
  rw [hn] at h1 h2
  rw [show (n - 1) * 32 + (k + 1) - 1 = (n - 1) * 32 + k from by omega] at h1
  have e3 : (2 : Nat) ^ ((n - 1) * 32 + k) * 2 ^ s = 2 ^ ((n - 1) * 32) * 2147483648 := by
    rw [Nat.pow_add, Nat.mul_assoc, ← Nat.pow_add, show k + s = 31 from by omega]
  have e4 : (2 : Nat) ^ ((n - 1) * 32 + (k + 1)) * 2 ^ s = 2 ^ ((n - 1) * 32 + 32) := by
    rw [← Nat.pow_add, show (n - 1) * 32 + (k + 1) + s = (n - 1) * 32 + 32 from by omega]
  constructor
  · rw [e1, ← e3]; exact Nat.mul_le_mul_right _ h1
  · rw [e2, ← e4]; exact Nat.mul_lt_mul_of_pos_right h2 (Nat.pow_pos (by omega))

/-- from n words and their top word -/
theorem len_eq {l : List Nat} {n : Nat} (hn : Norm l) (hs : ∀ (j d : Nat), l[j]? = some d → d < 4294967296) (h1 : 4294967296 ^ (n - 1) ≤ wv l) (h2 : wv l < 4294967296 ^ n) (hp : 1 ≤ n) : l.length = n := by
  apply Nat.le_antisymm
  · exact norm_len hn hs h2
  · apply Nat.le_of_not_lt
    intro hc
    have h3 := wv_lt l hs
    have h4 : 4294967296 ^ l.length ≤ 4294967296 ^ (n - 1) := Nat.pow_le_pow_right (by omega) (by omega)
    omega

theorem blen_len {l : List Nat} {n : Nat} (hn : Norm l) (hs : ∀ (j d : Nat), l[j]? = some d → d < 4294967296) (hl : l.length = n) (hp : 1 ≤ n) :
    blen (wv l) = (n - 1) * 32 + ((blen (wv l) - 1) % 32 + 1) := by
  obtain ⟨m, rfl⟩ : ∃ m, n = m + 1 := ⟨n - 1, by omega⟩
  have hm : m < l.length := by omega
  have hd0 : l[m] ≠ 0 := by
    refine hn _ ?_
    rw [List.getLast?_eq_getElem?, hl, Nat.add_sub_cancel, List.getElem?_eq_getElem hm]
  have e := blen_words hl (List.getElem?_eq_getElem hm) hd0 hs
  have h2 := hs m _ (List.getElem?_eq_getElem hm)
  have h3 : blen l[m] ≤ 32 := blen_le (k := 32) h2
  have h4 : 1 ≤ blen l[m] := by
    apply Nat.le_of_not_lt
    intro hc
    have := lt_blen l[m]
    have h5 : 2 ^ blen l[m] ≤ 2 ^ 0 := Nat.pow_le_pow_right (by omega) (by omega)
    omega
  rw [Nat.add_sub_cancel]
  omega

theorem top_ge {l : List Nat} {k top : Nat} (hs : ∀ (j d : Nat), l[j]? = some d → d < 4294967296) (ht : l[k]? = some top) (hk : l.length = k + 1) (h : 4294967296 ^ k * 2147483648 ≤ wv l) : 2147483648 ≤ top := by
  have h3 := wv_split l k (by omega)
  have h4 := wv_drop ht
  rw [List.drop_eq_nil_of_le (show l.length ≤ k + 1 by omega)] at h4
  rw [h4] at h3
  simp only [wv, Nat.mul_zero, Nat.add_zero] at h3
  have h5 := wv_lt (l.take k) (fun i d hd => hs i d (by
    rw [List.getElem?_take] at hd
    split at hd
    · exact hd
    · cases hd))
  rw [List.length_take, Nat.min_eq_left (by omega)] at h5
  apply Nat.le_of_lt_succ
  apply Nat.lt_of_mul_lt_mul_left (a := 4294967296 ^ k)
  show 4294967296 ^ k * 2147483648 < 4294967296 ^ k * (top + 1)
  rw [Nat.mul_add _ top 1]
  omega
theorem splice_wcs {l : List Nat} {n N : Nat} (hl : l.length = n) : (splice (wcs (List.replicate N 0)).toList 0 (wcs l).toList).toArray = wcs (l ++ List.replicate (N - n) 0) := by
  simp [splice, wcs, hl, List.drop_replicate]
theorem addr_new (g j : Nat) : (⟨g, 0, none⟩ : Addr).add j = ⟨g, j, none⟩ := by
  unfold Addr.add
  split
  · rename_i h0; subst h0; rfl
  · simp
theorem usize : (Tryd.prog.info? 74).map (·.size) = some 1 := by kernel_rfl

set_option maxRecDepth 100000 in
set_option maxHeartbeats 40000000 in
theorem div_long (va vb : Value) (x y : Nat) (w : World) (ha : NatAt w va x) (hb : NatAt w vb y) (hx : x < lim) (hx2 : 18446744073709551616 ≤ x) (h1y : 4294967296 ≤ y) (hyx : y ≤ x) :
    Calls Tryd.prog 76 #[va, vb] w (RetDiv w x y) := by
  have hyl : y < lim := Nat.lt_of_le_of_lt hyx hx
  have C1 := hide (cmp_ge va vb x y w ha hb hx hyl hyx)
  have HA := hide ha
  have HB := hide hb
  obtain ⟨A, n, c, l, rfl, hl, hnl, hxl2, hn⟩ := ha.open_ hx
  have hn2 : 2 < n := by
    apply Nat.lt_of_not_le
    intro hc
    have := wv_lt l hl.small
    rw [hl.len, hxl2] at this
    have h2 : 4294967296 ^ n ≤ 4294967296 ^ 2 := Nat.pow_le_pow_right (by omega) hc
    have e : (4294967296 : Nat) ^ 2 = 18446744073709551616 := rfl
    omega
  have hn3 : decide ((n : Int) ≤ 2) = false := by rw [decide_eq_false_iff_not]; omega
  obtain ⟨B, m, d, r, rfl, hr, hnr, hyr, hm⟩ := hb.open_ hyl
  have hm2 : 2 ≤ m := by
    apply Nat.le_of_not_lt
    intro hc
    have := wv_lt r hr.small
    rw [hr.len, hyr] at this
    have h2 : 4294967296 ^ m ≤ 4294967296 ^ 1 := Nat.pow_le_pow_right (by omega) (by omega)
    have e : (4294967296 : Nat) ^ 1 = 4294967296 := rfl
    omega
  have hmn : m ≤ n := by
    apply Nat.le_of_not_lt
    intro hc
    have := wv_lt_of_len hl.small hnr (by rw [hl.len, hr.len]; exact hc)
    omega
  have hm3 : ((m : Int) == 1) = false := by rw [beq_eq_false_iff_ne]; omega
  have hm4 : ((m : Int) == 0) = false := by rw [beq_eq_false_iff_ne]; omega
  have hbl := blen_len hnr hr.small hr.len (by omega)
  rw [hyr] at hbl
  obtain ⟨s, hs⟩ : ∃ s, s = 32 - (blen y - 1) % 32 - 1 := ⟨_, rfl⟩
  have hs32 : s < 32 := by omega
  obtain ⟨hV1, hV2⟩ := norm_shift hs hbl (by omega) (by omega)
  have hb1 : 1 ≤ blen y := by omega
  have hb2 : blen y ≤ 32000 := by omega
  have hsI : (32 : Int) - ((blen y : Int) - 1) % 32 - 1 = (s : Int) := by omega
  have HSI := hide hsI
  have HV1 := hide hV1
  have HV2 := hide hV2
  have HX := hide hx
  have HY := hide hyl
  have HL := hide hl
  have HXL := hide hxl2
  have HY0 : Hid (0 < y) := by unfold Hid; omega
  clear hl hr hnr hyr hnl hxl2 hyl hb ha hx hx2 h1y hyx hs hbl hsI hV1 hV2
  go_enter Tryd.func76, Tryd.ntmps76
  go_wp2_with fail
  refine C1.out.mono ?_
  rintro e w1 ⟨z, rfl, hz0, hz1, hw1⟩
  have HW1 := hide hw1
  have C2 := hide (length_any _ y w1 (HB.out.below hw1) HY.out)
  have C3 := hide (left_any _ y s w1 (HB.out.below hw1) HY.out hs32)
  clear hw1
  go_wp2_with fail
  refine C2.out.mono ?_
  rintro e w2 ⟨rfl, rfl⟩
  go_wp2_with fail
  rw [HSI.out]
  refine C3.out.mono ?_
  rintro e w2 ⟨v2, rfl, hv2, hw2⟩
  have HW2 := hide hw2
  have hy2 : y * 2 ^ s < lim := by
    have h3 : 4294967296 ^ m ≤ 4294967296 ^ limW := Nat.pow_le_pow_right (by omega) (by unfold limW; omega)
    have := HV2.out
    unfold lim; omega
  obtain ⟨V, vn, vc, vl, rfl, hvl, hvn, hvv, hvn2⟩ := hv2.open_ hy2
  have hvlen : vl.length = m := len_eq hvn hvl.small (by rw [hvv]; have := HV1.out; omega) (by rw [hvv]; exact HV2.out) (by omega)
  obtain rfl : vn = m := by rw [← hvl.len, hvlen]
  obtain ⟨Va, top, rfl, ht1, ht2, ht3, ht4⟩ := hvl.at_ (k := vn - 1) (by omega)
  obtain ⟨Vb, next, hVb, hn1, hnx2, hnx3, hnx4⟩ := hvl.at_ (k := vn - 2) (by omega)
  injection hVb with hVb
  subst hVb
  have htop : 2147483648 ≤ top := top_ge hvl.small ht1 (by omega) (by rw [hvv]; exact HV1.out)
  have HS : Hid (DvSet x y s vn vc vl (n + 2) top next) := ⟨hs32, hvlen, hvv, hvl.small, ht1, hn1, htop, hm2, by omega, by omega, HY0.out⟩
  have HVL := hide hvl
  have hmk := run_make_row' (P := Tryd.prog) 49 74 (.int .u32 0) 4 Tryd.underlying49 uinfo rfl .i64 .i64 (n + 2) (by omega) (by omega)
  rw [wcs_zero, show ((n + 2 : Nat) : Int) = (n : Int) + 2 from by omega] at hmk
  have hb3 : Below w2.heap.size w2 (w2.alloc (.cells (wcs (List.replicate (n + 2) 0)) 74)) := (Below.refl _ _).alloc (Nat.le_refl _) _
  have hb13 : Below w1.heap.size w1 (w2.alloc (.cells (wcs (List.replicate (n + 2) 0)) 74)) := HW2.out.trans (hb3.mono HW2.out.size)
  have C4 := hide (left_any _ x s _ ((HA.out.below HW1.out).below hb13) HX.out hs32)
  have HB3 := hide hb3
  clear hvl hvn hvv hvlen ht1 ht3 ht4 hn1 hnx3 hnx4 hw2 hv2 hy2 hb3 hb13
  go_wp2_with fail
  clear hmk
  refine C4.out.mono ?_
  rintro e w3 ⟨v3, rfl, hv3, hw3⟩
  have HW3 := hide hw3
  have hx3 : x * 2 ^ s < 4294967296 ^ (n + 1) := by
    have h3 := wv_lt l HL.out.small
    rw [HL.out.len, HXL.out] at h3
    have h4 := pow_le32 hs32
    have h5 : x * 2 ^ s ≤ 4294967296 ^ n * 2147483648 := Nat.mul_le_mul (Nat.le_of_lt h3) h4
    rw [Nat.pow_succ]
    have : 0 < 4294967296 ^ n := Nat.pow_pos (by omega)
    omega
  obtain ⟨X3, n3, c3, l3, rfl, hl3, hln3, hlv3⟩ := hv3
  have hn3' : n3 ≤ n + 1 := by
    have := norm_len (k := n + 1) hln3 hl3.small (by rw [hlv3]; exact hx3)
    rw [hl3.len] at this; exact this
  have HL3 := hide hl3
  have hg3 : w3.heap[w2.heap.size]? = some (.cells (wcs (List.replicate (n + 2) 0)).toList.toArray 74 (0, 0)) := by
    have := (hw3.block w2.heap.size (by simp)).trans (blk_new w2 (wcs (List.replicate (n + 2) 0)) 74)
    simpa using this
  have HG3 := hide hg3
  have HN3 := hide hln3
  have HV3 := hide hlv3
  clear hl3 hln3 hlv3 hx3 hw3 hg3
  go_wp2_with (refine wpList_copy_splice rfl (.tmp 81) (.tmp 84) 49 49 rfl 74 Tryd.underlying49 usize (some ⟨w2.heap.size, 0, none⟩) X3 (n + 2) (n + 2) n3 c3 rfl rfl w2.heap.size 0 (wcs (List.replicate (n + 2) 0)).toList 74 ?k1 (wcs l3).toList ?k2 ?k3 ?k4 ?k5 w2.heap.size w3 (Below.refl _ _) (Nat.le_refl _) ?k6)
  case k1 => exact HG3.out
  case k2 =>
    rw [Array.length_toList, wcs_size, HL3.out.len]
    exact (Nat.min_eq_left (by omega)).symm
  case k3 =>
    intro hp
    have hp2 : 0 < n3 := by rw [wcs_size, HL3.out.len] at hp; exact hp
    obtain ⟨ad, _, hX3, _⟩ := HL3.out.at_ (k := 0) hp2
    refine ⟨ad, hX3, fun j u hu => ?_⟩
    rw [wcs_get] at hu
    cases hd : l3[j]? with
    | none => rw [hd] at hu; cases hu
    | some d =>
      rw [hd] at hu
      obtain ⟨ad', cs, fr, e, hb, hc⟩ := HL3.out.cell j d hd
      rw [hX3] at e
      injection e with e
      subst e
      injection hu with hu
      rw [← hu]; exact hc
  case k4 => simp [wcs, HL3.out.len]; omega
  case k5 =>
    intro u hu
    simp [wcs] at hu
    obtain ⟨d, _, rfl⟩ := hu
    rfl
  intro w4 hg4 hb4
  have hG4 : w4.heap[w2.heap.size]? = some (.cells (wcs (l3 ++ List.replicate (n + 2 - n3) 0)) 74 (0, 0)) := by
    rw [hg4.out, splice_wcs HL3.out.len]
  have HG4 := hide hG4
  have HB4 := hide hb4
  have hmk := run_make_row' (P := Tryd.prog) 49 74 (.int .u32 0) 4 Tryd.underlying49 uinfo rfl .i64 .i64 (n + 2 - vn) (by omega) (by omega)
  rw [wcs_zero, show ((n + 2 - vn : Nat) : Int) = (n : Int) + 2 - (vn : Int) from by omega] at hmk
  clear hG4 hb4 hg4
  go_upto_region 18 with (fail)
  have hD : DW w (w4.alloc (.cells (wcs (List.replicate (n + 2 - vn) 0)) 74)) w2.heap.size w4.heap.size (l3 ++ List.replicate (n + 2 - n3) 0) (List.replicate (n + 2 - vn) 0) Va vn vc vl := by
    have b2 : Below w.heap.size w w2 := HW1.out.trans (HW2.out.mono HW1.out.size)
    have b3 : Below w.heap.size w w3 := b2.trans ((HB3.out.trans (HW3.out.mono HB3.out.size)).mono b2.size)
    have b4 : Below w.heap.size w w4 := b3.trans (HB4.out.mono b2.size)
    have hlt : w2.heap.size < w4.heap.size := heap_lt HG4.out
    have hvl4 : Wds w4 (some Va) vn vc vl := by
      have k3 : Below w2.heap.size w2 w3 := HB3.out.trans (HW3.out.mono HB3.out.size)
      have k4 : Below w2.heap.size w2 w4 := k3.trans HB4.out
      exact HVL.out.kept (.of_below k4)
    refine ⟨b4.alloc b4.size _, b2.size, hlt, (Below.heap_alloc _ _ _ hlt).trans HG4.out, blk_new _ _ _, hvl4.kept (.of_below ((Below.refl _ _).alloc (Nat.le_refl _) _)), ?_⟩
    obtain ⟨ad, cs, fr, e, hb, _⟩ := HVL.out.cell _ _ HS.out.attop
    injection e with e
    subst e
    exact heap_lt hb
  have c1 := hD.cellV HS.out.attop
  have c2 := hD.cellV HS.out.atnext
  have HD := hide hD
  have htop32 := HS.out.small _ _ HS.out.attop
  have hnext32 := HS.out.small _ _ HS.out.atnext
  clear hD hmk
  go_cut [16, 17] (fun a16 a17 wx => a16 = .int .u64 top ∧ a17 = .int .u64 next ∧ DW w wx w2.heap.size w4.heap.size (l3 ++ List.replicate (n + 2 - n3) 0) (List.replicate (n + 2 - vn) 0) Va vn vc vl)
  case first =>
    go_quiet (fail)
    go_wp2_with fail
    go_meet
    exact ⟨rfl, rfl, HD.out.drewN _⟩
  case rest =>
    obtain ⟨rfl, rfl, hD⟩ := hcut
    have hK : Kn (l3 ++ List.replicate (n + 2 - n3) 0) (List.replicate (n + 2 - vn) 0) (n + 2) (n + 2 - vn) vn (wv vl) (x * 2 ^ s) (n + 2 - vn) := by
      refine ⟨by simp [HL3.out.len]; omega, fun t e he => ?_, by simp, fun t e he => ?_, ?_, ?_⟩
      · rw [List.getElem?_append] at he
        split at he
        · exact HL3.out.small t e he
        · rw [List.getElem?_replicate] at he
          split at he
          · injection he with he; omega
          · cases he
      · rw [List.getElem?_replicate] at he
        split at he
        · injection he with he; omega
        · cases he
      · rw [List.drop_eq_nil_of_le (by simp), wv_append, wv_zeros, HV3.out]; simp [wv]
      · have hsm : ∀ (t e : Nat), (l3 ++ List.replicate (n + 2 - n3) 0)[t]? = some e → e < 4294967296 := by
          intro t e he
          rw [List.getElem?_append] at he
          split at he
          · exact HL3.out.small t e he
          · rw [List.getElem?_replicate] at he
            split at he
            · injection he with he; omega
            · cases he
        have h1 := win_lt (j := n + 2 - vn) (m := vn - 1) (Z := l3 ++ List.replicate (n + 2 - n3) 0) hsm (fun _ _ => rfl) (fun t e ht he => by
          rw [List.getElem?_append_right (by rw [HL3.out.len]; omega), List.getElem?_replicate] at he
          split at he
          · injection he with he; exact he.symm
          · cases he) (by simp [HL3.out.len]; omega)
        have h2 := HV1.out
        rw [← HS.out.val] at h2
        have h3 : 0 < 4294967296 ^ (vn - 1) := Nat.pow_pos (by omega)
        omega
    obtain ⟨gu, hgu⟩ : ∃ gu, gu = w2.heap.size := ⟨_, rfl⟩
    obtain ⟨gq, hgq⟩ : ∃ gq, gq = w4.heap.size := ⟨_, rfl⟩
    rw [← hgu, ← hgq] at hD
    rw [← hgu, ← hgq]
    obtain ⟨M, hM⟩ : ∃ M, M = n + 2 - vn := ⟨_, rfl⟩
    have hMn : (M : Int) = (n : Int) + 2 - (vn : Int) := by omega
    have hM2 : M + vn = n + 2 := by omega
    have HM2 := hide hM2
    rw [← hM] at hD hK ⊢
    rw [← hMn]
    have HD2 := hide hD
    have HK := hide hK
    clear hD hK hgu hgq hM hMn HD c1 c2 HW1 HW2 HB3 HW3 HB4 HG4 HVL HL3 HG3 HN3 HV3 hM2 C1 C2 C3 C4 HA HB HL HXL HSI HV1 HV2
    go_wp2_with fail
    go_loopw [18] (fun aj wr => ∃ (k : Nat) (U Q : List Nat), k ≤ M ∧ Hid (DW w wr gu gq U Q Va vn vc vl) ∧ Hid (Kn U Q (n + 2) M vn (wv vl) (x * 2 ^ s) k) ∧ aj = .int .i64 ((k : Int) - 1)) (fun aj _ => (intOf aj + 1).toNat)
    case atStart => exact ⟨M, _, _, Nat.le_refl _, HD2, HK, rfl⟩
    case round =>
      clear HD2 HK
      obtain ⟨k, U, Q, hk, HD, HK, rfl⟩ := hrel
      by_cases hk0 : k = 0
      · subst hk0
        have CQ := hide (trim_any (some ⟨gq, 0, none⟩) M M Q wr ⟨HK.out.qlen, Nat.le_refl _, HK.out.qsmall, fun j d hd => ⟨_, _, _, rfl, HD.out.q, by rw [addr_new]; exact HD.out.cellQ hd⟩, fun e => by cases e⟩ (by have := HM2.out; omega))
        have hv := HK.out.val
        rw [Nat.pow_zero, Nat.one_mul, List.drop_zero] at hv
        have hl := HK.out.lt
        rw [List.drop_zero] at hl
        have hpp : 0 < 2 ^ s := Nat.pow_pos (by omega)
        have hqr := (Nat.div_mod_unique (a := x * 2 ^ s) (b := wv vl) (c := wv U) (d := wv Q) (by omega)).2 ⟨by omega, hl⟩
        rw [HS.out.val, Nat.mul_div_mul_right _ _ hpp, Nat.mul_mod_mul_right] at hqr
        have E1 : Hid (wv Q = x / y) := hqr.1.symm
        have E2 : Hid (wv U / 2 ^ s = x % y) := by unfold Hid; rw [← hqr.2, Nat.mul_div_cancel _ hpp]
        have hUl : wv U < lim := by
          have h1 := wv_lt vl HS.out.small
          rw [HS.out.len] at h1
          have h3 : 4294967296 ^ vn ≤ 4294967296 ^ limW := Nat.pow_le_pow_right (by omega) (by unfold limW; omega)
          unfold lim
          omega
        have HUL := hide hUl
        clear hv hl hqr hUl
        go_wp2_with fail
        refine CQ.out.mono ?_
        rintro e w5 ⟨v5, rfl, hn5, hw5⟩
        have HN5 := hide hn5
        have HW5 := hide hw5
        have CU := hide (trim_any (some ⟨gu, 0, none⟩) (n + 2) (n + 2) U w5 ((⟨HK.out.len, Nat.le_refl _, HK.out.small, fun j d hd => ⟨_, _, _, rfl, HD.out.u, by rw [addr_new]; exact HD.out.cellU hd⟩, fun e => by cases e⟩ : Wds wr (some ⟨gu, 0, none⟩) (n + 2) (n + 2) U).kept (.of_below hw5)) (by omega))
        clear hn5 hw5
        go_wp2_with fail
        refine CU.out.mono ?_
        rintro e w6 ⟨v6, rfl, hn6, hw6⟩
        have HW6 := hide hw6
        have CR := hide (right_any v6 _ s w6 hn6 HUL.out hs32)
        clear hn6 hw6
        go_wp2_with fail
        refine CR.out.mono ?_
        rintro e w7 ⟨v7, rfl, hn7, hw7⟩
        have HN7 := hide hn7
        have HW7 := hide hw7
        clear hn7 hw7
        go_wp2_with fail
        go_ret2
        have b6 : Below w5.heap.size w5 w6 := HW6.out
        have b7 : Below w5.heap.size w5 w7 := b6.trans (HW7.out.mono b6.size)
        exact ⟨_, _, rfl, E1.out ▸ HN5.out.below b7, E2.out ▸ HN7.out, HD.out.bel.trans ((HW5.out.trans (b7.mono HW5.out.size)).mono HD.out.bel.size)⟩
      · obtain ⟨j, rfl⟩ : ∃ j, k = j + 1 := ⟨k - 1, by omega⟩
        rw [show (((j + 1 : Nat) : Int) - 1) = (j : Int) from by omega]
        refine div_round x y s vn vc (n + 2) M top next gu gq j (x * 2 ^ s) vl U Q Va w wr _ _ _ _ _ _ _ _ _ _ _ _ _ _ _ _ _ _ _ _ _ _ _ _ _ _ _ _ _ _ _ _ _ _ _ _ _ _ _ _ _ _ _ _ _ _ _ _ _ _ _ _ _ _ _ _ _ _ _ _ _ _ _ _ _ _ _ _ _ _ _ _ _ _ _ _ _ _ _ _ _ _ _ _ _ _ _ _ _ _ _ _ _ _ _ _ _ _ _ _ _ _ _ _ _ _ _ _ _ _ _ _ _ _ _ _ _ _ _ _ _ _ _ _ _ _ _ _ _ _ _ _ _ _ _ _ _ _ _ _ _ _ _ _ _ _ _ _ _ _ _ _ _ _ _ _ _ _ _ _ _ _ _ _ _ _ _ _ _ _ _ _ _ _ _ _ _ _ _ _ _ _ _ _ _ _ _ _ _ _ _ _ _ _ _ _ _ _ _ _ _ _ _ _ _ _ _ _ _ _ _ _ _ _ _ _ _ _ _ _ _ _ _ _ _ _ _ _ _ _ _ _ _ _ _ _ _ _ _ _ _ _ _ _ _ _ _ _ _ _ _ _ _ _ _ _ _ _ _ _ _ _ _ _ _ HS HM2 HD HK (by omega) ?_
        intros
        rename_i U' Q' w' hD' hK'
        refine ⟨⟨_, _, _, _, _, _, _, _, _, _, _, _, _, _, _, _, _, _, _, _, _, _, _, _, _, _, _, _, _, _, _, _, _, _, _, _, _, _, _, _, _, _, _, _, _, _, _, _, _, _, _, _, _, _, _, _, _, _, _, _, _, _, _, _, _, _, _, _, _, _, _, _, _, _, _, _, _, _, _, _, _, _, _, _, _, _, _, _, _, _, _, _, _, _, _, _, _, _, _, _, _, _, _, _, _, _, _, _, _, _, _, _, _, _, _, _, _, _, _, _, _, _, _, _, _, _, _, _, _, _, _, _, _, _, _, _, _, _, _, _, _, _, _, _, _, _, _, _, _, _, _, _, _, _, _, _, _, _, _, _, _, _, _, _, _, _, _, _, ⟨j, U', Q', by omega, hD', hK', rfl⟩, rfl⟩, ?_⟩
        simp [intOf]

/-- div, every divisor but nought -/
theorem div_any (va vb : Value) (x y : Nat) (w : World) (ha : NatAt w va x) (hb : NatAt w vb y) (hx : x < lim) (hy : y < lim) (h0 : 0 < y) :
    Calls Tryd.prog 76 #[va, vb] w (RetDiv w x y) := by
  by_cases h1 : x < y
  · exact div_lt va vb x y w ha hb hx hy h1
  · by_cases h2 : x < 18446744073709551616
    · exact div_two va vb x y w ha hb h2 h0 (by omega)
    · by_cases h3 : y < 4294967296
      · exact div_one va vb x y w ha hb hx (by omega) h0 h3
      · exact div_long va vb x y w ha hb hx (by omega) (by omega) (by omega)
end Go.Proofs.YtpppnaljndhjcaaDoor
