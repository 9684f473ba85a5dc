/- The walks of package arithmeticabig's sub, mul and small. Each under a bound on the numbers. -/
import Derived.Test.YtlchmaiflcnaoaaKBigB
namespace Go.Proofs.Ytlchmaiflcnaoaa
open Go.RowKit

theorem sub_form1 {a q b : Nat} (ha : a < 4294967296) (hq : q ≤ 1) (hb : b < 4294967296) :
    IntKind.u64.wrap (IntKind.u64.wrap ((a : Int) - (q : Int)) - (b : Int)) % 4294967296 = (((a + 8589934592 - q - b) % 4294967296 : Nat) : Int) := by
  rw [IntKind.wrap_u64, IntKind.wrap_u64]; omega
theorem sub_form2 {a q b : Nat} (ha : a < 4294967296) (hq : q ≤ 1) (hb : b < 4294967296) :
    IntKind.u64.wrap (IntKind.u64.wrap ((a : Int) - (q : Int)) - (b : Int)) / 9223372036854775808 = ((if a < q + b then 1 else 0 : Nat) : Int) := by
  rw [IntKind.wrap_u64, IntKind.wrap_u64]; split <;> omega
theorem sub_form3 {a q : Nat} (ha : a < 4294967296) (hq : q ≤ 1) :
    IntKind.u64.wrap ((a : Int) - (q : Int)) % 4294967296 = (((a + 8589934592 - q - 0) % 4294967296 : Nat) : Int) := by
  rw [IntKind.wrap_u64]; omega
theorem sub_form4 {a q : Nat} (ha : a < 4294967296) (hq : q ≤ 1) :
    IntKind.u64.wrap ((a : Int) - (q : Int)) / 9223372036854775808 = ((if a < q + 0 then 1 else 0 : Nat) : Int) := by
  rw [IntKind.wrap_u64]; split <;> omega
theorem sub_step {V P c a b d e S U : Nat} (h : U + P * c = V + S) (hs : a + 4294967296 * e = d + c + b) : U + P * a + P * 4294967296 * e = V + P * d + (S + P * b) := by
  have h2 : P * (a + 4294967296 * e) = P * (d + c + b) := by rw [hs]
  grind

set_option maxRecDepth 100000 in
set_option maxHeartbeats 1600000 in
theorem sub_any (va vb : Value) (x y : Nat) (w : World) (ha : NatAt w va x) (hb : NatAt w vb y) (hx : x < lim) (hy : y ≤ x) :
    Calls Try.prog 90 #[va, vb] w (RetNat w (x - y)) := by
  obtain ⟨A, n, c, l, rfl, hl, hnl, hxl, hn⟩ := ha.open_ hx
  obtain ⟨B, m, d, r, rfl, hr, hnr, hyr, hm⟩ := hb.open_ (Nat.lt_of_le_of_lt hy hx)
  have hmn : m ≤ n := by
    apply Nat.le_of_not_lt
    intro hc
    have := wv_lt_of_len hl.small hnr (by rw [hl.len, hr.len]; exact hc)
    omega
  have HL := hide hl
  have HR := hide hr
  have HX := hide hxl
  have HY := hide hyr
  clear hl hr hnl hnr ha hb hxl hyr
  have hmk := run_make_row' (P := Try.prog) 56 108 (.int .u32 0) 4 Try.underlying56 uinfo rfl .i64 .i64 n (by omega) (by omega)
  rw [wcs_zero] at hmk
  have HXY := hide hy
  have HX1 := hide hx
  clear hx hy
  go_enter Try.func90, Try.ntmps90
  go_wp2_with fail
  clear hmk
  go_loopw [6, 7] (fun ac ai wr => ∃ (k q p : Nat) (D L : List Nat), k ≤ n ∧ q ≤ 1 ∧ Hid (k + p = n) ∧ Hid (Made D L k p) ∧ Hid (wv (l.take k) + 4294967296 ^ k * q = wv D + wv (r.take k)) ∧ ac = .int .u64 q ∧ ai = .int .i64 k ∧ wr = w.alloc (.cells (wcs L) 108)) (fun _ ai _ => n - (intOf ai).toNat)
  case atStart => exact ⟨0, 0, n, [], _, by omega, by omega, by unfold Hid; omega, Made.start _, by unfold Hid; simp [wv], rfl, rfl, rfl⟩
  case round =>
    obtain ⟨k, q, p, D, L, hk, hq, hp, HM, hv, rfl, rfl, rfl⟩ := hrel
    by_cases hkn : k < n
    · obtain ⟨ad, a, rfl, ha, ha1, hab, hac⟩ := HL.out.at_ hkn
      have c1 : (w.alloc (.cells (wcs L) 108)).cell? (ad.add k) = some (.int .u32 (a : Int)) := by
        rw [World.cell?_alloc_lt _ _ _ (by rw [add_block]; exact hab)]; exact hac
      have HA := hide ha
      clear ha hac
      obtain ⟨p', rfl⟩ : ∃ p', p = p' + 1 := ⟨p - 1, by have := hp.out; omega⟩
      have hz := HM.out.cell (by omega)
      by_cases hkm : k < m
      · obtain ⟨bd, b, rfl, hb, hb1, hbb, hbc⟩ := HR.out.at_ hkm
        have c2 : (w.alloc (.cells (wcs L) 108)).cell? (bd.add k) = some (.int .u32 (b : Int)) := by
          rw [World.cell?_alloc_lt _ _ _ (by rw [add_block]; exact hbb)]; exact hbc
        have HB := hide hb
        clear hb hbc
        have HN := hide (HM.out.next (d := (a + 8589934592 - q - b) % 4294967296) (Nat.mod_lt _ (by omega)))
        have HV2 : Hid (wv (l.take (k + 1)) + 4294967296 ^ (k + 1) * (if a < q + b then 1 else 0) = wv (D ++ [(a + 8589934592 - q - b) % 4294967296]) + wv (r.take (k + 1))) := by
          unfold Hid
          rw [wv_snoc, HM.out.len, wv_take_succ HA.out, wv_take_succ HB.out, Nat.pow_succ]
          exact sub_step hv.out (by split <;> omega)
        go_wp2_with fail
        refine ⟨⟨k + 1, _, p', _, _, by omega, ?_, by have := hp.out; unfold Hid; omega, HN, HV2, congrArg (Value.int .u64) (sub_form2 ha1 hq hb1), by go_num, ?_⟩, by simp [intOf]; omega⟩
        · split <;> omega
        · rw [← wcs_set, ← sub_form1 ha1 hq hb1]
      · have HN := hide (HM.out.next (d := (a + 8589934592 - q - 0) % 4294967296) (Nat.mod_lt _ (by omega)))
        have HV2 : Hid (wv (l.take (k + 1)) + 4294967296 ^ (k + 1) * (if a < q + 0 then 1 else 0) = wv (D ++ [(a + 8589934592 - q - 0) % 4294967296]) + wv (r.take (k + 1))) := by
          unfold Hid
          rw [wv_snoc, HM.out.len, wv_take_succ HA.out, wv_take_past (l := r) (by rw [HR.out.len]; omega), Nat.pow_succ]
          have := sub_step (b := 0) (a := a) (d := (a + 8589934592 - q - 0) % 4294967296) (e := if a < q + 0 then 1 else 0) hv.out (by split <;> omega)
          omega
        go_wp2_with fail
        refine ⟨⟨k + 1, _, p', _, _, by omega, ?_, by have := hp.out; unfold Hid; omega, HN, HV2, congrArg (Value.int .u64) (sub_form4 ha1 hq), by go_num, ?_⟩, by simp [intOf]; omega⟩
        · split <;> omega
        · rw [← wcs_set, ← sub_form3 ha1 hq]
    · obtain rfl : k = n := by omega
      obtain rfl : p = 0 := by have := hp.out; omega
      have C := hide (trim_fresh HM.out (by omega) w)
      have HV2 : Hid (wv D = x - y) := by
        unfold Hid
        have h1 := hv.out
        rw [List.take_of_length_le (by rw [HL.out.len]; omega), List.take_of_length_le (by rw [HR.out.len]; omega), HX.out, HY.out] at h1
        have h2 := wv_lt D HM.out.small
        rw [HM.out.len] at h2
        have := HXY.out
        rcases Nat.eq_zero_or_pos q with hq0 | hq0
        · subst hq0; omega
        · obtain rfl : q = 1 := by omega
          omega
      go_wp2_with fail
      refine C.out.mono ?_
      rintro e w' ⟨v, rfl, hn, hbw⟩
      have HN2 := hide hn
      have HW := hide hbw
      clear hn hbw
      go_wp2_with fail
      go_ret
      exact ⟨_, rfl, HV2.out ▸ HN2.out, HW.out⟩

theorem wv_set {l : List Nat} : ∀ {k d o : Nat}, l[k]? = some o → wv (l.set k d) + 4294967296 ^ k * o = wv l + 4294967296 ^ k * d := by
  induction l with
  | nil => intro k d o h; simp at h
  | cons e l ih =>
    intro k d o h
    cases k with
    | zero =>
      simp at h
      subst h
      simp [wv]; omega
    | succ k =>
      have := ih (k := k) (d := d) (o := o) (by simpa using h)
      simp only [List.set_cons_succ, wv, Nat.pow_succ]
      grind

/-- what stands between the rounds of mul's inner loop: Z the list as the outer round began, L as it is -/
structure Mul1 (Z L r : List Nat) (i j m N a c : Nat) : Prop where
  len : L.length = N
  small : ∀ (t d : Nat), L[t]? = some d → d < 4294967296
  same : ∀ t : Nat, i + j ≤ t → L[t]? = Z[t]?
  val : wv L + 4294967296 ^ (i + j) * c = wv Z + 4294967296 ^ i * (a * wv (r.take j))
theorem Mul1.next {Z L r : List Nat} {i j m N a b c o : Nat} (h : Mul1 Z L r i j m N a c) (ho : L[i + j]? = some o) (hb : r[j]? = some b) :
    Mul1 Z (L.set (i + j) ((c + (a * b + o)) % 4294967296)) r i (j + 1) m N a ((c + (a * b + o)) / 4294967296) := by
  refine ⟨by simp [h.len], fun t d hd => ?_, fun t ht => ?_, ?_⟩
  · rw [List.getElem?_set] at hd
    split at hd
    · split at hd
      · injection hd with hd; subst hd; exact Nat.mod_lt _ (by omega)
      · cases hd
    · exact h.small t d hd
  · rw [List.getElem?_set, if_neg (by omega)]; exact h.same t (by omega)
  · have h1 := wv_set (d := (c + (a * b + o)) % 4294967296) ho
    have h2 := h.val
    have h3 := Nat.div_add_mod (c + (a * b + o)) 4294967296
    rw [wv_take_succ hb, show i + (j + 1) = i + j + 1 from rfl, Nat.pow_succ]
    generalize (c + (a * b + o)) % 4294967296 = s at *
    generalize (c + (a * b + o)) / 4294967296 = t at *
    have h4 : 4294967296 ^ (i + j) * (4294967296 * t + s) = 4294967296 ^ (i + j) * (c + (a * b + o)) := by rw [h3]
    have h5 : 4294967296 ^ (i + j) = 4294967296 ^ i * 4294967296 ^ j := Nat.pow_add _ _ _
    have h6 : 4294967296 ^ i * (a * (wv (r.take j) + 4294967296 ^ j * b)) = 4294967296 ^ i * (a * wv (r.take j)) + 4294967296 ^ (i + j) * (a * b) := by rw [h5]; grind
    rw [h6]
    generalize 4294967296 ^ (i + j) = P at *
    grind

/-- what stands between the rounds of mul's outer loop -/
structure Mul0 (L l r : List Nat) (i n m : Nat) : Prop where
  len : L.length = n + m
  small : ∀ (t d : Nat), L[t]? = some d → d < 4294967296
  zero : ∀ t : Nat, i + m ≤ t → t < n + m → L[t]? = some 0
  val : wv L = wv (l.take i) * wv r
theorem Mul0.inner {L l r : List Nat} {i n m : Nat} (h : Mul0 L l r i n m) (a : Nat) : Mul1 L L r i 0 m (n + m) a 0 :=
  ⟨h.len, h.small, fun _ _ => rfl, by simp [wv]⟩
theorem Mul0.next {Z L l r : List Nat} {i n m a c : Nat} (h : Mul0 Z l r i n m) (g : Mul1 Z L r i m m (n + m) a c) (hi : i < n) (hr : r.length = m) (ha : l[i]? = some a) (hc : c < 4294967296) :
    Mul0 (L.set (i + m) c) l r (i + 1) n m := by
  have h0 : L[i + m]? = some 0 := (g.same _ (by omega)).trans (h.zero _ (by omega) (by omega))
  refine ⟨by simp [g.len], fun t d hd => ?_, fun t ht ht2 => ?_, ?_⟩
  · rw [List.getElem?_set] at hd
    split at hd
    · split at hd
      · injection hd with hd; omega
      · cases hd
    · exact g.small t d hd
  · rw [List.getElem?_set, if_neg (by omega), g.same t (by omega)]
    exact h.zero t (by omega) ht2
  · have h1 := wv_set (d := c) h0
    have h2 := g.val
    have h3 := h.val
    rw [List.take_of_length_le (by omega)] at h2
    rw [wv_take_succ ha, Nat.add_mul, ← h3]
    have h4 : 4294967296 ^ i * a * wv r = 4294967296 ^ i * (a * wv r) := Nat.mul_assoc _ _ _
    omega

theorem mul_bound {a b : Nat} (ha : a < 4294967296) (hb : b < 4294967296) : 0 ≤ (a : Int) * (b : Int) ∧ (a : Int) * (b : Int) ≤ 18446744065119617025 :=
  ⟨Int.mul_nonneg (by omega) (by omega), Int.le_trans (Int.mul_le_mul (c := 4294967295) (d := 4294967295) (by omega) (by omega) (by omega) (by omega)) (by omega)⟩
theorem mul_form1 (c a b o : Nat) : ((c : Int) + ((a : Int) * (b : Int) + (o : Int))) % 4294967296 = (((c + (a * b + o)) % 4294967296 : Nat) : Int) := by
  rw [Int.natCast_emod, Int.natCast_add, Int.natCast_add, Int.natCast_mul]; rfl
theorem mul_form2 (c a b o : Nat) : ((c : Int) + ((a : Int) * (b : Int) + (o : Int))) / 4294967296 = (((c + (a * b + o)) / 4294967296 : Nat) : Int) := by
  rw [Int.natCast_ediv, Int.natCast_add, Int.natCast_add, Int.natCast_mul]; rfl
theorem mul_carry {c a b o : Nat} (hc : c < 4294967296) (ha : a < 4294967296) (hb : b < 4294967296) (ho : o < 4294967296) : (c + (a * b + o)) / 4294967296 < 4294967296 := by
  rw [Nat.div_lt_iff_lt_mul (by omega)]
  have : a * b ≤ 4294967295 * 4294967295 := Nat.mul_le_mul (by omega) (by omega)
  omega

theorem nat_nil {w : World} : NatAt w (.slice none 0 0) 0 := ⟨_, _, _, [], rfl, ⟨rfl, Nat.le_refl _, fun j d h => by simp at h, fun j d h => by simp at h, fun _ => rfl⟩, Norm.nil, rfl⟩

theorem wv_zeros (n : Nat) : wv (List.replicate n 0) = 0 := by
  induction n with
  | zero => rfl
  | succ n ih => rw [List.replicate_succ, wv, ih]

theorem store_new (w : World) (K : List Nat) (t k d : Nat) :
    ((w.alloc (.cells (wcs K) 108)).drewN t).setCell ⟨w.heap.size, k, none⟩ (.int .u32 (d : Int)) = (w.alloc (.cells (wcs (K.set k d)) 108)).drewN t := by
  have h := World.setCell_alloc_new (w := w) (wcs K) 108 k (.int .u32 (d : Int))
  rw [wcs_set] at h
  rw [← h]
  rfl
theorem trim_new {L : List Nat} {k : Nat} (hl : L.length = k) (hs : ∀ (t d : Nat), L[t]? = some d → d < 4294967296) (hk : k ≤ 10000) (w : World) (t : Nat) :
    Calls Try.prog 91 #[.slice (some ⟨w.heap.size, 0, none⟩) k k] ((w.alloc (.cells (wcs L) 108)).drewN t) (RetNat w (wv L)) := by
  refine (trim_any _ _ _ _ _ ((Wds.fresh w L hs k hl).drewN t) hk).mono ?_
  rintro e w' ⟨v, rfl, hn, hb⟩
  exact ⟨v, rfl, hn, (below_drewN ((Below.refl _ _).alloc (Nat.le_refl _) _) t).trans (hb.mono (by simp))⟩

theorem trim_list {L : List Nat} {k : Nat} (hl : L.length = k) (hs : ∀ (t d : Nat), L[t]? = some d → d < 4294967296) (hk : k ≤ 10000) (w : World) :
    Calls Try.prog 91 #[.slice (some ⟨w.heap.size, 0, none⟩) k k] (w.alloc (.cells (wcs L) 108)) (RetNat w (wv L)) := by
  refine (trim_any _ _ _ _ _ (Wds.fresh w L hs k hl) hk).mono ?_
  rintro e w' ⟨v, rfl, hn, hb⟩
  exact ⟨v, rfl, hn, ((Below.refl _ _).alloc (Nat.le_refl _) _).trans (hb.mono (by simp))⟩

set_option maxRecDepth 100000 in
set_option maxHeartbeats 3200000 in
theorem mul_any (va vb : Value) (x y : Nat) (w : World) (ha : NatAt w va x) (hb : NatAt w vb y) (hx : x < lim) (hy : y < lim) :
    Calls Try.prog 62 #[va, vb] w (RetNat w (x * y)) := by
  obtain ⟨A, n, c, l, rfl, hl, hnl, hxl, hn⟩ := ha.open_ hx
  obtain ⟨B, m, d, r, rfl, hr, hnr, hyr, hm⟩ := hb.open_ hy
  have HL := hide hl
  have HR := hide hr
  have HX := hide hxl
  have HY := hide hyr
  clear hl hr hnl hnr ha hb hxl hyr hx hy
  by_cases hn0 : n = 0
  · subst hn0
    have e : Hid (x * y = 0) := by
      have := List.eq_nil_of_length_eq_zero HL.out.len
      unfold Hid
      rw [← HX.out, this]; simp [wv]
    go_enter Try.func62, Try.ntmps62
    go_wp2_with fail
    go_ret
    exact ⟨_, rfl, by rw [e.out]; exact nat_nil, Below.refl _ _⟩
  by_cases hm0 : m = 0
  · subst hm0
    have e : Hid (x * y = 0) := by
      have := List.eq_nil_of_length_eq_zero HR.out.len
      unfold Hid
      rw [← HY.out, this]; simp [wv]
    have h1 : ((n : Int) == 0) = false := by rw [beq_eq_false_iff_ne]; omega
    go_enter Try.func62, Try.ntmps62
    go_wp2_with fail
    go_ret
    exact ⟨_, rfl, by rw [e.out]; exact nat_nil, Below.refl _ _⟩
  have h1 : ((n : Int) == 0) = false := by rw [beq_eq_false_iff_ne]; omega
  have h2 : ((m : Int) == 0) = false := by rw [beq_eq_false_iff_ne]; omega
  clear hn0 hm0
  have hmk := run_make_row' (P := Try.prog) 56 108 (.int .u32 0) 4 Try.underlying56 uinfo rfl .i64 .i64 (n + m) (by omega) (by omega)
  rw [wcs_zero, Int.natCast_add] at hmk
  go_enter Try.func62, Try.ntmps62
  go_wp2_with fail
  clear hmk
  go_loopw [6] (fun ai wr => ∃ (i t : Nat) (L : List Nat), i ≤ n ∧ Hid (Mul0 L l r i n m) ∧ ai = .int .i64 i ∧ wr = (w.alloc (.cells (wcs L) 108)).drewN t) (fun ai _ => n - (intOf ai).toNat)
  case atStart =>
    refine ⟨0, 0, _, by omega, ⟨by simp, fun t d hd => ?_, fun t _ ht => ?_, ?_⟩, rfl, rfl⟩
    · rw [List.getElem?_replicate] at hd
      split at hd
      · injection hd with hd; omega
      · cases hd
    · rw [List.getElem?_replicate, if_pos ht]
    · rw [wv_zeros]; simp [wv]
  case round =>
    obtain ⟨i, t, L, hi, H0, rfl, rfl⟩ := hrel
    by_cases hin : i < n
    · obtain ⟨ad, a, rfl, ha, ha1, hab, hac⟩ := HL.out.at_ hin
      have HA := hide ha
      have c1 : ∀ Z, (w.alloc (.cells Z 108)).cell? (ad.add i) = some (.int .u32 (a : Int)) := by
        intro Z
        rw [World.cell?_alloc_lt _ _ _ (by rw [add_block]; exact hab)]; exact hac
      have HC1 := hide c1
      clear ha hac c1
      go_wp2_with fail
      go_loopw [7, 8] (fun ac aj wr => ∃ (j q t : Nat) (K : List Nat), j ≤ m ∧ q < 4294967296 ∧ Hid (Mul1 L K r i j m (n + m) a q) ∧ ac = .int .u64 q ∧ aj = .int .i64 j ∧ wr = (w.alloc (.cells (wcs K) 108)).drewN t) (fun _ aj _ => m - (intOf aj).toNat)
      case atStart => exact ⟨0, 0, t, L, by omega, by omega, H0.out.inner a, rfl, rfl, rfl⟩
      case round =>
        obtain ⟨j, q, t, K, hj, hq, H1, rfl, rfl, rfl⟩ := hrel
        by_cases hjm : j < m
        · obtain ⟨bd, b, rfl, hb, hb1, hbb, hbc⟩ := HR.out.at_ hjm
          have c2 : (w.alloc (.cells (wcs K) 108)).cell? (bd.add j) = some (.int .u32 (b : Int)) := by
            rw [World.cell?_alloc_lt _ _ _ (by rw [add_block]; exact hbb)]; exact hbc
          have c1 := HC1.out (wcs K)
          obtain ⟨o, ho⟩ : ∃ o, K[i + j]? = some o := ⟨_, List.getElem?_eq_getElem (by rw [H1.out.len]; omega)⟩
          have ho1 := H1.out.small _ _ ho
          have hz : (wcs K)[i + j]? = some (.int .u32 (o : Int)) := by rw [wcs_get, ho]; rfl
          obtain ⟨p1, p2⟩ := mul_bound ha1 hb1
          have HN := hide (H1.out.next ho hb)
          have HB := hide hb
          have HO := hide ho
          clear hb hbc ho
          go_wp2_with fail
          go_quiet (fail)
          go_wp2_with fail
          refine ⟨⟨j + 1, _, t + nq, _, by omega, mul_carry hq ha1 hb1 ho1, HN, congrArg (Value.int .u64) (mul_form2 _ _ _ _), by go_num, ?_⟩, by simp [intOf]; omega⟩
          rw [mul_form1, store_new]
        · obtain rfl : j = m := by omega
          obtain ⟨o, ho⟩ : ∃ o, K[i + j]? = some o := ⟨_, List.getElem?_eq_getElem (by rw [H1.out.len]; omega)⟩
          have hz : (wcs K)[i + j]? = some (.int .u32 (o : Int)) := by rw [wcs_get, ho]; rfl
          have HN := hide (H0.out.next H1.out hin HR.out.len HA.out hq)
          clear ho
          go_wp2_with fail
          refine ⟨⟨i + 1, t, _, by omega, HN, by go_num, ?_⟩, by simp [intOf]; omega⟩
          rw [store_new]
    · obtain rfl : i = n := by omega
      have C := hide (trim_new H0.out.len H0.out.small (by omega) w t)
      have HV : Hid (wv L = x * y) := by
        unfold Hid
        rw [H0.out.val, List.take_of_length_le (by rw [HL.out.len]; omega), HX.out, HY.out]
      go_wp2_with fail
      refine C.out.mono ?_
      rintro e w' ⟨v, rfl, hn, hbw⟩
      have HN2 := hide hn
      have HW := hide hbw
      clear hn hbw
      go_wp2_with fail
      go_ret
      exact ⟨_, rfl, HV.out ▸ HN2.out, HW.out⟩

/-- what stands between the rounds of small's loop, from above: k words are still to come -/
structure SmallAt (l L : List Nat) (n k d r : Nat) : Prop where
  len : L.length = n
  small : ∀ (t e : Nat), L[t]? = some e → e < 4294967296
  val : wv (l.drop k) = d * wv (L.drop k) + r
theorem wv_drop {l : List Nat} {k a : Nat} (h : l[k]? = some a) : wv (l.drop k) = a + 4294967296 * wv (l.drop (k + 1)) := by
  obtain ⟨h1, e1⟩ := List.getElem?_eq_some_iff.1 h
  rw [List.drop_eq_getElem_cons h1, e1]; rfl
theorem SmallAt.next {l L : List Nat} {n k d r a : Nat} (h : SmallAt l L n (k + 1) d r) (ha : l[k]? = some a) (hk : k < n) (hd : 0 < d) (hr : r < d) (ha1 : a < 4294967296) :
    SmallAt l (L.set k ((r * 4294967296 + a) / d)) n k d ((r * 4294967296 + a) % d) := by
  have hq : (r * 4294967296 + a) / d < 4294967296 := by
    rw [Nat.div_lt_iff_lt_mul hd]
    have : (r + 1) * 4294967296 ≤ d * 4294967296 := Nat.mul_le_mul_right _ hr
    omega
  refine ⟨by simp [h.len], fun t e he => ?_, ?_⟩
  · rw [List.getElem?_set] at he
    split at he
    · split at he
      · injection he with he; omega
      · cases he
    · exact h.small t e he
  · have e1 : (L.set k ((r * 4294967296 + a) / d))[k]? = some ((r * 4294967296 + a) / d) := by
      rw [List.getElem?_set, if_pos rfl, if_pos (by rw [h.len]; exact hk)]
    rw [wv_drop ha, wv_drop e1, h.val, List.drop_set_of_lt (by omega)]
    have hm := Nat.div_add_mod (r * 4294967296 + a) d
    generalize (r * 4294967296 + a) / d = t at *
    generalize (r * 4294967296 + a) % d = s at *
    grind

theorem small_or {r a : Nat} (hr : r < 4294967296) (ha : a < 4294967296) : bits .or .u64 ((r : Int) * 4294967296) (a : Int) = ((r * 4294967296 + a : Nat) : Int) := by
  have e : ((r : Int) * 4294967296) = ((4294967296 * r : Nat) : Int) := by omega
  rw [e, bits_or_u64_nat _ _ (by omega) (by omega)]
  have h := Nat.two_pow_add_eq_or_of_lt (i := 32) (b := a) ha r
  rw [← h]
  exact congrArg Int.ofNat (by omega)

/-- a call's word on small: the quotient's words and the rest -/
def RetSmall (w : World) (x d : Nat) : Ending → World → Prop := fun e w' => ∃ v, e = .returned (.tuple #[v, .int .u32 ((x % d : Nat) : Int)]) ∧ NatAt w' v (x / d) ∧ Below w.heap.size w w'

theorem small_form1 (q a d : Nat) : ((q : Int) * 4294967296 + (a : Int)) % (d : Int) = (((q * 4294967296 + a) % d : Nat) : Int) := by
  rw [Int.natCast_emod, Int.natCast_add, Int.natCast_mul]; rfl
theorem small_form2 (q a d : Nat) (h : (q * 4294967296 + a) / d < 4294967296) : ((q : Int) * 4294967296 + (a : Int)) / (d : Int) % 4294967296 = (((q * 4294967296 + a) / d : Nat) : Int) := by
  have e : ((q : Int) * 4294967296 + (a : Int)) / (d : Int) = (((q * 4294967296 + a) / d : Nat) : Int) := by
    rw [Int.natCast_ediv, Int.natCast_add, Int.natCast_mul]; rfl
  rw [e]
  generalize (q * 4294967296 + a) / d = z at *
  omega

set_option maxRecDepth 100000 in
set_option maxHeartbeats 1600000 in
theorem small_any (va : Value) (x d : Nat) (w : World) (ha : NatAt w va x) (hx : x < lim) (hd : 0 < d) (hd2 : d < 4294967296) :
    Calls Try.prog 193 #[va, .int .u32 d] w (RetSmall w x d) := by
  obtain ⟨A, n, c, l, rfl, hl, hnl, hxl, hn⟩ := ha.open_ hx
  have HL := hide hl
  have HX := hide hxl
  clear hl hnl ha hxl hx
  have hmk := run_make_row' (P := Try.prog) 56 108 (.int .u32 0) 4 Try.underlying56 uinfo rfl .i64 .i64 n (by omega) (by omega)
  rw [wcs_zero] at hmk
  have hd0 : (d : Int) ≠ 0 := by omega
  go_enter Try.func193, Try.ntmps193
  go_wp2_with fail
  clear hmk
  go_loopw [7, 8] (fun ar ai wr => ∃ (k q : Nat) (L : List Nat), k ≤ n ∧ q < d ∧ Hid (SmallAt l L n k d q) ∧ ar = .int .u64 q ∧ ai = .int .i64 ((k : Int) - 1) ∧ wr = w.alloc (.cells (wcs L) 108)) (fun _ ai _ => (intOf ai + 1).toNat)
  case atStart =>
    refine ⟨n, 0, _, by omega, by omega, ⟨by simp, fun t d hd => ?_, ?_⟩, rfl, rfl, rfl⟩
    · rw [List.getElem?_replicate] at hd
      split at hd
      · injection hd with hd; omega
      · cases hd
    · rw [List.drop_eq_nil_of_le (by rw [HL.out.len]; omega), List.drop_eq_nil_of_le (by simp)]; simp [wv]
  case round =>
    obtain ⟨k, q, L, hk, hq, HS, rfl, rfl, rfl⟩ := hrel
    by_cases hk0 : k = 0
    · subst hk0
      have C := hide (trim_list HS.out.len HS.out.small (by omega) w)
      have hv := HS.out.val
      rw [List.drop_zero, List.drop_zero, HX.out] at hv
      have hm := Nat.div_add_mod x d
      have HV : Hid (wv L = x / d ∧ q = x % d) := by
        have h := (Nat.div_mod_unique (a := x) (b := d) (c := q) (d := wv L) hd).2 ⟨by rw [hv]; omega, hq⟩
        exact ⟨h.1.symm, h.2.symm⟩
      clear hv hm
      go_wp2_with fail
      refine C.out.mono ?_
      rintro e w' ⟨v, rfl, hn, hbw⟩
      have HN2 := hide hn
      have HW := hide hbw
      clear hn hbw
      go_wp2_with fail
      go_ret2
      exact ⟨_, by rw [← HV.out.2]; rfl, HV.out.1 ▸ HN2.out, HW.out⟩
    · obtain ⟨j, rfl⟩ : ∃ j, k = j + 1 := ⟨k - 1, by omega⟩
      obtain ⟨ad, a, rfl, ha, ha1, hab, hac⟩ := HL.out.at_ (k := j) (by omega)
      have c1 : (w.alloc (.cells (wcs L) 108)).cell? (ad.add j) = some (.int .u32 (a : Int)) := by
        rw [World.cell?_alloc_lt _ _ _ (by rw [add_block]; exact hab)]; exact hac
      obtain ⟨o, ho⟩ : ∃ o, L[j]? = some o := ⟨_, List.getElem?_eq_getElem (by rw [HS.out.len]; omega)⟩
      have hz : (wcs L)[j]? = some (.int .u32 (o : Int)) := by rw [wcs_get, ho]; rfl
      have HN := hide (HS.out.next ha (by omega) hd hq ha1)
      have hlt := HN.out.small j _ (List.getElem?_set_self (by rw [HS.out.len]; omega))
      have HLT := hide hlt
      have hor := small_or (r := q) (by omega) ha1
      clear ha hac ho hlt
      go_wp2_with fail
      refine ⟨⟨j, _, _, by omega, Nat.mod_lt _ hd, HN, ?_, rfl, ?_⟩, by simp [intOf]⟩
      · exact congrArg (Value.int .u64) (small_form1 _ _ _)
      · rw [← wcs_set, small_form2 _ _ _ HLT.out]
end Go.Proofs.Ytlchmaiflcnaoaa
