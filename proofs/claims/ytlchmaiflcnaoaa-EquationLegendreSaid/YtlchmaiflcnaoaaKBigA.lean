/- The walks of package arithmeticabig's functions on lists of words that only read: trim, length, plain, cmp, bit. Each under a bound on the lists' lengths. -/
import Derived.Test.YtlchmaiflcnaoaaK0
namespace Go.Proofs.Ytlchmaiflcnaoaa
open Go.RowKit

/-! plain facts on lists of words -/
theorem wv_append (l r : List Nat) : wv (l ++ r) = wv l + 4294967296 ^ l.length * wv r := by
  induction l with
  | nil => simp [wv]
  | cons d l ih =>
    simp only [List.cons_append, wv, ih, List.length_cons, Nat.pow_succ]
    grind
theorem wv_lt (l : List Nat) (h : ∀ (j d : Nat), l[j]? = some d → d < 4294967296) : wv l < 4294967296 ^ l.length := by
  induction l with
  | nil => simp [wv]
  | cons d l ih =>
    have h0 := h 0 d rfl
    have := ih (fun j d hd => h (j + 1) d (by simpa using hd))
    simp only [wv, List.length_cons, Nat.pow_succ]
    omega
theorem Norm.nil : Norm [] := fun d h => by simp at h

theorem take_zero {l : List Nat} {k : Nat} (h0 : l[k]? = some 0) : wv (l.take (k + 1)) = wv (l.take k) := by
  rw [List.take_add_one, h0, wv_append]; simp [wv]
theorem norm_take {l : List Nat} {k d : Nat} (h0 : l[k]? = some d) (hd : d ≠ 0) : Norm (l.take (k + 1)) := by
  intro e he
  rw [List.take_add_one, h0] at he
  simp at he
  omega

theorem wv_ge {l : List Nat} (hn : Norm l) (h0 : 0 < l.length) : 4294967296 ^ (l.length - 1) ≤ wv l := by
  obtain ⟨d, hd⟩ : ∃ d, l.getLast? = some d := by
    cases h : l.getLast? with
    | none => rw [List.getLast?_eq_none_iff] at h; subst h; simp at h0
    | some d => exact ⟨d, rfl⟩
  have hd0 := hn d hd
  obtain ⟨ys, rfl⟩ := List.getLast?_eq_some_iff.1 hd
  rw [wv_append]
  simp only [wv, List.length_append, List.length_cons, List.length_nil, Nat.add_sub_cancel, Nat.zero_add, Nat.mul_zero, Nat.add_zero]
  have : 4294967296 ^ ys.length * 1 ≤ 4294967296 ^ ys.length * d := Nat.mul_le_mul_left _ (by omega)
  omega
theorem wv_lt_of_len {l r : List Nat} (hl : ∀ (j d : Nat), l[j]? = some d → d < 4294967296) (hr : Norm r) (h : l.length < r.length) : wv l < wv r := by
  have h1 := wv_lt l hl
  have h2 := wv_ge hr (by omega)
  have h3 : 4294967296 ^ l.length ≤ 4294967296 ^ (r.length - 1) := Nat.pow_le_pow_right (by omega) (by omega)
  omega
theorem norm_len {l : List Nat} {k : Nat} (hn : Norm l) (_hs : ∀ (j d : Nat), l[j]? = some d → d < 4294967296) (h : wv l < 4294967296 ^ k) : l.length ≤ k := by
  apply Nat.le_of_not_lt
  intro hc
  have h2 := wv_ge hn (by omega)
  have h3 : 4294967296 ^ k ≤ 4294967296 ^ (l.length - 1) := Nat.pow_le_pow_right (by omega) (by omega)
  omega

theorem drop_cons {l r : List Nat} {j p : Nat} (hp : l[j]? = some p) (hq : r[j]? = some p) (h : l.drop (j + 1) = r.drop (j + 1)) : l.drop j = r.drop j := by
  obtain ⟨h1, e1⟩ := List.getElem?_eq_some_iff.1 hp
  obtain ⟨h2, e2⟩ := List.getElem?_eq_some_iff.1 hq
  rw [List.drop_eq_getElem_cons h1, List.drop_eq_getElem_cons h2, e1, e2, h]
theorem wv_split (l : List Nat) (k : Nat) (hk : k ≤ l.length) : wv l = wv (l.take k) + 4294967296 ^ k * wv (l.drop k) := by
  have h := wv_append (l.take k) (l.drop k)
  rw [List.take_append_drop, List.length_take, Nat.min_eq_left hk] at h
  exact h
theorem drop_lt {l r : List Nat} (hl : ∀ (j d : Nat), l[j]? = some d → d < 4294967296) (_hr : ∀ (j d : Nat), r[j]? = some d → d < 4294967296) {j p q : Nat} (hp : l[j]? = some p) (hq : r[j]? = some q) (h : l.drop (j + 1) = r.drop (j + 1)) (hlt : p < q) (_he : l.length = r.length) : wv l < wv r := by
  obtain ⟨h1, e1⟩ := List.getElem?_eq_some_iff.1 hp
  obtain ⟨h2, e2⟩ := List.getElem?_eq_some_iff.1 hq
  rw [wv_split l j (by omega), wv_split r j (by omega), List.drop_eq_getElem_cons h1, List.drop_eq_getElem_cons h2, e1, e2, h]
  simp only [wv]
  have hb := wv_lt (l.take j) (fun i d hd => hl i d (by
    rw [List.getElem?_take] at hd
    split at hd
    · exact hd
    · cases hd))
  rw [List.length_take, Nat.min_eq_left (by omega)] at hb
  generalize wv (r.drop (j + 1)) = z
  have h3 : 4294967296 ^ j * (p + 4294967296 * z) + 4294967296 ^ j ≤ 4294967296 ^ j * (q + 4294967296 * z) := by
    rw [← Nat.mul_succ]; exact Nat.mul_le_mul_left _ (by omega)
  omega

section
variable {w : World}
theorem Wds.take {A : Option Addr} {n c : Nat} {l : List Nat} (h : Wds w A n c l) {k : Nat} (hk : k ≤ n) : Wds w A k c (l.take k) :=
  ⟨by rw [List.length_take, h.len]; omega, by have := h.cap; omega, fun j d hd => h.small j d (by
      rw [List.getElem?_take] at hd; split at hd
      · exact hd
      · cases hd), fun j d hd => h.cell j d (by
      rw [List.getElem?_take] at hd; split at hd
      · exact hd
      · cases hd), h.nil⟩
theorem Wds.at_ {A : Option Addr} {n c : Nat} {l : List Nat} (h : Wds w A n c l) {k : Nat} (hk : k < n) :
    ∃ ad d, A = some ad ∧ l[k]? = some d ∧ d < 4294967296 ∧ ad.block < w.heap.size ∧ w.cell? (ad.add k) = some (.int .u32 (d : Int)) := by
  have hl : k < l.length := by rw [h.len]; exact hk
  obtain ⟨ad, cs, fr, e, hb, hc⟩ := h.cell k l[k] (List.getElem?_eq_getElem hl)
  exact ⟨ad, _, e, List.getElem?_eq_getElem hl, h.small k _ (List.getElem?_eq_getElem hl), heap_lt hb, hc⟩
theorem Wds.drewN {A : Option Addr} {n c : Nat} {l : List Nat} (h : Wds w A n c l) (k : Nat) : Wds (w.drewN k) A n c l := h.kept (.of_below (below_drewN (Below.refl _ _) k))
end

set_option maxRecDepth 100000 in
set_option maxHeartbeats 800000 in
theorem trim_any (A : Option Addr) (n c : Nat) (l : List Nat) (w : World) (h : Wds w A n c l) (hn : n ≤ 10000) :
    Calls Try.prog 91 #[.slice A n c] w (RetNat w (wv l)) := by
  have hcap := h.cap
  have H := hide h
  clear h
  go_enter Try.func91, Try.ntmps91
  go_wp2
  go_loop [3] (fun i => ∃ k : Nat, k ≤ n ∧ Hid (wv (l.take k) = wv l) ∧ i = .int .i64 k) (fun i => (intOf i).toNat)
  case atStart => exact ⟨n, by omega, by unfold Hid; rw [List.take_of_length_le (by have := H.out.len; omega)], rfl⟩
  case round =>
    obtain ⟨k, hk, hv, rfl⟩ := hrel
    by_cases h0 : k = 0
    · subst h0
      go_wp2
      go_ret
      exact ⟨_, rfl, ⟨_, _, _, _, rfl, H.out.take (Nat.zero_le _), by simpa using Norm.nil, hv.out⟩, Below.refl _ _⟩
    · obtain ⟨ad, d, rfl, hld, hd, hbk, hc⟩ := H.out.at_ (k := k - 1) (by omega)
      have h1 : 0 < k := by omega
      obtain ⟨j, rfl⟩ : ∃ j, k = j + 1 := ⟨k - 1, by omega⟩
      rw [show j + 1 - 1 = j from by omega] at hc hld
      have HD := hide hld
      clear hld
      have h1' : decide ((0 : Int) < ((j : Int) + 1)) = true := by rw [decide_eq_true_eq]; omega
      cases hz : ((d : Int) == 0)
      · go_wp2
        go_ret
        exact ⟨_, rfl, ⟨_, _, _, _, rfl, H.out.take hk, norm_take HD.out (by simpa using hz), hv.out⟩, Below.refl _ _⟩
      · have hd0 : d = 0 := by simpa using hz
        have HZ : Hid (wv (l.take j) = wv l) := by unfold Hid; rw [← take_zero (by rw [HD.out, hd0])]; exact hv.out
        clear hd0
        go_wp2
        refine ⟨⟨j, by omega, HZ, rfl⟩, ?_⟩
        simp [intOf]
theorem NatAt.open_ {w : World} {v : Value} {x : Nat} (h : NatAt w v x) (hx : x < lim) :
    ∃ A n c l, v = .slice A n c ∧ Wds w A n c l ∧ Norm l ∧ wv l = x ∧ n ≤ 1000 := by
  obtain ⟨A, n, c, l, e, hw, hn, hv⟩ := h
  refine ⟨A, n, c, l, e, hw, hn, hv, ?_⟩
  have := norm_len (k := limW) hn hw.small (by rw [hv]; exact hx)
  rw [hw.len] at this
  unfold limW at this
  exact this

/-- what cmp says -/
def cmpI (x y : Nat) : Int := if x < y then -1 else if y < x then 1 else 0

set_option maxRecDepth 100000 in
set_option maxHeartbeats 800000 in
theorem cmp_any (va vb : Value) (x y : Nat) (w : World) (ha : NatAt w va x) (hb : NatAt w vb y) (hx : x < lim) (hy : y < lim) :
    Calls Try.prog 46 #[va, vb] w fun e w' => e = .returned (.int .i64 (cmpI x y)) ∧ Below w.heap.size w w' := by
  obtain ⟨A, n, c, l, rfl, hl, hnl, rfl, hn⟩ := ha.open_ hx
  obtain ⟨B, m, d, r, rfl, hr, hnr, rfl, hm⟩ := hb.open_ hy
  have HL := hide hl
  have HR := hide hr
  have HLn := hide hnl
  have HRn := hide hnr
  clear hl hr hnl hnr ha hb hx hy
  rcases Nat.lt_trichotomy n m with h | h | h
  · have h1 : ((n : Int) != (m : Int)) = true := by rw [bne_iff_ne]; omega
    go_enter Try.func46, Try.ntmps46
    go_wp2
    go_ret
    refine ⟨ret_int ?_, Below.refl _ _⟩
    rw [cmpI, if_pos (wv_lt_of_len HL.out.small HRn.out (by rw [HL.out.len, HR.out.len]; exact h))]
  · subst h
    go_enter Try.func46, Try.ntmps46
    go_wp2
    go_loopw [5] (fun i wr => ∃ k : Nat, k ≤ n ∧ Hid (l.drop k = r.drop k) ∧ i = .int .i64 ((k : Int) - 1) ∧ Below w.heap.size w wr) (fun i _ => (intOf i + 1).toNat)
    case atStart => exact ⟨n, by omega, by unfold Hid; rw [List.drop_eq_nil_of_le (by have := HL.out.len; omega), List.drop_eq_nil_of_le (by have := HR.out.len; omega)], rfl, Below.refl _ _⟩
    case round =>
      obtain ⟨k, hk, hv, rfl, hbw⟩ := hrel
      have HB := hide hbw
      clear hbw
      by_cases h0 : k = 0
      · subst h0
        have he : Hid (l = r) := hv
        go_wp2
        go_ret
        exact ⟨ret_int (by rw [he.out]; simp [cmpI]), HB.out⟩
      · obtain ⟨j, rfl⟩ : ∃ j, k = j + 1 := ⟨k - 1, by omega⟩
        obtain ⟨ad, p, rfl, hp, hp1, hpb, hpc⟩ := HL.out.at_ (k := j) (by omega)
        obtain ⟨bd, q, rfl, hq, hq1, hqb, hqc⟩ := HR.out.at_ (k := j) (by omega)
        have HP := hide hp
        have HQ := hide hq
        have c1 : wr.cell? (ad.add j) = some (.int .u32 (p : Int)) := (HB.out.cell (by rw [add_block]; exact hpb)).trans hpc
        have c2 : wr.cell? (bd.add j) = some (.int .u32 (q : Int)) := (HB.out.cell (by rw [add_block]; exact hqb)).trans hqc
        clear hp hq hpc hqc
        by_cases hpq : p = q
        · subst hpq
          have hv' : Hid (l.drop j = r.drop j) := drop_cons HP.out HQ.out hv
          have e1 : ((p : Int) != (p : Int)) = false := by simp
          go_wp2_with fail
          go_quiet (fail)
          go_wp2_with fail
          refine ⟨⟨j, by omega, hv', rfl, below_drewN HB.out _⟩, ?_⟩
          simp [intOf]
        · have e1 : ((p : Int) != (q : Int)) = true := by rw [bne_iff_ne]; omega
          rcases Nat.lt_or_gt_of_ne hpq with hlt | hlt
          · have e2 : decide (p < q) = true := by simpa using hlt
            have hw := drop_lt HL.out.small HR.out.small HP.out HQ.out hv hlt (by rw [HL.out.len, HR.out.len])
            have HW := hide hw
            clear hw
            go_wp2_with fail
            go_quiet (fail)
            go_wp2_with fail
            go_quiet (fail)
            go_wp2_with fail
            go_ret
            exact ⟨ret_int (by rw [cmpI, if_pos HW.out]), below_drewN (below_drewN HB.out _) _⟩
          · have e2 : decide (p < q) = false := by simp; omega
            have hw := drop_lt HR.out.small HL.out.small HQ.out HP.out hv.symm hlt (by rw [HL.out.len, HR.out.len])
            have HW := hide hw
            clear hw
            go_wp2_with fail
            go_quiet (fail)
            go_wp2_with fail
            go_quiet (fail)
            go_wp2_with fail
            go_ret
            exact ⟨ret_int (by rw [cmpI, if_neg (by have := HW.out; omega), if_pos HW.out]), below_drewN (below_drewN HB.out _) _⟩
  · have h1 : ((n : Int) != (m : Int)) = true := by rw [bne_iff_ne]; omega
    go_enter Try.func46, Try.ntmps46
    go_wp2
    go_ret
    refine ⟨ret_int ?_, Below.refl _ _⟩
    have := wv_lt_of_len HR.out.small HLn.out (by rw [HL.out.len, HR.out.len]; exact h)
    rw [cmpI, if_neg (by omega), if_pos this]

theorem or_shl32 {a b : Nat} (ha : a < 4294967296) (hb : b < 4294967296) : bits .or .u64 (a : Int) ((b : Int) * 4294967296) = ((a + 4294967296 * b : Nat) : Int) := by
  have e : ((b : Int) * 4294967296) = ((4294967296 * b : Nat) : Int) := by omega
  rw [e, bits_or_u64_nat _ _ (by omega) (by omega)]
  have h := Nat.two_pow_add_eq_or_of_lt (i := 32) (b := a) ha b
  rw [Nat.or_comm, ← h]
  exact congrArg Int.ofNat (by omega)
theorem wv_mod (l : List Nat) (k : Nat) (hk : k ≤ l.length) (hl : ∀ (j d : Nat), l[j]? = some d → d < 4294967296) : wv l % 4294967296 ^ k = wv (l.take k) := by
  have hb := wv_lt (l.take k) (fun i d hd => hl i d (by
    rw [List.getElem?_take] at hd
    split at hd
    · exact hd
    · cases hd))
  rw [List.length_take, Nat.min_eq_left hk] at hb
  rw [wv_split l k hk, Nat.add_mul_mod_self_left, Nat.mod_eq_of_lt hb]

set_option maxRecDepth 100000 in
set_option maxHeartbeats 800000 in
theorem plain_any (v : Value) (x : Nat) (w : World) (ha : NatAt w v x) (hx : x < lim) :
    Calls Try.prog 192 #[v] w fun e w' => e = .returned (.int .u64 ((x % 18446744073709551616 : Nat) : Int)) ∧ w = w' := by
  obtain ⟨A, n, c, l, rfl, hl, hnl, hv, hn⟩ := ha.open_ hx
  have HL := hide hl
  have HV := hide hv
  clear hl hnl hv ha hx
  by_cases h0 : n = 0
  · subst h0
    have e0 : Hid (x % 18446744073709551616 = 0) := by
      have := HL.out.len
      have e := List.eq_nil_of_length_eq_zero this
      have h := HV.out
      rw [e] at h
      unfold Hid
      rw [← h]; rfl
    go_enter Try.func192, Try.ntmps192
    go_wp2
    go_ret
    exact ⟨ret_int (by rw [e0.out]; rfl), rfl⟩
  · obtain ⟨ad, p, rfl, hp, hp1, hpb, hpc⟩ := HL.out.at_ (k := 0) (by omega)
    rw [addr_zero] at hpc
    have HP := hide hp
    clear hp
    have h1 : decide (0 < n) = true := by simp; omega
    by_cases h2 : n = 1
    · subst h2
      have e0 : Hid (x % 18446744073709551616 = p) := by
        have h := HV.out
        have e : l = [p] := by
          have := HL.out.len
          have hh := HP.out
          match l, this with
          | [a], _ => simp at hh; rw [hh]
        unfold Hid
        rw [← h, e]
        simp only [wv]; omega
      go_enter Try.func192, Try.ntmps192
      go_wp2
      go_ret
      exact ⟨ret_int (by rw [e0.out]), rfl⟩
    · obtain ⟨bd, q, hbd, hq, hq1, hqb, hqc⟩ := HL.out.at_ (k := 1) (by omega)
      injection hbd with hbd
      subst hbd
      have h3 : decide ((1 : Int) < (n : Int)) = true := by rw [decide_eq_true_eq]; omega
      rw [addr_pos _ 1 (by omega)] at hqc
      have e0 : Hid (x % 18446744073709551616 = p + 4294967296 * q) := by
        have h := HV.out
        have hm := wv_mod l 2 (by rw [HL.out.len]; omega) HL.out.small
        have e : l.take 2 = [p, q] := by
          have hh := HP.out
          have := HL.out.len
          match l, hh, hq with
          | a :: b :: r, hh, hq => simp at hh hq; simp [hh, hq]
          | [a], _, hq => simp at hq
        rw [e, h] at hm
        unfold Hid
        have e2 : (4294967296 ^ 2 : Nat) = 18446744073709551616 := rfl
        rw [e2] at hm
        rw [hm]
        simp [wv]
      have HQ := hide hq
      clear hq
      go_enter Try.func192, Try.ntmps192
      go_wp2
      go_ret
      exact ⟨ret_int (by rw [e0.out, or_shl32 hp1 hq1]), rfl⟩

/-- the length in bits -/
def blen (x : Nat) : Nat := if x = 0 then 0 else Nat.log2 x + 1
theorem blen_le {x k : Nat} (h : x < 2 ^ k) : blen x ≤ k := by
  unfold blen
  split
  · omega
  · rename_i h0
    have := (Nat.log2_lt h0).2 h
    omega
theorem lt_blen (x : Nat) : x < 2 ^ blen x := by
  unfold blen
  split
  · rename_i h; subst h; simp
  · exact Nat.lt_log2_self
theorem blen_ge {x : Nat} (h0 : x ≠ 0) : 2 ^ (blen x - 1) ≤ x := by
  unfold blen
  rw [if_neg h0, Nat.add_sub_cancel]
  exact Nat.log2_self_le h0
theorem blen_eq {x k : Nat} (h1 : 2 ^ k ≤ x) (h2 : x < 2 ^ (k + 1)) : blen x = k + 1 := by
  have h0 : x ≠ 0 := by have : 0 < 2 ^ k := Nat.pow_pos (by omega); omega
  have a := blen_le h2
  have b := lt_blen x
  apply Nat.le_antisymm a
  apply Nat.le_of_not_lt
  intro hc
  have : 2 ^ blen x ≤ 2 ^ k := Nat.pow_le_pow_right (by omega) (by omega)
  omega
theorem blen_half {x : Nat} (h0 : x ≠ 0) : blen x = blen (x / 2) + 1 := by
  by_cases h1 : x = 1
  · subst h1; rfl
  · have e : blen (x / 2) = (blen x - 2) + 1 := by
      have hb := blen_ge h0
      have hu := lt_blen x
      have h2 : 2 ≤ blen x := by
        apply Nat.le_of_not_lt
        intro hc
        have : 2 ^ blen x ≤ 2 ^ 1 := Nat.pow_le_pow_right (by omega) (by omega)
        omega
      obtain ⟨k, hk⟩ : ∃ k, blen x = k + 2 := ⟨blen x - 2, by omega⟩
      rw [hk] at hb hu ⊢
      have e1 : 2 ^ (k + 2 - 1) = 2 * 2 ^ k := by rw [show k + 2 - 1 = k + 1 from by omega, Nat.pow_succ]; omega
      have e2 : 2 ^ (k + 2) = 4 * 2 ^ k := by rw [Nat.pow_succ, Nat.pow_succ]; omega
      have e3 : 2 ^ (k + 1) = 2 * 2 ^ k := by rw [Nat.pow_succ]; omega
      rw [show k + 2 - 2 = k from by omega]
      exact blen_eq (by omega) (by omega)
    have h2 : 2 ≤ blen x := by
      apply Nat.le_of_not_lt
      intro hc
      have : 2 ^ blen x ≤ 2 ^ 1 := Nat.pow_le_pow_right (by omega) (by omega)
      have := lt_blen x
      omega
    omega
theorem blen_words {l : List Nat} {n d : Nat} (hl : l.length = n + 1) (hd : l[n]? = some d) (hd0 : d ≠ 0) (hs : ∀ (j d : Nat), l[j]? = some d → d < 4294967296) : blen (wv l) = n * 32 + blen d := by
  have e : wv l = wv (l.take n) + 4294967296 ^ n * d := by
    obtain ⟨h1, e1⟩ := List.getElem?_eq_some_iff.1 hd
    rw [wv_split l n (by omega), List.drop_eq_getElem_cons h1, e1, List.drop_eq_nil_of_le (by omega)]
    simp [wv]
  have hb := wv_lt (l.take n) (fun i d hd => hs i d (by
    rw [List.getElem?_take] at hd
    split at hd
    · exact hd
    · cases hd))
  rw [List.length_take, Nat.min_eq_left (by omega)] at hb
  have e32 : (4294967296 : Nat) ^ n = 2 ^ (n * 32) := by rw [Nat.mul_comm, Nat.pow_mul]
  rw [e32] at e hb
  have h1 := blen_ge hd0
  have h2 := lt_blen d
  have h3 : 1 ≤ blen d := by
    apply Nat.le_of_not_lt
    intro hc
    have : 2 ^ blen d ≤ 2 ^ 0 := Nat.pow_le_pow_right (by omega) (by omega)
    omega
  obtain ⟨k, hk⟩ : ∃ k, blen d = k + 1 := ⟨blen d - 1, by omega⟩
  rw [hk] at h1 h2 ⊢
  rw [Nat.add_sub_cancel] at h1
  refine blen_eq (k := n * 32 + k) ?_ ?_
  · rw [e, Nat.pow_add]
    have := Nat.mul_le_mul_left (2 ^ (n * 32)) h1
    omega
  · rw [e, show n * 32 + k + 1 = n * 32 + (k + 1) from by omega, Nat.pow_add]
    have := Nat.mul_le_mul_left (2 ^ (n * 32)) (show d + 1 ≤ 2 ^ (k + 1) by omega)
    rw [Nat.mul_succ] at this
    omega

set_option maxRecDepth 100000 in
set_option maxHeartbeats 800000 in
theorem length_any (v : Value) (x : Nat) (w : World) (ha : NatAt w v x) (hx : x < lim) :
    Calls Try.prog 96 #[v] w fun e w' => e = .returned (.int .i64 (blen x : Int)) ∧ w = w' := by
  obtain ⟨A, n, c, l, rfl, hl, hnl, hv, hn⟩ := ha.open_ hx
  have HL := hide hl
  have HV := hide hv
  have HN := hide hnl
  clear hl hnl hv ha hx
  by_cases h0 : n = 0
  · subst h0
    have e0 : Hid (x = 0) := by
      have := HL.out.len
      have e := List.eq_nil_of_length_eq_zero this
      have h := HV.out
      rw [e] at h
      unfold Hid
      rw [← h]; rfl
    go_enter Try.func96, Try.ntmps96
    go_wp2
    go_ret
    exact ⟨ret_int (by rw [e0.out]; rfl), rfl⟩
  · obtain ⟨m, rfl⟩ : ∃ m, n = m + 1 := ⟨n - 1, by omega⟩
    obtain ⟨ad, p, rfl, hp, hp1, hpb, hpc⟩ := HL.out.at_ (k := m) (by omega)
    have hp0 : p ≠ 0 := by
      refine HN.out p ?_
      rw [List.getLast?_eq_getElem?, HL.out.len, Nat.add_sub_cancel]; exact hp
    have hbl : Hid (blen x = m * 32 + blen p) := by
      unfold Hid
      rw [← HV.out]
      exact blen_words HL.out.len hp hp0 HL.out.small
    have hb32 : blen p ≤ 32 := blen_le (k := 32) hp1
    have h1 : (((m : Int) + 1) == 0) = false := by rw [beq_eq_false_iff_ne]; omega
    clear hp hp0 h0
    go_enter Try.func96, Try.ntmps96
    go_wp2
    go_loop [3, 4] (fun a t => ∃ (k q : Nat), q < 4294967296 ∧ k ≤ 32 ∧ Hid (k + blen q = blen p) ∧ a = .int .i64 k ∧ t = .int .u32 q) (fun _ t => (intOf t).toNat)
    case atStart => exact ⟨0, p, hp1, by omega, by unfold Hid; omega, rfl, rfl⟩
    case round =>
      obtain ⟨k, q, hq, hk, hkq, rfl, rfl⟩ := hrel
      by_cases hq0 : q = 0
      · subst hq0
        have he : Hid (k = blen p) := by have := hkq.out; unfold Hid; simpa [blen] using this
        go_wp2
        go_ret
        refine ⟨ret_int ?_, rfl⟩
        rw [hbl.out, ← he.out]
        simp
      · have e1 : ((q : Int) != 0) = true := by rw [bne_iff_ne]; omega
        have hk2 : Hid (k + 1 + blen (q / 2) = blen p) := by have := hkq.out; have := blen_half hq0; unfold Hid; omega
        have hk3 : k + 1 ≤ 32 := by have := hk2.out; omega
        have hq1 : 0 < q := by omega
        clear hq0
        go_wp2
        go_round
        case rel => exact ⟨k + 1, q / 2, by omega, by omega, hk2, by go_num, by simp⟩
        case measure => simp [intOf]; omega
end Go.Proofs.Ytlchmaiflcnaoaa
