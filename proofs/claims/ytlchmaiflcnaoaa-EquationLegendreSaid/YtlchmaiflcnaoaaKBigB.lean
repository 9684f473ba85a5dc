/- The walks of package arithmeticabig's functions on lists of words that make new ones: twin, words, add, sub, mul, small. Each under a bound on the numbers. -/
import Derived.Test.YtlchmaiflcnaoaaKBigA
import Derived.Deep.OwnRows
import Derived.Laws.AppendOwnNone
namespace Go.Proofs.Ytlchmaiflcnaoaa
open Go.RowKit

/-- words as cells -/
def wcs (l : List Nat) : Array Value := (l.map fun n : Nat => Value.int .u32 (n : Int)).toArray
theorem wcs_get (l : List Nat) (i : Nat) : (wcs l)[i]? = (l[i]?).map fun n : Nat => Value.int .u32 (n : Int) := by simp [wcs]
theorem wcs_size (l : List Nat) : (wcs l).size = l.length := by simp [wcs]
theorem wcs_set (l : List Nat) (i d : Nat) : (wcs l).setIfInBounds i (.int .u32 (d : Int)) = wcs (l.set i d) := by
  apply Array.ext_getElem?
  intro j
  rw [Array.getElem?_setIfInBounds, wcs_size, wcs_get, wcs_get, List.getElem?_set]
  by_cases h : i = j
  · subst h
    by_cases h2 : i < l.length
    · simp [h2]
    · simp [h2]
  · simp [h]
theorem wcs_zero (n : Nat) : madeCells #[.int .u32 0] n = wcs (List.replicate n 0) := by
  apply Array.ext_getElem?
  intro j
  rw [wcs_get, List.getElem?_replicate]
  by_cases h : j < n
  · simp [madeCells, h, Nat.mod_one]
  · simp [madeCells, h]
theorem set_next (D : List Nat) (m d : Nat) : (D ++ List.replicate (m + 1) 0).set D.length d = (D ++ [d]) ++ List.replicate m 0 := by
  rw [List.set_append_right _ _ (Nat.le_refl _), Nat.sub_self, List.replicate_succ]
  simp

theorem uinfo : (Try.prog.info? 108).map (fun i => (i.zero, i.size, i.bytes)) = some (some (.int .u32 0), 1, 4) := by kernel_rfl

theorem blk_new (w : World) (cs : Array Value) (T : TypeId) : (w.alloc (.cells cs T)).heap[w.heap.size]? = some (.cells cs T (0, 0)) := by
  show (w.heap.push _)[w.heap.size]? = _
  simp

/-- a fresh block of words reads as its list -/
theorem Wds.fresh (w : World) (l : List Nat) (hs : ∀ (j d : Nat), l[j]? = some d → d < 4294967296) (n : Nat) (hn : l.length = n) : Wds (w.alloc (.cells (wcs l) 108)) (some ⟨w.heap.size, 0, none⟩) n n l :=
  ⟨hn, Nat.le_refl _, hs, fun j d hd => ⟨_, _, _, rfl, blk_new _ _ _, by
    have e : (⟨w.heap.size, 0, none⟩ : Addr).add j = ⟨w.heap.size, j, none⟩ := by
      unfold Addr.add
      split
      · rename_i h0; subst h0; rfl
      · simp
    rw [e]
    simp [wcs_get, hd]⟩, fun h => by cases h⟩

theorem wv_take_succ {l : List Nat} {k d : Nat} (hd : l[k]? = some d) : wv (l.take (k + 1)) = wv (l.take k) + 4294967296 ^ k * d := by
  have hk : k < l.length := (List.getElem?_eq_some_iff.1 hd).1
  rw [List.take_add_one, hd, wv_append, List.length_take, Nat.min_eq_left (by omega)]
  simp [wv]
theorem wv_take_past {l : List Nat} {k : Nat} (hd : l.length ≤ k) : wv (l.take (k + 1)) = wv (l.take k) := by
  rw [List.take_of_length_le hd, List.take_of_length_le (by omega)]
theorem wv_snoc (D : List Nat) (d : Nat) : wv (D ++ [d]) = wv D + 4294967296 ^ D.length * d := by rw [wv_append]; simp [wv]
theorem add_step {V P c a b d e S : Nat} (h : V + P * c = S) (hs : c + a + b = d + 4294967296 * e) : V + P * d + P * 4294967296 * e = S + P * a + P * b := by
  have h2 : P * (c + a + b) = P * (d + 4294967296 * e) := by rw [hs]
  grind
theorem small_snoc {D : List Nat} {d : Nat} (h : ∀ (j d : Nat), D[j]? = some d → d < 4294967296) (hd : d < 4294967296) : ∀ (j e : Nat), (D ++ [d])[j]? = some e → e < 4294967296 := by
  intro j e he
  rw [List.getElem?_append] at he
  split at he
  · exact h j e he
  · rcases Nat.eq_zero_or_pos (j - D.length) with h0 | h0
    · rw [h0] at he; simp at he; omega
    · rw [List.getElem?_eq_none (by simp; omega)] at he; cases he

theorem NatAt.of_own {w : World} {base n x : Nat} {v : Value} {l : List Nat} (h : w.ownsRow base 108 1 v n (wcs l).toList) (hn : l.length = n) (hs : ∀ (j d : Nat), l[j]? = some d → d < 4294967296) (hN : Norm l) (hv : wv l = x) : NatAt w v x := by
  obtain ⟨h1, h2⟩ := h
  rcases h2 with ⟨rfl, rfl⟩ | ⟨g, cap, cur, rfl, hg, hh, hnc, hcm, hsz, ht⟩
  · have hl := List.eq_nil_of_length_eq_zero hn
    subst hl
    exact ⟨_, _, _, _, rfl, ⟨rfl, Nat.le_refl _, hs, fun j d hd => by simp at hd, fun _ => rfl⟩, hN, hv⟩
  · refine ⟨_, _, _, _, rfl, ⟨hn, hnc, hs, fun j d hd => ⟨_, _, _, rfl, hh, ?_⟩, fun e => by cases e⟩, hN, hv⟩
    have e : (⟨g, 0, none⟩ : Addr).add j = ⟨g, j, none⟩ := by
      unfold Addr.add
      split
      · rename_i h0; subst h0; rfl
      · simp
    have hj : (cur.toList.take (n * 1))[j]? = some (.int .u32 (d : Int)) := by
      rw [ht, Array.getElem?_toList, wcs_get, hd]; rfl
    rw [List.getElem?_take] at hj
    split at hj
    · rw [Array.getElem?_toList] at hj
      rw [e]
      simp [World.cell?, hh, hj]
    · cases hj

set_option maxRecDepth 100000 in
set_option maxHeartbeats 800000 in
theorem twin_any (v : Value) (x : Nat) (w : World) (ha : NatAt w v x) (hx : x < lim) :
    Calls Try.prog 133 #[v] w (RetNat w x) := by
  obtain ⟨A, n, c, l, rfl, hl, hnl, hv, hn⟩ := ha.open_ hx
  have HL := hide hl
  have HV := hide hv
  have HN := hide hnl
  obtain ⟨i0, hi, hz0, hz1, hz2⟩ := info_parts uinfo
  clear hl hnl hv ha hx
  cases A with
  | none =>
    have hc := HL.out.nil rfl
    subst hc
    have hn0 : n = 0 := by have := HL.out.cap; omega
    subst hn0
    go_enter Try.func133, Try.ntmps133
    go_wp2_with (at_builtin; refine wpList_append_own_none rfl _ _ _ rfl w.heap.size 108 i0 1 Try.underlying56 hi (.slice none 0 0) 0 [] rfl ⟨rfl, .inl ⟨rfl, rfl⟩⟩ rfl ?_)
    go_ret
    refine ⟨_, rfl, ⟨_, _, _, _, rfl, HL.out, HN.out, HV.out⟩, Below.refl _ _⟩
  | some ad =>
    go_enter Try.func133, Try.ntmps133
    go_wp2_with (at_builtin; refine wpList_append_own _ rfl _ _ _ rfl w.heap.size 108 i0 (.int .u32 0) 1 4 Try.underlying56 hi hz0 hz1 hz2 rfl (by decide) (.slice none 0 0) 0 [] rfl ⟨rfl, .inl ⟨rfl, rfl⟩⟩ ad n c (wcs l).toList rfl ?c1 ?c2 ?c3 ?c4 ?c5 ?c6 ?_)
    case c1 => simp [wcs, HL.out.len]
    case c2 =>
      intro j u hu
      rw [Array.getElem?_toList, wcs_get] at hu
      cases hd : l[j]? with
      | none => rw [hd] at hu; cases hu
      | some d =>
        rw [hd] at hu
        obtain ⟨ad', cs, fr, e, hb, hc⟩ := HL.out.cell j d hd
        injection e with e
        subst e
        injection hu with hu
        rw [← hu]; exact hc
    case c3 =>
      intro u hu
      simp [wcs] at hu
      obtain ⟨d, _, rfl⟩ := hu
      rfl
    case c4 => simp only [maxLen]; omega
    case c5 => omega
    case c6 => exact Nat.le_refl _
    intro v' w' hown hg _
    go_wp2
    go_ret
    refine ⟨_, rfl, ?_, (Below.refl _ _).grown hg (Nat.le_refl _) (by simp [Value.ownBlock])⟩
    exact (NatAt.of_own hown HL.out.len HL.out.small HN.out HV.out)

theorem lim_u64 {x : Nat} (h : x < 18446744073709551616) : x < lim := by
  unfold lim
  have : 4294967296 ^ 2 ≤ 4294967296 ^ limW := Nat.pow_le_pow_right (by omega) (by decide)
  have e : (4294967296 : Nat) ^ 2 = 18446744073709551616 := rfl
  omega

theorem u64_low (x : Nat) : IntKind.u32.wrap (x : Int) = ((x % 4294967296 : Nat) : Int) := by rw [IntKind.wrap_u32]; omega

set_option maxRecDepth 100000 in
set_option maxHeartbeats 800000 in
theorem words_any (x : Nat) (w : World) (hx : x < 18446744073709551616) :
    Calls Try.prog 118 #[.int .u64 x] w (RetNat w x) := by
  have hl : ∀ (j d : Nat), [x % 4294967296, x / 4294967296][j]? = some d → d < 4294967296 := by
    intro j d hd
    match j, hd with
    | 0, hd => simp at hd; omega
    | 1, hd => simp at hd; omega
  have hv : wv [x % 4294967296, x / 4294967296] = x := by simp only [wv]; omega
  have C := hide (trim_any (some ⟨w.heap.size, 0, none⟩) 2 2 _ _ (Wds.fresh w _ hl 2 rfl) (by omega))
  have hb := (Below.refl w.heap.size w).alloc (Nat.le_refl _) (.cells (wcs [x % 4294967296, x / 4294967296]) 108)
  rw [hv] at C
  have e : wcs [x % 4294967296, x / 4294967296] = #[.int .u32 ((x : Int) % 4294967296), .int .u32 ((x : Int) / 4294967296)] := by simp [wcs]
  rw [e] at C hb
  have HB := hide hb
  clear hl hv hb e
  go_enter Try.func118, Try.ntmps118
  go_wp2_with fail
  refine C.out.mono ?_
  rintro e w' ⟨v, rfl, hn, hbw⟩
  have HN := hide hn
  have HW := hide hbw
  clear hn hbw
  go_wp2_with fail
  go_ret
  exact ⟨_, rfl, HN.out, HB.out.trans (HW.out.mono HB.out.size)⟩

/-- what stands between the rounds of a loop that makes a list of words, one a round -/
structure Made (D L : List Nat) (k p : Nat) : Prop where
  len : D.length = k
  all : L = D ++ List.replicate p 0
  small : ∀ (j d : Nat), D[j]? = some d → d < 4294967296
theorem Made.start (p : Nat) : Made [] (List.replicate p 0) 0 p := ⟨rfl, rfl, fun j d h => by simp at h⟩
theorem Made.cell {D L : List Nat} {k p : Nat} (h : Made D L k p) (hp : 0 < p) : (wcs L)[k]? = some (.int .u32 0) := by
  rw [wcs_get, h.all, List.getElem?_append_right (by rw [h.len]; omega), h.len, Nat.sub_self]
  obtain ⟨p, rfl⟩ : ∃ q, p = q + 1 := ⟨p - 1, by omega⟩
  rfl
theorem Made.next {D L : List Nat} {k p d : Nat} (h : Made D L k (p + 1)) (hd : d < 4294967296) : Made (D ++ [d]) (L.set k d) (k + 1) p :=
  ⟨by simp [h.len], by rw [h.all, ← h.len, set_next], small_snoc h.small hd⟩
theorem Made.store {D L : List Nat} {k p d : Nat} (_h : Made D L k p) : (wcs L).setIfInBounds k (.int .u32 (d : Int)) = wcs (L.set k d) := wcs_set L k d
theorem Made.done {D L : List Nat} {k : Nat} (h : Made D L k 0) : L = D := by rw [h.all]; simp

theorem trim_fresh {D L : List Nat} {k : Nat} (h : Made D L k 0) (hk : k ≤ 10000) (w : World) :
    Calls Try.prog 91 #[.slice (some ⟨w.heap.size, 0, none⟩) k k] (w.alloc (.cells (wcs L) 108)) (RetNat w (wv D)) := by
  have e := h.done
  subst e
  refine (trim_any _ _ _ _ _ (Wds.fresh w L h.small k h.len) hk).mono ?_
  rintro e w' ⟨v, rfl, hn, hb⟩
  exact ⟨v, rfl, hn, ((Below.refl _ _).alloc (Nat.le_refl _) _).trans (hb.mono (by simp))⟩

set_option maxRecDepth 100000 in
set_option maxHeartbeats 1600000 in
theorem add_any (va vb : Value) (x y : Nat) (w : World) (ha : NatAt w va x) (hb : NatAt w vb y) (hx : x < lim) (hy : y < lim) :
    Calls Try.prog 89 #[va, vb] w (RetNat w (x + y)) := by
  obtain ⟨A, n, c, l, rfl, hl, hnl, rfl, hn⟩ := ha.open_ hx
  obtain ⟨B, m, d, r, rfl, hr, hnr, rfl, hm⟩ := hb.open_ hy
  have HL := hide hl
  have HR := hide hr
  obtain ⟨T, hT⟩ : ∃ T, wv l + wv r = T := ⟨_, rfl⟩
  rw [hT]
  have HT := hide hT
  clear hl hr hnl hnr ha hb hx hy hT
  go_enter Try.func89, Try.ntmps89
  go_upto_if 12 with (fail)
  go_cut [0, 1] (fun a b wx => ∃ (A : Option Addr) (n c : Nat) (l : List Nat) (B : Option Addr) (m d : Nat) (r : List Nat), a = .slice A n c ∧ b = .slice B m d ∧ n ≤ 1000 ∧ m ≤ n ∧ Hid (Wds w A n c l) ∧ Hid (Wds w B m d r) ∧ Hid (wv l + wv r = T) ∧ wx = w)
  case first =>
    by_cases hlt : n < m
    · have h1 : decide (n < m) = true := by simpa using hlt
      go_wp2_with fail
      go_meet
      exact ⟨_, _, _, _, _, _, _, _, rfl, rfl, hm, by omega, HR, HL, by have := HT.out; unfold Hid; omega, rfl⟩
    · have h1 : decide (n < m) = false := by simpa using hlt
      go_wp2_with fail
      go_meet
      exact ⟨_, _, _, _, _, _, _, _, rfl, rfl, hn, by omega, HL, HR, HT, rfl⟩
  case rest =>
    obtain ⟨A, n, c, l, B, m, d, r, rfl, rfl, hn, hm, HL, HR, HT, hww⟩ := hcut
    subst hww
    have hmk := run_make_row' (P := Try.prog) 56 108 (.int .u32 0) 4 Try.underlying56 uinfo rfl .i64 .i64 (n + 1) (by omega) (by omega)
    rw [wcs_zero, show ((n + 1 : Nat) : Int) = (n : Int) + 1 from by omega] at hmk
    go_wp2_with fail
    clear hmk
    go_loopw [6, 7] (fun ac ai wr => ∃ (k q p : Nat) (D L : List Nat), k ≤ n ∧ q ≤ 1 ∧ Hid (k + p = n) ∧ Hid (Made D L k (p + 1)) ∧ Hid (wv D + 4294967296 ^ k * q = wv (l.take k) + wv (r.take k)) ∧ ac = .int .u64 q ∧ ai = .int .i64 k ∧ wr = wc.alloc (.cells (wcs L) 108)) (fun _ ai _ => n - (intOf ai).toNat)
    case atStart => exact ⟨0, 0, n, [], _, by omega, by omega, by unfold Hid; omega, Made.start _, by unfold Hid; simp [wv], rfl, rfl, rfl⟩
    case round =>
      obtain ⟨k, q, p, D, L, hk, hq, hp, HM, hv, rfl, rfl, rfl⟩ := hrel
      have hz := HM.out.cell (by omega)
      by_cases hkn : k < n
      · obtain ⟨ad, a, rfl, ha, ha1, hab, hac⟩ := HL.out.at_ hkn
        have c1 : (wc.alloc (.cells (wcs L) 108)).cell? (ad.add k) = some (.int .u32 (a : Int)) := by
          rw [World.cell?_alloc_lt _ _ _ (by rw [add_block]; exact hab)]; exact hac
        have HA := hide ha
        clear ha hac
        obtain ⟨p', rfl⟩ : ∃ p', p = p' + 1 := ⟨p - 1, by have := hp.out; omega⟩
        by_cases hkm : k < m
        · obtain ⟨bd, b, rfl, hb, hb1, hbb, hbc⟩ := HR.out.at_ hkm
          have c2 : (wc.alloc (.cells (wcs L) 108)).cell? (bd.add k) = some (.int .u32 (b : Int)) := by
            rw [World.cell?_alloc_lt _ _ _ (by rw [add_block]; exact hbb)]; exact hbc
          have HB := hide hb
          clear hb hbc
          have HN := hide (HM.out.next (d := (q + a + b) % 4294967296) (Nat.mod_lt _ (by omega)))
          have HV2 : Hid (wv (D ++ [(q + a + b) % 4294967296]) + 4294967296 ^ (k + 1) * ((q + a + b) / 4294967296) = wv (l.take (k + 1)) + wv (r.take (k + 1))) := by
            unfold Hid
            rw [wv_snoc, HM.out.len, wv_take_succ HA.out, wv_take_succ HB.out, Nat.pow_succ]
            have := add_step (a := a) (b := b) (d := (q + a + b) % 4294967296) (e := (q + a + b) / 4294967296) hv.out (by omega)
            omega
          go_wp2_with fail
          refine ⟨⟨k + 1, (q + a + b) / 4294967296, p', _, _, by omega, by omega, by have := hp.out; unfold Hid; omega, HN, HV2, by simp, by go_num, ?_⟩, by simp [intOf]; omega⟩
          rw [← wcs_set]; simp
        · have HN := hide (HM.out.next (d := (q + a) % 4294967296) (Nat.mod_lt _ (by omega)))
          have HV2 : Hid (wv (D ++ [(q + a) % 4294967296]) + 4294967296 ^ (k + 1) * ((q + a) / 4294967296) = wv (l.take (k + 1)) + wv (r.take (k + 1))) := by
            unfold Hid
            rw [wv_snoc, HM.out.len, wv_take_succ HA.out, wv_take_past (l := r) (by rw [HR.out.len]; omega), Nat.pow_succ]
            have := add_step (a := a) (b := 0) (d := (q + a) % 4294967296) (e := (q + a) / 4294967296) hv.out (by omega)
            omega
          go_wp2_with fail
          refine ⟨⟨k + 1, (q + a) / 4294967296, p', _, _, by omega, by omega, by have := hp.out; unfold Hid; omega, HN, HV2, by simp, by go_num, ?_⟩, by simp [intOf]; omega⟩
          rw [← wcs_set]; simp
      · obtain rfl : k = n := by omega
        obtain rfl : p = 0 := by have := hp.out; omega
        have HN := hide (HM.out.next (d := q) (by omega))
        have C := hide (trim_fresh HN.out (by omega) wc)
        have HV2 : Hid (wv (D ++ [q]) = T) := by
          unfold Hid
          have h1 := hv.out
          rw [List.take_of_length_le (by rw [HL.out.len]; omega), List.take_of_length_le (by rw [HR.out.len]; omega), HT.out] at h1
          rw [wv_snoc, HM.out.len]; exact h1
        go_wp2_with fail
        rw [wcs_set]
        refine C.out.mono ?_
        rintro e w' ⟨v, rfl, hn, hbw⟩
        have HN2 := hide hn
        have HW := hide hbw
        clear hn hbw
        go_wp2_with fail
        go_ret
        exact ⟨_, rfl, HV2.out ▸ HN2.out, HW.out⟩
end Go.Proofs.Ytlchmaiflcnaoaa
