/- The set-up of arithmeticabig's long division: what memory holds between its steps; the short ways of div. -/
import Derived.Test.YtlchmaiflcnaoaaKKnuth
import Derived.Laws.CopyOwn
import Derived.Deep.RegionWith
namespace Go.Proofs.Ytlchmaiflcnaoaa
open Go.RowKit

/-- what memory holds while the long division runs: u's words U in block gu, q's words Q in block gq, the divisor's words v -/
structure DW (w wr : World) (gu gq : Nat) (U Q : List Nat) (va : Addr) (n c : Nat) (v : List Nat) : Prop where
  bel : Below w.heap.size w wr
  base : w.heap.size ≤ gu
  lt : gu < gq
  u : wr.heap[gu]? = some (.cells (wcs U) 108 (0, 0))
  q : wr.heap[gq]? = some (.cells (wcs Q) 108 (0, 0))
  v : Wds wr (some va) n c v
  vb : va.block < gu

section
variable {w wr : World} {gu gq : Nat} {U Q : List Nat} {va : Addr} {n c : Nat} {v : List Nat}
theorem cell_of_blk {g : Nat} {L : List Nat} (h : wr.heap[g]? = some (.cells (wcs L) 108 (0, 0))) {k x : Nat} (hx : L[k]? = some x) : wr.cell? ⟨g, k, none⟩ = some (.int .u32 (x : Int)) := by
  simp [World.cell?, h, wcs_get, hx]
theorem frozen_of_blk {g : Nat} {cs : Array Value} {T : TypeId} (h : wr.heap[g]? = some (.cells cs T (0, 0))) (k : Nat) : wr.frozen? ⟨g, k, none⟩ = false := by
  simp [World.frozen?, h]
theorem set_blk {g : Nat} {L : List Nat} (h : wr.heap[g]? = some (.cells (wcs L) 108 (0, 0))) (k x : Nat) : (wr.setCell ⟨g, k, none⟩ (.int .u32 (x : Int))).heap[g]? = some (.cells (wcs (L.set k x)) 108 (0, 0)) := by
  simp [World.setCell, Array.getElem?_modify, h, wcs_set]
theorem far_blk {g : Nat} {p : Addr} (hp : g ≠ p.block) (u : Value) : (wr.setCell p u).heap[g]? = wr.heap[g]? := Below.heap_setCell wr p u g hp

theorem DW.cellU (h : DW w wr gu gq U Q va n c v) {k x : Nat} (hx : U[k]? = some x) : wr.cell? ⟨gu, k, none⟩ = some (.int .u32 (x : Int)) := cell_of_blk h.u hx
theorem DW.cellQ (h : DW w wr gu gq U Q va n c v) {k x : Nat} (hx : Q[k]? = some x) : wr.cell? ⟨gq, k, none⟩ = some (.int .u32 (x : Int)) := cell_of_blk h.q hx
theorem DW.frozU (h : DW w wr gu gq U Q va n c v) (k : Nat) : wr.frozen? ⟨gu, k, none⟩ = false := frozen_of_blk h.u k
theorem DW.frozQ (h : DW w wr gu gq U Q va n c v) (k : Nat) : wr.frozen? ⟨gq, k, none⟩ = false := frozen_of_blk h.q k
theorem DW.cellV (h : DW w wr gu gq U Q va n c v) {k x : Nat} (hx : v[k]? = some x) : wr.cell? (va.add k) = some (.int .u32 (x : Int)) := by
  obtain ⟨ad, cs, fr, e, _, hc⟩ := h.v.cell k x hx
  injection e with e
  subst e
  exact hc
theorem Wds.keptBut {A : Addr} {l : List Nat} (h : Wds wr (some A) n c l) {p : Addr} (hp : A.block ≠ p.block) (u : Value) : Wds (wr.setCell p u) (some A) n c l :=
  ⟨h.len, h.cap, h.small, fun j d hd => by
    obtain ⟨ad, cs, fr, e, hb, hc⟩ := h.cell j d hd
    injection e with e
    subst e
    have hk := far_blk (wr := wr) hp u
    exact ⟨A, cs, fr, rfl, hk.trans hb, (World.cell?_of_block (w := wr) (by rw [add_block]; exact hk)).trans hc⟩, h.nil⟩
theorem DW.setU (h : DW w wr gu gq U Q va n c v) (k x : Nat) : DW w (wr.setCell ⟨gu, k, none⟩ (.int .u32 (x : Int))) gu gq (U.set k x) Q va n c v :=
  ⟨h.bel.setCell (p := ⟨gu, k, none⟩) h.base _, h.base, h.lt, set_blk h.u k x, (far_blk (by have := h.lt; show gq ≠ gu; omega) _).trans h.q, h.v.keptBut (by have := h.vb; show va.block ≠ gu; omega) _, h.vb⟩
theorem DW.setQ (h : DW w wr gu gq U Q va n c v) (k x : Nat) : DW w (wr.setCell ⟨gq, k, none⟩ (.int .u32 (x : Int))) gu gq U (Q.set k x) va n c v :=
  ⟨h.bel.setCell (p := ⟨gq, k, none⟩) (Nat.le_trans h.base (Nat.le_of_lt h.lt)) _, h.base, h.lt, (far_blk (by have := h.lt; show gu ≠ gq; omega) _).trans h.u, set_blk h.q k x, h.v.keptBut (by have := h.vb; have := h.lt; show va.block ≠ gq; omega) _, h.vb⟩
theorem DW.drewN (h : DW w wr gu gq U Q va n c v) (k : Nat) : DW w (wr.drewN k) gu gq U Q va n c v :=
  ⟨below_drewN h.bel k, h.base, h.lt, h.u, h.q, h.v.drewN k, h.vb⟩
end

/-- a call's word on div: the quotient and the rest -/
def RetDiv (w : World) (x y : Nat) : Ending → World → Prop := fun e w' => ∃ v1 v2, e = .returned (.tuple #[v1, v2]) ∧ NatAt w' v1 (x / y) ∧ NatAt w' v2 (x % y) ∧ Below w.heap.size w w'

theorem cmp_lt (va vb : Value) (x y : Nat) (w : World) (ha : NatAt w va x) (hb : NatAt w vb y) (hx : x < lim) (hy : y < lim) (h : x < y) :
    Calls Try.prog 46 #[va, vb] w fun e w' => e = .returned (.int .i64 (-1)) ∧ Below w.heap.size w w' := by
  have := cmp_any va vb x y w ha hb hx hy
  rw [show cmpI x y = -1 from by rw [cmpI, if_pos h]] at this
  exact this
theorem cmp_ge (va vb : Value) (x y : Nat) (w : World) (ha : NatAt w va x) (hb : NatAt w vb y) (hx : x < lim) (hy : y < lim) (h : y ≤ x) :
    Calls Try.prog 46 #[va, vb] w fun e w' => ∃ z : Int, e = .returned (.int .i64 z) ∧ 0 ≤ z ∧ z ≤ 1 ∧ Below w.heap.size w w' := by
  refine (cmp_any va vb x y w ha hb hx hy).mono ?_
  rintro e w' ⟨rfl, hb⟩
  refine ⟨_, rfl, ?_, ?_, hb⟩
  · rw [cmpI, if_neg (by omega)]; split <;> omega
  · rw [cmpI, if_neg (by omega)]; split <;> omega

theorem len_pos {l : List Nat} {n : Nat} (h : l.length = n) (hp : 0 < wv l) : 0 < n := by
  rcases Nat.eq_zero_or_pos n with h0 | h0
  · have := List.eq_nil_of_length_eq_zero (h.trans h0)
    subst this
    simp [wv] at hp
  · exact h0

set_option maxRecDepth 100000 in
set_option maxHeartbeats 1600000 in
theorem div_lt (va vb : Value) (x y : Nat) (w : World) (ha : NatAt w va x) (hb : NatAt w vb y) (hx : x < lim) (hy : y < lim) (h : x < y) :
    Calls Try.prog 189 #[va, vb] w (RetDiv w x y) := by
  have C1 := hide (cmp_lt va vb x y w ha hb hx hy h)
  obtain ⟨B, m, d, r, rfl, hr, hnr, hyr, hm⟩ := hb.open_ hy
  have hm0 := len_pos hr.len (by omega)
  have h1 : ((m : Int) == 0) = false := by rw [beq_eq_false_iff_ne]; omega
  have HA := hide ha
  have HXl := hide hx
  have e1 : Hid (x / y = 0) := Nat.div_eq_of_lt h
  have e2 : Hid (x % y = x) := Nat.mod_eq_of_lt h
  clear ha hb hr hnr hyr hx hy h
  go_enter Try.func189, Try.ntmps189
  go_wp2_with fail
  refine C1.out.mono ?_
  rintro e w1 ⟨rfl, hb1⟩
  have HB1 := hide hb1
  have C2 := hide (twin_any va x w1 (HA.out.below hb1) HXl.out)
  clear hb1
  go_wp2_with fail
  refine C2.out.mono ?_
  rintro e w2 ⟨v, rfl, hn, hb2⟩
  have HN := hide hn
  have HB2 := hide hb2
  clear hn hb2
  go_wp2_with fail
  go_ret2
  exact ⟨_, _, rfl, by rw [e1.out]; exact nat_nil, by rw [e2.out]; exact HN.out, HB1.out.trans (HB2.out.mono HB1.out.size)⟩

theorem two_below {a b c : World} (h : Below a.drew.heap.size a.drew b) (k : Below b.heap.size b c) : Below a.heap.size a c :=
  ((Below.refl _ a).drew.trans h).trans (k.mono h.size)

theorem words_int (z : Int) (w : World) (h0 : 0 ≤ z) (h1 : z < 18446744073709551616) :
    Calls Try.prog 118 #[.int .u64 z] w (RetNat w z.toNat) := by
  have := words_any z.toNat w (by omega)
  rw [Int.toNat_of_nonneg h0] at this
  exact this

set_option maxRecDepth 100000 in
set_option maxHeartbeats 1600000 in
theorem div_two (va vb : Value) (x y : Nat) (w : World) (ha : NatAt w va x) (hb : NatAt w vb y) (hx : x < 18446744073709551616) (h0 : 0 < y) (h : y ≤ x) :
    Calls Try.prog 189 #[va, vb] w (RetDiv w x y) := by
  have hxl := lim_u64 hx
  have hyl : y < lim := lim_u64 (Nat.lt_of_le_of_lt h hx)
  have C1 := hide (cmp_ge va vb x y w ha hb hxl hyl h)
  obtain ⟨A, n, c, l, rfl, hl, hnl, hxl2, hn⟩ := ha.open_ hxl
  have hn2 : n ≤ 2 := by
    have := norm_len (k := 2) hnl hl.small (by rw [hxl2]; exact hx)
    rw [hl.len] at this; exact this
  obtain ⟨B, m, d, r, rfl, hr, hnr, hyr, hm⟩ := hb.open_ hyl
  have hm0 := len_pos hr.len (by omega)
  have h1 : ((m : Int) == 0) = false := by rw [beq_eq_false_iff_ne]; omega
  have hy : y < 18446744073709551616 := by omega
  have hy0 : (y : Int) ≠ 0 := by omega
  have HA := hide ha
  have HB := hide hb
  have HXl := hide hxl
  have HYl := hide hyl
  clear ha hb hl hr hnr hyr hnl hxl2 h hxl hyl hn hm hm0
  go_enter Try.func189, Try.ntmps189
  go_wp2_with fail
  refine C1.out.mono ?_
  rintro e w1 ⟨z, rfl, hz0, hz1, hb1⟩
  have HB1 := hide hb1
  have C2 := hide (plain_any _ x w1 (HA.out.below hb1) HXl.out)
  have C3 := hide (plain_any _ y w1 (HB.out.below hb1) HYl.out)
  rw [Nat.mod_eq_of_lt hx] at C2
  rw [Nat.mod_eq_of_lt hy] at C3
  clear hb1
  go_wp2_with fail
  refine C2.out.mono ?_
  rintro e w2 ⟨rfl, rfl⟩
  go_wp2_with fail
  refine C3.out.mono ?_
  rintro e w2 ⟨rfl, rfl⟩
  obtain ⟨Q, hQ⟩ : ∃ Q, Q = x / y := ⟨_, rfl⟩
  obtain ⟨R, hR⟩ : ∃ R, R = x % y := ⟨_, rfl⟩
  have HQ := hide hQ
  have HR := hide hR
  clear hQ hR
  go_upto_region 7 with (fail)
  go_cut [4, 5] (fun a4 a5 wx => NatAt wx a4 Q ∧ NatAt wx a5 R ∧ Below w1.heap.size w1 wx)
  case first =>
    have q2 : Q < 18446744073709551616 := by rw [HQ.out]; exact Nat.lt_of_le_of_lt (Nat.div_le_self _ _) hx
    have q4 : R < 18446744073709551616 := by rw [HR.out]; exact Nat.lt_trans (Nat.mod_lt _ h0) hy
    have t1 : (x : Int).tmod (y : Int) = (R : Int) := by rw [HR.out, Int.natCast_emod, Int.tmod_eq_emod_of_nonneg (by omega)]
    have t2 : (x : Int).tdiv (y : Int) = (Q : Int) := by rw [HQ.out, Int.natCast_ediv, Int.tdiv_eq_ediv_of_nonneg (by omega)]
    have t3 : IntKind.u64.wrap (Q : Int) = (Q : Int) := wrap_u64_nat _ q2
    go_region_with (go_at_call 118; refine (words_any _ _ (by assumption)).mono ?_; rintro e w' ⟨v, rfl, hn, hb⟩)
    all_goals
      go_wp2_with fail
      go_meet
      refine ⟨?_, ?_, ?_⟩
      · first | assumption | exact NatAt.below (by assumption) (by assumption)
      · first | assumption | exact NatAt.below (by assumption) (by assumption)
      · exact two_below (by assumption) (by assumption)
  case rest =>
    obtain ⟨h4, h5, h6⟩ := hcut
    have H4 := hide h4
    have H5 := hide h5
    have H6 := hide h6
    clear h4 h5 h6
    go_wp2_with fail
    go_ret2
    exact ⟨_, _, rfl, HQ.out ▸ H4.out, HR.out ▸ H5.out, HB1.out.trans (H6.out.mono HB1.out.size)⟩

set_option maxRecDepth 100000 in
set_option maxHeartbeats 1600000 in
theorem div_one (va vb : Value) (x y : Nat) (w : World) (ha : NatAt w va x) (hb : NatAt w vb y) (hx : x < lim) (hx2 : 18446744073709551616 ≤ x) (h0 : 0 < y) (h1y : y < 4294967296) :
    Calls Try.prog 189 #[va, vb] w (RetDiv w x y) := by
  have hyl : y < lim := lim_u64 (by omega)
  have C1 := hide (cmp_ge va vb x y w ha hb hx hyl (by omega))
  have HA := hide ha
  obtain ⟨A, n, c, l, rfl, hl, hnl, hxl2, hn⟩ := ha.open_ hx
  have hn2 : 2 < n := by
    apply Nat.lt_of_not_le
    intro hc
    have := wv_lt l hl.small
    rw [hl.len, hxl2] at this
    have h2 : 4294967296 ^ n ≤ 4294967296 ^ 2 := Nat.pow_le_pow_right (by omega) hc
    have e : (4294967296 : Nat) ^ 2 = 18446744073709551616 := rfl
    omega
  have hn3 : decide ((n : Int) ≤ 2) = false := by rw [decide_eq_false_iff_not]; omega
  obtain ⟨B, m, d, r, rfl, hr, hnr, hyr, hm⟩ := hb.open_ hyl
  have hm0 := len_pos hr.len (by omega)
  have hm1 : m ≤ 1 := by
    have := norm_len (k := 1) hnr hr.small (by rw [hyr]; simpa using h1y)
    rw [hr.len] at this; exact this
  obtain rfl : m = 1 := by omega
  obtain ⟨bd, b, rfl, hb1, hb2, hbb, hbc⟩ := hr.at_ (k := 0) (by omega)
  rw [addr_zero] at hbc
  have hby : b = y := by
    have := hr.len
    match r, this with
    | [a], _ => simp at hb1; simp [wv] at hyr; omega
  subst hby
  have HX := hide hx
  clear hl hr hnr hyr hnl hxl2 hn hm hm0 hb1 hyl hb
  go_enter Try.func189, Try.ntmps189
  go_wp2_with fail
  refine C1.out.mono ?_
  rintro e w1 ⟨z, rfl, hz0, hz1, hw1⟩
  have HB1 := hide hw1
  have c1 : w1.cell? bd = some (.int .u32 (b : Int)) := (hw1.cell hbb).trans hbc
  have C2 := hide (small_any _ x b w1 (HA.out.below hw1) HX.out h0 h1y)
  clear hw1 hbc hx hx2
  go_wp2_with fail
  refine C2.out.mono ?_
  rintro e w2 ⟨v, rfl, hn, hw2⟩
  have HN := hide hn
  have HB2 := hide hw2
  have hlt : x % b < 4294967296 := by have := Nat.mod_lt x h0; omega
  obtain ⟨R, hR⟩ : ∃ R, R = x % b := ⟨_, rfl⟩
  rw [← hR] at hlt ⊢
  have HR := hide hR
  have hl : ∀ (j d : Nat), [R][j]? = some d → d < 4294967296 := by
    intro j d hd
    match j, hd with
    | 0, hd => simp at hd; omega
  have hv : wv [R] = R := by simp [wv]
  have C := trim_any (some ⟨w2.heap.size, 0, none⟩) 1 1 _ _ (Wds.fresh w2 [R] hl 1 rfl) (by omega)
  have hb := (Below.refl w2.heap.size w2).alloc (Nat.le_refl _) (.cells (wcs [R]) 108)
  rw [hv] at C
  have e : wcs [R] = #[.int .u32 (R : Int)] := by simp [wcs]
  rw [e] at C hb
  have HB := hide hb
  have HC := hide C
  clear hl hv hb e C hn hw2 hR
  go_wp2_with fail
  refine HC.out.mono ?_
  rintro e w3 ⟨v3, rfl, hn3, hw3⟩
  have HN3 := hide hn3
  have HB3 := hide hw3
  clear hn3 hw3
  go_wp2_with fail
  go_ret2
  have hb23 : Below w2.heap.size w2 w3 := HB.out.trans (HB3.out.mono HB.out.size)
  exact ⟨_, _, rfl, HN.out.below hb23, HR.out ▸ HN3.out, HB1.out.trans ((HB2.out.trans (hb23.mono HB2.out.size)).mono HB1.out.size)⟩
end Go.Proofs.Ytlchmaiflcnaoaa
