/- The walks of the big package's Text to the base of ten and String, at numbers from 0 on. -/
import Derived.Test.YtgocnjklpafabaaDoorRefB
import Derived.Test.YtgocnjklpafabaaDoorPathW
import Derived.Laws.IdiomStrings
import Derived.Deep.LoopGhost
import Derived.Deep.AppendLies
namespace Go.Proofs.YtgocnjklpafabaaDoor
open Go.RowKit

theorem one_nw (W : World) (a : Value) (T : TypeId) : ∀ (j : Nat) (u : Value), [a][j]? = some u → (W.alloc (.cells #[a] T)).cell? ((⟨W.heap.size, 0, none⟩ : Addr).add j) = some u :=
  World.news_of_block (cs := #[a]) (t := T) (fr := (0, 0)) (heap_alloc_new W _)
theorem dd_small {u : Nat} (h : u < 10) : Lib.decDigits u = [UInt8.ofNat (48 + u)] := by rw [Lib.decDigits, dif_pos h]
theorem dd_big {u : Nat} (h : ¬ u < 10) : Lib.decDigits u = Lib.decDigits (u / 10) ++ [UInt8.ofNat (48 + u % 10)] := by rw [Lib.decDigits, dif_neg h]
/-- behind some digits, the least first: Y is left of X -/
def DigAt (X Y : Nat) (B : List UInt8) : Prop := (0 < Y → Lib.decDigits X = Lib.decDigits Y ++ B.reverse) ∧ (Y = 0 → Lib.decDigits X = B.reverse) ∧ Y * 10 ^ B.length ≤ X ∧ (1 ≤ B.length → 10 ^ (B.length - 1) ≤ X)
theorem DigAt.start {X : Nat} (h : 0 < X) : DigAt X X [] := ⟨fun _ => by simp, fun h0 => by omega, by simp, fun h => by simp at h⟩
theorem DigAt.step {X Y : Nat} {B : List UInt8} (h : DigAt X Y B) (hY : 0 < Y) : DigAt X (Y / 10) (B ++ [UInt8.ofNat (48 + Y % 10)]) := by
  obtain ⟨h1, _, h3, _⟩ := h
  have h4 := h1 hY
  have hp : 0 < 10 ^ B.length := Nat.pow_pos (by omega)
  refine ⟨fun h0 => ?_, fun h0 => ?_, ?_, fun _ => ?_⟩
  · rw [h4, dd_big (by omega)]; simp
  · rw [h4, dd_small (by omega), Nat.mod_eq_of_lt (by omega)]; simp
  · rw [List.length_append, List.length_singleton, Nat.pow_succ, Nat.mul_comm (10 ^ B.length), ← Nat.mul_assoc]
    exact Nat.le_trans (Nat.mul_le_mul_right _ (Nat.div_mul_le_self Y 10)) h3
  · rw [List.length_append, List.length_singleton, Nat.add_sub_cancel]
    exact Nat.le_trans (Nat.le_mul_of_pos_left _ hY) h3
theorem DigAt.len {X Y : Nat} {B : List UInt8} (h : DigAt X Y B) (hX : X < 10000000000000000000) : B.length ≤ 19 := by
  rcases Nat.lt_or_ge 19 B.length with h1 | h1
  · have h2 := h.2.2.2 (by omega)
    have h3 : (10 : Nat) ^ 19 ≤ 10 ^ (B.length - 1) := Nat.pow_le_pow_right (by omega) (by omega)
    have h4 : (10 : Nat) ^ 19 = 10000000000000000000 := by decide
    omega
  · exact h1
/-- the list behind k swaps from both ends -/
def swp (B : List UInt8) (k i : Nat) : UInt8 := if i < k ∨ B.length ≤ i + k then B.getD (B.length - 1 - i) 0 else B.getD i 0
theorem swp_zero (B : List UInt8) {i : Nat} (h : i < B.length) : swp B 0 i = B.getD i 0 := by unfold swp; rw [if_neg (by omega)]
theorem swp_end {B : List UInt8} {k i : Nat} (h : B.length ≤ 2 * k + 1) (hi : i < B.length) : swp B k i = B.reverse.getD i 0 := by
  unfold swp
  rw [List.getD_eq_getElem?_getD, List.getD_eq_getElem?_getD, List.getD_eq_getElem?_getD, List.getElem?_reverse hi]
  split
  · rfl
  · rename_i h1
    have : i = B.length - 1 - i := by omega
    rw [← this]
theorem swp_next {B : List UInt8} {k i : Nat} (hk : 2 * k + 1 < B.length) : swp B (k + 1) i = if i = k then swp B k (B.length - 1 - k) else if i = B.length - 1 - k then swp B k k else swp B k i := by
  unfold swp
  by_cases h1 : i = k
  · subst h1
    rw [if_pos (by omega), if_pos rfl, if_neg (by omega)]
  · rw [if_neg h1]
    by_cases h2 : i = B.length - 1 - k
    · rw [if_pos h2, if_pos (by omega), if_neg (by omega)]
      congr 1
      omega
    · rw [if_neg h2]
      by_cases h3 : i < k ∨ B.length ≤ i + k
      · rw [if_pos h3, if_pos (by omega)]
      · rw [if_neg h3, if_neg (by omega)]

/-- a row of bytes in block g -/
structure BRow (w : World) (g cap : Nat) (n : Nat) (f : Nat → UInt8) : Prop where
  blk : ∃ cs : Array Value, w.heap[g]? = some (.cells cs 5 (0, 0)) ∧ cs.size = cap ∧ ∀ i, i < n → cs[i]? = some (.int .u8 ((f i).toNat : Int))
  le : n ≤ cap
theorem BRow.cell {w : World} {g cap n : Nat} {f : Nat → UInt8} (h : BRow w g cap n f) {i : Nat} (hi : i < n) : w.cell? ⟨g, i, none⟩ = some (.int .u8 ((f i).toNat : Int)) ∧ w.frozen? ⟨g, i, none⟩ = false := by
  obtain ⟨cs, h1, _, h3⟩ := h.blk
  exact ⟨by simp [World.cell?, h1, h3 i hi], by simp [World.frozen?, h1]⟩
theorem BRow.set {w : World} {g cap n : Nat} {f : Nat → UInt8} (h : BRow w g cap n f) {i : Nat} (hi : i < n) (x : UInt8) : BRow (w.setCell ⟨g, i, none⟩ (.int .u8 (x.toNat : Int))) g cap n (fun j => if j = i then x else f j) := by
  obtain ⟨⟨cs, h1, h2, h3⟩, hle⟩ := h
  refine ⟨⟨cs.setIfInBounds i (.int .u8 (x.toNat : Int)), by simp [World.setCell, Array.getElem?_modify, h1], by simp [h2], fun j hj => ?_⟩, hle⟩
  by_cases hij : j = i
  · subst hij
    simp [Array.getElem?_setIfInBounds, h2]
    omega
  · rw [Array.getElem?_setIfInBounds_ne (by omega)]
    simp [hij, h3 j hj]
theorem BRow.ext {w : World} {g cap n : Nat} {f f' : Nat → UInt8} (h : BRow w g cap n f) (he : ∀ i, i < n → f i = f' i) : BRow w g cap n f' :=
  ⟨by
    obtain ⟨cs, h1, h2, h3⟩ := h.blk
    exact ⟨cs, h1, h2, fun i hi => by rw [h3 i hi, he i hi]⟩, h.le⟩

theorem BRow.of_own {w : World} {base n cap : Nat} {g : Nat} {B : List UInt8} (h : w.ownsRow base 5 1 (.slice (some ⟨g, 0, none⟩) n cap) n (Lib.byteCells B)) (hn : B.length = n) (h0 : 0 < n) : BRow w g cap n (fun i => B.getD i 0) := by
  obtain ⟨_, h2⟩ := h
  rcases h2 with ⟨h2, h3⟩ | ⟨g', cap', cur, e, _, hh, hc1, _, hc3, hc4⟩
  · omega
  · injection e with e1 _ e3
    injection e1 with e1
    injection e1 with e1 _ _
    subst e1 e3
    refine ⟨⟨cur, hh, by rw [hc3, Nat.mul_one], fun i hi => ?_⟩, hc1⟩
    rw [Nat.mul_one] at hc4
    have h5 : (cur.toList.take n)[i]? = (Lib.byteCells B)[i]? := by rw [hc4]
    rw [List.getElem?_take, if_pos hi, Array.getElem?_toList] at h5
    rw [h5]
    have hiB : i < B.length := by omega
    unfold Lib.byteCells
    rw [List.getElem?_map, List.getElem?_eq_getElem hiB, List.getD_eq_getElem?_getD, List.getElem?_eq_getElem hiB]
    rfl
theorem nat_len {w : World} {A : Option Addr} {n c : Nat} {l : List Nat} (h : Wds w A n c l) (hN : Norm l) : (n = 0 → wv l = 0) ∧ (0 < n → 0 < wv l) := by
  have hl := h.len
  constructor
  · intro h0
    have : l = [] := List.eq_nil_of_length_eq_zero (by omega)
    rw [this]; rfl
  · intro h0
    have := wv_ge hN (by omega)
    have : 0 < 4294967296 ^ (l.length - 1) := Nat.pow_pos (by omega)
    omega
theorem byte_add {d : Nat} (h : d < 10) : ((UInt8.ofNat (48 + d)).toNat : Int) = 48 + (d : Int) := by
  rw [UInt8.toNat_ofNat']
  omega

set_option maxRecDepth 100000 in
set_option maxHeartbeats 6400000 in
theorem text_any (g X : Nat) (w : World) (hI : IntAt w g (X : Int)) (hX : X < 10000000000000000000) :
    Calls Tryd.prog 44 #[.pointer (some ⟨g, 0, none⟩), .int .i64 10] w fun e w' => e = .returned (.string ⟨(Lib.decDigits X).toArray⟩) ∧ Below w.heap.size w w' := by
  obtain ⟨neg, v, hg, hN, hneg⟩ := hI
  have hneg2 : neg = false := by
    cases neg
    · rfl
    · have := hneg.1 rfl; omega
  subst hneg2
  rw [show ((X : Int)).natAbs = X from rfl] at hN
  have hlim : X < lim := lim_256 (by omega)
  obtain ⟨A, n, c, l, rfl, hW, hNm, hv, hn⟩ := hN.open_ hlim
  have hz := nat_len hW hNm
  rw [hv] at hz
  have c0 : w.cell? ⟨g, 0, none⟩ = some (.bool false) := by simp [World.cell?, hg]
  have c1 : w.cell? ⟨g, 1, none⟩ = some (.slice A n c) := by simp [World.cell?, hg]
  have hgl := heap_lt hg
  have HG := hide hg
  by_cases hn0 : n = 0
  · subst hn0
    have hX0 := hz.1 rfl
    subst hX0
    clear hW hNm hv hneg hlim hN hz hg
    go_enter Tryd.func44, Tryd.ntmps44
    go_wp2_with fail
    go_ret
    exact ⟨by rw [dd_small (by omega)]; rfl, Below.refl _ _⟩
  · have hX0 := hz.2 (by omega)
    have CT := hide (twin_any _ X w hN hlim)
    have q1 : ((n : Int) == 0) = false := by rw [beq_eq_false_iff_ne]; omega
    have U8 := Tryd.underlying44
    obtain ⟨i0, hi, hz0, hz1, hz2⟩ := info_parts binfo
    have HO := hide (And.intro hi (And.intro hz0 (And.intro hz1 hz2)))
    have HX := hide hX
    have HX0 := hide hX0
    clear hW hNm hv hneg hN hz hg hi hz0 hz1 hz2 hX0
    go_enter Tryd.func44, Tryd.ntmps44
    go_wp2_with fail
    refine CT.out.mono ?_
    rintro e w1 ⟨v1, rfl, hN1, hb⟩
    have HB1 := hide hb
    have HN1 := hide hN1
    have hs1 := hb.size
    clear hb hN1 CT
    go_wp2_with fail
    go_loopg [5, 6] X (fun J bv av wr => ∃ (Y : Nat) (B : List UInt8), J = Y ∧ Y ≤ X ∧ Hid (DigAt X Y B) ∧ Hid (NatAt wr av Y) ∧ Hid (wr.ownsRow w.heap.size 5 1 bv B.length (Lib.byteCells B)) ∧ Hid (Below w.heap.size w wr))
    case atStart => exact ⟨X, [], rfl, Nat.le_refl _, DigAt.start HX0.out, HN1, ⟨rfl, .inl ⟨rfl, rfl⟩⟩, HB1⟩
    case round =>
      clear HN1 HB1 hs1
      obtain ⟨Y, B, hJ, hYX, HD, HNa, HOW, HB⟩ := hrel
      have hYl : Y < lim := Nat.lt_of_le_of_lt hYX hlim
      obtain ⟨A2, n2, c2, l2, rfl, hW2, hNm2, hv2, hn2⟩ := HNa.out.open_ hYl
      have hz2 := nat_len hW2 hNm2
      rw [hv2] at hz2
      clear hW2 hNm2 hv2
      have hBl := HD.out.len HX.out
      by_cases hY0 : 0 < Y
      · have hn20 : 0 < n2 := by
          rcases Nat.eq_zero_or_pos n2 with h0 | h0
          · have := hz2.1 h0; omega
          · exact h0
        have q2 : decide ((0 : Int) < (n2 : Int)) = true := by rw [decide_eq_true_eq]; omega
        have CS := hide (small_any _ Y 10 wr HNa.out hYl (by omega) (by omega))
        have hd10 : Y % 10 < 10 := Nat.mod_lt _ (by omega)
        have HD2 := hide (HD.out.step hY0)
        have hY2 : Y / 10 < Y := Nat.div_lt_self hY0 (by omega)
        have HBA := hide (byte_add hd10)
        obtain ⟨d, hd⟩ : ∃ d, Y % 10 = d := ⟨_, rfl⟩
        obtain ⟨Y2, hY2e⟩ : ∃ Y2, Y / 10 = Y2 := ⟨_, rfl⟩
        unfold RetSmall at CS
        rw [hd, hY2e] at CS HD2
        rw [hd] at hd10 HBA
        rw [hY2e] at hY2
        have q3 : decide ((d : Int) < 10) = true := by rw [decide_eq_true_eq]; omega
        have q4 : decide (d < 10) = true := by rw [decide_eq_true_eq]; omega
        have V1 : IntKind.u32.wrap (48 + (d : Int)) = 48 + (d : Int) := by rw [IntKind.wrap_u32]; omega
        have V2 : IntKind.u8.wrap (48 + (d : Int)) = 48 + (d : Int) := by rw [IntKind.wrap_u8]; omega
        clear hz2 hd hY2e HNa HD
        go_wp2_with fail
        refine CS.out.mono ?_
        rintro e w2 ⟨v2, rfl, hN2, hb⟩
        have HN3 := hide (hN2.below (bel_f w2 (.cells #[.int .u8 (48 + (d : Int))] 5)))
        have HB2 := hide (HB.out.trans (hb.mono HB.out.size))
        have HOW2 := hide (own_bel (own_bel HOW.out hb) (bel_f w2 (.cells #[.int .u8 (48 + (d : Int))] 5)))
        have HB3 := hide (HB2.out.alloc HB2.out.size (.cells #[.int .u8 (48 + (d : Int))] 5))
        have hs2 := HB2.out.size
        clear hb hN2 CS HOW HB
        go_wp2_with (at_builtin; refine wpList_append_own _ rfl _ _ 44 rfl w.heap.size 5 i0 (.int .u8 0) 1 1 U8 HO.out.1 HO.out.2.1 HO.out.2.2.1 HO.out.2.2.2 rfl (by decide) _ _ _ rfl HOW2.out ⟨w2.heap.size, 0, none⟩ 1 1 [.int .u8 (48 + (d : Int))] rfl rfl (one_nw w2 _ _) ?c2 ?c3 ?c4 ?c5 ?_)
        case c2 => intro u hu; simp at hu; subst hu; rfl
        case c3 => simp only [maxLen]; omega
        case c4 => omega
        case c5 => simp; omega
        intro v' w5 hown hg5 _
        have HF5 : Hid (w5.ownsRow w.heap.size 5 1 v' (B ++ [UInt8.ofNat (48 + d)]).length (Lib.byteCells (B ++ [UInt8.ofNat (48 + d)]))) := by
          unfold Hid
          rw [Lib.byteCells_append, List.length_append]
          have : Lib.byteCells [UInt8.ofNat (48 + d)] = [.int .u8 (48 + (d : Int))] := by
            unfold Lib.byteCells
            simp only [List.map_cons, List.map_nil]
            rw [HBA.out]
          rw [this]
          exact hown
        have HN5 : Hid (NatAt w5 v2 Y2) := HN3.out.kept (fun gg cs fr hgg => hg5.block gg (heap_lt hgg) (by
          intro he
          rcases HOW2.out.2 with ⟨h1, _⟩ | ⟨g', cap', cur, h1, _, hh, _⟩
          · rw [h1] at he; simp [Value.ownBlock] at he
          · rw [h1] at he
            simp [Value.ownBlock] at he
            subst he
            rw [hh] at hgg
            injection hgg with hgg
            injection hgg with _ ht
            cases ht))
        have B5 : Hid (Below w.heap.size w w5) := HB3.out.grown hg5 HB3.out.size (fun k hk => (HOW2.out.lt k hk).1)
        clear hown hg5 HOW2 HB3 HN3
        go_wp2_with fail
        go_roundg Y2
        case measure => omega
        case rel => exact ⟨Y2, _, rfl, by omega, HD2, HN5, HF5, B5⟩
      · obtain rfl : Y = 0 := by omega
        have hn20 : n2 = 0 := by
          rcases Nat.eq_zero_or_pos n2 with h0 | h0
          · exact h0
          · have := hz2.2 h0; omega
        subst hn20
        have HE := hide (HD.out.2.1 rfl)
        have hB0 : 0 < B.length := by
          rcases Nat.eq_zero_or_pos B.length with h0 | h0
          · have h1 : B = [] := List.eq_nil_of_length_eq_zero h0
            have h2 := HE.out
            rw [h1] at h2
            have h3 := Lib.decDigits_length X
            rw [h2] at h3
            rw [Lib.nDigits] at h3
            split at h3 <;> simp at h3
          · exact h0
        obtain ⟨b, cap, rfl, hbl, hbh⟩ := HOW.out.form hB0
        have HR0 := hide (BRow.of_own HOW.out rfl hB0)
        obtain ⟨W1, rfl⟩ : ∃ W1, W1 = wr := ⟨_, rfl⟩
        have k0 := (HB.out.cell (p := ⟨g, 0, none⟩) hgl).trans c0
        obtain ⟨m, hm⟩ : ∃ m, B.length = m := ⟨_, rfl⟩
        have HM := hide hm
        rw [hm] at hBl hB0 HR0 ⊢
        have V1 : IntKind.i64.wrap ((m : Int) - 1) = (m : Int) - 1 := by rw [IntKind.wrap_i64]; omega
        clear hz2 HNa HD HOW c0 c1 hm
        go_wp2_with fail
        go_loopg [8, 9] m (fun J iv jv wr => ∃ k j : Nat, J = m - k ∧ iv = .int .i64 k ∧ jv = .int .i64 j ∧ k + j + 1 = m ∧ Hid (BRow wr b cap m (swp B k)) ∧ Hid (Below w.heap.size w wr))
        case atStart => exact ⟨0, m - 1, by omega, rfl, by rw [show ((m - 1 : Nat) : Int) = (m : Int) - 1 from by omega], by omega, HR0.out.ext (fun i hi => by
          have := HM.out
          exact (swp_zero B (by omega)).symm), HB⟩
        case round =>
          clear HR0 k0
          obtain ⟨k, j, hJ2, rfl, rfl, hkj, HR, HBq⟩ := hrel
          by_cases hkl : k < j
          · obtain ⟨ck, fk⟩ := HR.out.cell (i := k) (by omega)
            obtain ⟨cj, fj⟩ := HR.out.cell (i := j) (by omega)
            have HR1 := hide (HR.out.set (i := k) (by omega) (swp B k j))
            obtain ⟨ck1, fk1⟩ := HR1.out.cell (i := j) (by omega)
            have HR2 := hide (HR1.out.set (i := j) (by omega) (swp B k k))
            have HR3 : Hid (BRow ((wr.setCell ⟨b, k, none⟩ (.int .u8 ((swp B k j).toNat : Int))).setCell ⟨b, j, none⟩ (.int .u8 ((swp B k k).toNat : Int))) b cap m (swp B (k + 1))) := by
              refine HR2.out.ext (fun i hi => ?_)
              have hm := HM.out
              rw [swp_next (by omega), show B.length - 1 - k = j from by omega]
              by_cases h1 : i = k
              · subst h1
                rw [if_pos rfl, if_neg (by omega), if_pos rfl]
              · by_cases h2 : i = j
                · simp only [if_neg h1, if_pos h2]
                · simp only [if_neg h1, if_neg h2]
            have B2 : Hid (Below w.heap.size w ((wr.setCell ⟨b, k, none⟩ (.int .u8 ((swp B k j).toNat : Int))).setCell ⟨b, j, none⟩ (.int .u8 ((swp B k k).toNat : Int)))) := (HBq.out.setCell (p := ⟨b, k, none⟩) hbl _).setCell (p := ⟨b, j, none⟩) hbl _
            have q2 : decide ((k : Int) < (j : Int)) = true := by rw [decide_eq_true_eq]; omega
            have q3 : decide (k < j) = true := by rw [decide_eq_true_eq]; omega
            have V2 : IntKind.i64.wrap ((j : Int) - 1) = ((j - 1 : Nat) : Int) := by rw [IntKind.wrap_i64]; omega
            have s1 : (k : Int) < (m : Int) := by omega
            have s2 : (j : Int) < (m : Int) := by omega
            have s3 : k < m := by omega
            have s4 : j < m := by omega
            obtain ⟨x, hx⟩ : ∃ x, ((swp B k j).toNat : Int) = x := ⟨_, rfl⟩
            obtain ⟨y, hy⟩ : ∃ y, ((swp B k k).toNat : Int) = y := ⟨_, rfl⟩
            rw [hx] at cj ck1 HR3 B2
            rw [hy] at ck HR3 B2
            rw [hx] at fk1
            clear hx hy HR1 HR2 ck1
            go_wp2_with fail
            go_roundg (m - (k + 1))
            case measure => omega
            case rel => exact ⟨k + 1, j - 1, rfl, by simp, by first | rfl | rw [V2], by omega, HR3, B2⟩
          · have hcv : (convert 44 9 (.slice (some ⟨b, 0, none⟩) m cap)).run Tryd.prog wr = .ok (.string ⟨(Lib.decDigits X).toArray⟩) wr := by
              have hm := HM.out
              have h := run_convert_bytes_back (P := Tryd.prog) wr 44 9 5 ⟨b, 0, none⟩ cap B.reverse Tryd.underlying44 Tryd.underlying5 Tryd.underlying9 (fun i hi => by
                have hi2 : i < m := by rw [List.length_reverse] at hi; omega
                have e : (⟨b, 0, none⟩ : Addr).add i = ⟨b, i, none⟩ := by
                  unfold Addr.add
                  by_cases h1 : i = 0
                  · subst h1; rfl
                  · simp [h1]
                rw [e, (HR.out.cell hi2).1, swp_end (by omega) (by omega)]
                rw [List.getD_eq_getElem?_getD, List.getElem?_eq_getElem hi]
                rfl)
              rw [List.length_reverse, hm, ← HE.out] at h
              exact h
            have q2 : decide ((k : Int) < (j : Int)) = false := by rw [decide_eq_false_iff_not]; omega
            have q3 : decide (k < j) = false := by rw [decide_eq_false_iff_not]; omega
            go_wp2_with fail
            go_ret
            exact ⟨rfl, HBq.out⟩
set_option maxRecDepth 100000 in
theorem bstring_any (g X : Nat) (w : World) (hI : IntAt w g (X : Int)) (hX : X < 10000000000000000000) :
    Calls Tryd.prog 26 #[.pointer (some ⟨g, 0, none⟩)] w fun e w' => e = .returned (.string ⟨(Lib.decDigits X).toArray⟩) ∧ Below w.heap.size w w' := by
  have CT := hide (text_any g X w hI hX)
  clear hI
  go_enter Tryd.func26, Tryd.ntmps26
  go_wp2_with fail
  refine CT.out.mono ?_
  rintro e w3 ⟨rfl, hb⟩
  have HB := hide hb
  clear hb
  go_wp2_with fail
  go_ret
  exact ⟨rfl, HB.out⟩
end Go.Proofs.YtgocnjklpafabaaDoor
