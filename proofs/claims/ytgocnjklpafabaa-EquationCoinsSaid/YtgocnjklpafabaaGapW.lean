/- The walk of the reference's Gaps. -/
import Derived.Test.YtgocnjklpafabaaCoinM
import Derived.Deep.DeepCutAuto
namespace Go.Proofs.Ytgocnjklpafabaa
open Go.RowKit

/-- is N reached from below by one of the first i coins? -/
def hit (ls : List Nat) (f : Nat → Bool) (N i : Nat) : Bool := (ls.take i).any fun c => decide (c ≤ N) && f (N - c)
theorem hit_snoc {ls : List Nat} {f : Nat → Bool} {N i c : Nat} (h : ls[i]? = some c) : hit ls f N (i + 1) = (hit ls f N i || (decide (c ≤ N) && f (N - c))) := by
  unfold hit
  rw [List.take_add_one, h, List.any_append]; simp
/-- the sums, told by the least ones -/
def sumB (m : Nat) (L : List Int) (n : Nat) : Bool := decide (gi L (n % m) ≤ n)
theorem sum_step {ls : List Nat} {N : Nat} : Sum ls N ↔ N = 0 ∨ ∃ c ∈ ls, c ≤ N ∧ Sum ls (N - c) := by
  constructor
  · intro h
    cases h with
    | zero => exact .inl rfl
    | @add s c hc hs => exact .inr ⟨c, hc, by omega, by rw [Nat.add_sub_cancel]; exact hs⟩
  · rintro (rfl | ⟨c, hc, hle, hs⟩)
    · exact .zero
    · have := Sum.add hc hs
      rwa [Nat.sub_add_cancel hle] at this
theorem hit_all {ls : List Nat} {m hi : Nat} {L : List Int} (h : Least ls m hi L) (hm : m ∈ ls) (h0 : 0 < m) {N : Nat} (hN : 0 < N) : hit ls (sumB m L) N ls.length = sumB m L N := by
  have e : ∀ n, sumB m L n = true ↔ Sum ls n := fun n => by unfold sumB; rw [decide_eq_true_eq]; exact (h.gap hm n h0).symm
  rw [Bool.eq_iff_iff, e, sum_step]
  unfold hit
  rw [List.take_length, List.any_eq_true]
  constructor
  · rintro ⟨c, hc, hx⟩
    rw [Bool.and_eq_true, decide_eq_true_eq, e] at hx
    exact .inr ⟨c, hc, hx.1, hx.2⟩
  · rintro (h | ⟨c, hc, hle, hs⟩)
    · omega
    · exact ⟨c, hc, by rw [Bool.and_eq_true, decide_eq_true_eq, e]; exact ⟨hle, hs⟩⟩

set_option maxRecDepth 100000 in
set_option maxHeartbeats 1600000 in
theorem gaps_any (A : Option Addr) (n c : Nat) (ls : List Nat) (m hi most : Nat) (L : List Int) (w : World) (hn : ls.length = n) (hn2 : n ≤ 20) (hA : Ints w w.heap.size A (ls.map fun x => ((x : Nat) : Int))) (h1 : ∀ x ∈ ls, 1 ≤ x ∧ x ≤ 1000) (hL : Least ls m hi L) (hm : m ∈ ls) (h0 : 0 < m) (hmo : most ≤ 1000000) :
    Calls Try.prog 11 #[.slice A n c, .int .i64 (most : Nat)] w fun e w' => e = .returned (.tuple #[.int .i64 (gapL m L (most + 1)), .int .i64 (gapN m L (most + 1) : Nat)]) ∧ Below w.heap.size w w' := by
  have hmk : ∀ W : World, (Instr.makeSlice 56 (.int .i64 ((most : Int) + 1)) (.int .i64 ((most : Int) + 1))).run Try.prog W = .ok (.slice (some ⟨W.heap.size, 0, none⟩) (most + 1) (most + 1)) (W.alloc (.cells (madeCells #[.bool false] (most + 1)) 4)) := fun W => run_make_row' (P := Try.prog) 56 4 (.bool false) 1 Try.underlying56 binfo1 rfl .i64 .i64 (most + 1) (by omega) (by omega) W
  have hz0 : gi L (0 % m) ≤ (0 : Nat) := (hL.gap hm 0 h0).1 .zero
  have HA := hide hA
  have HN := hide hn
  have H1 := hide h1
  have HLE := hide hL
  have HM := hide hm
  have HZ := hide hz0
  clear hn hA h1 hL hm hz0
  go_enter Try.func11, Try.ntmps11
  go_upto_region 2 with (fail)
  have R0 : Hid (BRow (w.alloc (.cells (madeCells #[.bool false] (most + 1)) 4)) w.heap.size (most + 1) (fun _ => false)) := hide ⟨⟨_, heap_alloc_new w _, by simp [madeCells], fun i hi => by simp [madeCells, hi, Nat.mod_one]⟩⟩
  have B0 := hide (bel_e w (.cells (madeCells #[.bool false] (most + 1)) 4))
  obtain ⟨wa, hwa⟩ : ∃ Z, w.alloc (.cells (madeCells #[.bool false] (most + 1)) 4) = Z := ⟨_, rfl⟩
  rw [hwa] at R0 B0
  (try rw [hwa])
  obtain ⟨c0, f0⟩ := R0.out.cell (i := 0) (by omega)
  have R1 := hide (R0.out.set (i := 0) (by omega) true)
  have B1 := hide (B0.out.setCell (p := ⟨w.heap.size, 0, none⟩) (Nat.le_refl _) (.bool true))
  have hgw : w.heap.size < wa.heap.size := R0.out.lt
  clear hwa R0 B0 hmk
  go_wp2_with fail
  obtain ⟨g, hg⟩ : ∃ g, w.heap.size = g := ⟨_, rfl⟩
  rw [hg] at R1 B1
  (try rw [hg])
  go_loopw [7, 8, 9] (fun lv mv nv wr => ∃ N : Nat, N ≤ most + 1 ∧ nv = .int .i64 N ∧ lv = .int .i64 (gapL m L N) ∧ mv = .int .i64 (gapN m L N : Nat) ∧ gapN m L N ≤ N ∧ Hid (BRow wr g (most + 1) (fun j => if j < N then sumB m L j else j == 0)) ∧ Hid (Below g w wr)) (fun _ _ nv _ => most + 1 - (intOf nv).toNat)
  case atStart => exact ⟨0, by omega, rfl, rfl, rfl, Nat.le_refl _, R1.out.ext (fun j hj => by by_cases h : j = 0 <;> simp [h]), B1⟩
  case round =>
    clear R1 B1
    obtain ⟨N, hN, rfl, rfl, rfl, hgN, HR, HB⟩ := hrel
    obtain ⟨la, hla⟩ : ∃ la, gapL m L N = la := ⟨_, rfl⟩
    obtain ⟨ma, hma⟩ : ∃ ma, gapN m L N = ma := ⟨_, rfl⟩
    rw [hla, hma]
    rw [hma] at hgN
    have HLA := hide hla
    have HMA := hide hma
    clear hla hma
    obtain ⟨wo, rfl⟩ : ∃ Z, Z = wr := ⟨_, rfl⟩
    by_cases hNm : N ≤ most
    · go_wp2_with fail
      go_loopw [10] (fun iv ws => ∃ i : Nat, i ≤ n ∧ iv = .int .i64 i ∧ Hid (BRow ws g (most + 1) (fun j => if j < N then sumB m L j else if j = N then (N == 0 || hit ls (sumB m L) N i) else j == 0)) ∧ Hid (Below g w ws)) (fun iv _ => n - (intOf iv).toNat)
      case atStart => exact ⟨0, by omega, rfl, HR.out.ext (fun j hj => by
        by_cases h : j < N
        · simp [h]
        · by_cases h2 : j = N
          · subst h2; simp [hit]
          · simp [h, h2]), HB⟩
      case round =>
        obtain ⟨i, hi, rfl, HR2, HB2⟩ := hrel
        obtain ⟨wi, rfl⟩ : ∃ Z, Z = wr := ⟨_, rfl⟩
        by_cases hin : i < n
        · as_aux_lemma =>
          obtain ⟨ad, x, rfl, hx, hab, hac⟩ := HA.out.at_ (k := i) (by rw [List.length_map, HN.out]; exact hin)
          rw [List.getElem?_map] at hx
          obtain ⟨c0, hc0, rfl⟩ : ∃ y : Nat, ls[i]? = some y ∧ x = (y : Int) := by
            cases e : ls[i]? with
            | none => rw [e] at hx; cases hx
            | some y => rw [e] at hx; injection hx with hx; exact ⟨y, rfl, hx.symm⟩
          have hcr := H1.out c0 (List.mem_of_getElem? hc0)
          have cx := (HB2.out.cell (p := ad.add i) (by rw [add_block]; omega)).trans hac
          have HH := hide (hit_snoc (f := sumB m L) (N := N) hc0)
          clear hx hac hc0
          by_cases hcN : c0 ≤ N
          · obtain ⟨cn, _⟩ := HR2.out.cell (i := N - c0) (by omega)
            obtain ⟨_, fN⟩ := HR2.out.cell (i := N) (by omega)
            rw [if_pos (show N - c0 < N by omega)] at cn
            have hsub : (N : Int) - (c0 : Int) = ((N - c0 : Nat) : Int) := by omega
            cases hb : sumB m L (N - c0) with
            | true =>
              have HR3 := hide ((HR2.out.set (i := N) (by omega) true).ext (f' := fun j => if j < N then sumB m L j else if j = N then (N == 0 || hit ls (sumB m L) N (i + 1)) else j == 0) (fun j _ => by
                by_cases h : j = N
                · subst h; rw [HH.out, hb]; simp [hcN]
                · simp [h]))
              have HB3 := hide (HB2.out.setCell (p := ⟨g, N, none⟩) (Nat.le_refl _) (.bool true))
              rw [hb] at cn
              clear hb
              go_wp2_with fail
              go_roundw
              case rel => exact ⟨i + 1, by omega, by go_num, HR3, HB3⟩
              case measure => simp [intOf]; omega
            | false =>
              have HR3 := hide (HR2.out.ext (f' := fun j => if j < N then sumB m L j else if j = N then (N == 0 || hit ls (sumB m L) N (i + 1)) else j == 0) (fun j _ => by
                rw [HH.out, hb]; simp))
              rw [hb] at cn
              clear hb
              go_wp2_with fail
              go_roundw
              case rel => exact ⟨i + 1, by omega, by go_num, HR3, HB2⟩
              case measure => simp [intOf]; omega
          · have HR3 := hide (HR2.out.ext (f' := fun j => if j < N then sumB m L j else if j = N then (N == 0 || hit ls (sumB m L) N (i + 1)) else j == 0) (fun j _ => by
              rw [HH.out]; simp [hcN]))
            go_wp2_with fail
            go_roundw
            case rel => exact ⟨i + 1, by omega, by go_num, HR3, HB2⟩
            case measure => simp [intOf]; omega
        · as_aux_lemma =>
          have hfull : (N == 0 || hit ls (sumB m L) N i) = sumB m L N := by
            have e : i = ls.length := by have := HN.out; omega
            rw [e]
            by_cases h : N = 0
            · subst h
              have := HZ.out
              unfold sumB
              rw [beq_self_eq_true, Bool.true_or]
              exact (decide_eq_true this).symm
            · rw [hit_all HLE.out HM.out h0 (by omega)]
              simp [h]
          have HR3 := hide (HR2.out.ext (f' := fun j => if j < N + 1 then sumB m L j else j == 0) (fun j _ => by
            by_cases h : j < N
            · simp [h, show j < N + 1 by omega]
            · by_cases h2 : j = N
              · subst h2; simp only [Nat.lt_irrefl, if_false, if_true, Nat.lt_succ_self]; exact hfull
              · simp [h, h2, show ¬ j < N + 1 by omega]))
          obtain ⟨cN, _⟩ := HR3.out.cell (i := N) (by omega)
          rw [if_pos (Nat.lt_succ_self N)] at cN
          clear hfull
          cases hb : sumB m L N with
          | true =>
            have hle : gi L (N % m) ≤ N := by unfold sumB at hb; simpa using hb
            have e1 : Hid (gapL m L (N + 1) = la) := hide (by rw [gapL, if_pos hle, HLA.out])
            have e2 : Hid (gapN m L (N + 1) = ma) := hide (by rw [gapN, if_pos hle, HMA.out])
            rw [hb] at cN
            clear hb hle
            go_wp2_with fail
            go_roundw
            case rel => exact ⟨N + 1, by omega, by go_num, by rw [e1.out], by rw [e2.out], by rw [e2.out]; omega, HR3, HB2⟩
            case measure => simp [intOf]; omega
          | false =>
            have hle : ¬ gi L (N % m) ≤ N := by unfold sumB at hb; simpa using hb
            have e1 : Hid (gapL m L (N + 1) = N) := hide (by rw [gapL, if_neg hle])
            have e2 : Hid (gapN m L (N + 1) = ma + 1) := hide (by rw [gapN, if_neg hle, HMA.out])
            rw [hb] at cN
            clear hb hle
            go_wp2_with fail
            go_roundw
            case rel => exact ⟨N + 1, by omega, by go_num, by rw [e1.out], by rw [e2.out]; go_num, by rw [e2.out]; omega, HR3, HB2⟩
            case measure => simp [intOf]; omega
    · as_aux_lemma =>
      obtain rfl : N = most + 1 := by omega
      have HF : Hid (gapL m L (most + 1) = la ∧ gapN m L (most + 1) = ma) := hide ⟨HLA.out, HMA.out⟩
      go_wp2_with fail
      go_ret2
      exact ⟨by rw [HF.out.1, HF.out.2]; rfl, by have := HB.out; rw [← hg] at this; exact this⟩
end Go.Proofs.Ytgocnjklpafabaa
