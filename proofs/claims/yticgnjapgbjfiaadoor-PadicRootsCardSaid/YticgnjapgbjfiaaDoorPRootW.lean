/- The walk of padic.Roots. Under the bounds of its arguments. -/
import Derived.Test.YticgnjapgbjfiaaDoorPolyLaw
import Derived.Test.YticgnjapgbjfiaaDoorPartsLaw
import Derived.Test.YticgnjapgbjfiaaDoorPadG
import Derived.Test.YticgnjapgbjfiaaDoorSortRow
import Derived.Deep.LoopGhost
namespace Go.Proofs.YticgnjapgbjfiaaDoor

noncomputable def goodR (l : List Int) (q : Nat) (y : Nat) : Bool := @decide ((q : Int) ∣ pv l y) (Classical.propDecidable _)
theorem goodR_true {l : List Int} {q y : Nat} : goodR l q y = true ↔ (q : Int) ∣ pv l y := by unfold goodR; simp
/-- the roots above x among the first d -/
noncomputable def rowR (l : List Int) (s q x : Nat) (d : Nat) : List Nat := ((List.range d).map fun i => x + i * s).filter (goodR l q)
theorem rowR_next (l : List Int) (s q x d : Nat) : rowR l s q x (d + 1) = rowR l s q x d ++ (if goodR l q (x + d * s) = true then [x + d * s] else []) := by
  unfold rowR
  rw [List.range_succ, List.map_append, List.filter_append, List.map_singleton]
  congr 1
  by_cases h : goodR l q (x + d * s) = true
  · rw [if_pos h]; simp [h]
  · rw [if_neg h]; simp [h]
noncomputable def nextR (l : List Int) (s q p : Nat) (L : List Nat) : List Nat := L.flatMap fun x => rowR l s q x p
/-- all roots at a level, each once -/
def LvOk (l : List Int) (q : Nat) (L : List Nat) : Prop := L.Nodup ∧ ∀ x, x ∈ L ↔ x < q ∧ (q : Int) ∣ pv l x
theorem lv_start (l : List Int) : LvOk l 1 [0] := by
  refine ⟨by simp, fun x => ?_⟩
  constructor
  · intro h; simp at h; subst h; exact ⟨by omega, by simp⟩
  · intro h; simp; omega
theorem mem_rowR {l : List Int} {s q x d y : Nat} : y ∈ rowR l s q x d ↔ (∃ i, i < d ∧ y = x + i * s) ∧ (q : Int) ∣ pv l y := by
  unfold rowR
  rw [List.mem_filter, List.mem_map, goodR_true]
  constructor
  · rintro ⟨⟨i, hi, rfl⟩, h⟩; exact ⟨⟨i, List.mem_range.1 hi, rfl⟩, h⟩
  · rintro ⟨⟨i, hi, rfl⟩, h⟩; exact ⟨⟨i, List.mem_range.2 hi, rfl⟩, h⟩
theorem rowR_nodup {l : List Int} {s q x : Nat} (hs : 0 < s) (d : Nat) : (rowR l s q x d).Nodup := by
  unfold rowR
  refine List.Pairwise.filter _ ?_
  rw [List.pairwise_map]
  refine List.Pairwise.imp ?_ List.nodup_range
  intro a b h e
  exact h (Nat.eq_of_mul_eq_mul_right hs (by omega))
theorem row_apart {s x y i j : Nat} (hx : x < s) (hy : y < s) (h : x + i * s = y + j * s) : x = y := by
  have h1 := congrArg (· % s) h
  simp only [Nat.add_mul_mod_self_right] at h1
  rwa [Nat.mod_eq_of_lt hx, Nat.mod_eq_of_lt hy] at h1
theorem lv_nodup {l : List Int} {s q p : Nat} {L : List Nat} (hs : 0 < s) (hn : L.Nodup) (hx : ∀ x ∈ L, x < s) : (nextR l s q p L).Nodup := by
  unfold nextR List.Nodup
  rw [List.pairwise_flatMap]
  refine ⟨fun x _ => rowR_nodup hs p, ?_⟩
  refine List.Pairwise.imp_of_mem ?_ hn
  intro a b ha hb hab y hy z hz e
  obtain ⟨⟨i, _, h1⟩, _⟩ := mem_rowR.1 hy
  obtain ⟨⟨j, _, h2⟩, _⟩ := mem_rowR.1 hz
  exact hab (row_apart (i := i) (j := j) (hx a ha) (hx b hb) (by rw [← h1, ← h2]; exact e))
theorem lv_next {l : List Int} {s p : Nat} {L : List Nat} (hs : 0 < s) (h : LvOk l s L) : LvOk l (s * p) (nextR l s (s * p) p L) := by
  refine ⟨lv_nodup hs h.1 fun x hx => ((h.2 x).1 hx).1, fun y => ?_⟩
  unfold nextR
  rw [List.mem_flatMap]
  constructor
  · rintro ⟨x, hx, hy⟩
    obtain ⟨⟨i, hi, rfl⟩, h2⟩ := mem_rowR.1 hy
    refine ⟨?_, h2⟩
    have h3 := ((h.2 x).1 hx).1
    have h4 : (i + 1) * s ≤ p * s := Nat.mul_le_mul_right s hi
    rw [Nat.add_mul, Nat.one_mul] at h4
    rw [Nat.mul_comm s p]
    omega
  · rintro ⟨h1, h2⟩
    have hsd : (s : Int) ∣ pv l y := Int.dvd_trans ⟨(p : Int), by rw [Int.natCast_mul]⟩ h2
    have hc : (s : Int) ∣ pv l ((y % s : Nat) : Int) - pv l y := by
      refine pv_congr ?_ l
      refine ⟨-((y / s : Nat) : Int), ?_⟩
      have := Nat.mod_add_div y s
      have h5 : ((y % s : Nat) : Int) + (s : Int) * ((y / s : Nat) : Int) = (y : Int) := by rw [← Int.natCast_mul, ← Int.natCast_add, this]
      rw [Int.mul_neg]; omega
    have hx : y % s ∈ L := (h.2 _).2 ⟨Nat.mod_lt _ hs, by
      have := Int.dvd_add hc hsd
      rwa [Int.sub_add_cancel] at this⟩
    refine ⟨y % s, hx, mem_rowR.2 ⟨⟨y / s, ?_, ?_⟩, h2⟩⟩
    · exact Nat.div_lt_of_lt_mul h1
    · rw [Nat.mul_comm]; exact (Nat.mod_add_div y s).symm
/-- numbers below m, each once, are no more than m -/
theorem nodup_le {m : Nat} : ∀ {L : List Nat}, L.Nodup → (∀ x ∈ L, x < m) → L.length ≤ m := by
  induction m with
  | zero =>
    intro L _ h
    cases L with
    | nil => simp
    | cons x r => have := h x (List.mem_cons_self ..); omega
  | succ m ih =>
    intro L hn h
    by_cases hm : m ∈ L
    · have h1 := ih (hn.erase m) (fun x hx => by
        have h2 := (hn.mem_erase_iff).1 hx
        have h3 := h x h2.2
        omega)
      rw [List.length_erase_of_mem hm] at h1
      omega
    · have h1 := ih hn (fun x hx => by
        have h3 := h x hx
        have : x ≠ m := fun e => hm (by rw [← e]; exact hx)
        omega)
      omega
/-- strictly rising -/
theorem rise_strict {S : List Nat} (h : Rise S) (hn : S.Nodup) : ∀ i a b, S[i]? = some a → S[i + 1]? = some b → a < b := by
  intro i a b ha hb
  have h1 := rise_take h (Nat.lt_succ_self i) ha hb
  rcases Nat.lt_or_ge a b with h2 | h2
  · exact h2
  · have e : a = b := by omega
    subst e
    have hi := (List.getElem?_eq_some_iff.1 ha)
    have hj := (List.getElem?_eq_some_iff.1 hb)
    obtain ⟨i1, i2⟩ := hi
    obtain ⟨j1, j2⟩ := hj
    have := List.pairwise_iff_getElem.1 hn i (i + 1) i1 j1 (by omega)
    exact (this (i2.trans j2.symm)).elim
/-- how many roots there are: by trying all -/
theorem lv_count {l : List Int} {q : Nat} {S : List Nat} (h : LvOk l q S) : S.length = ((List.range q).filter (goodR l q)).length := by
  refine List.Perm.length_eq ((List.perm_ext_iff_of_nodup h.1 (List.Pairwise.filter _ List.nodup_range)).2 fun x => ?_)
  rw [h.2 x, List.mem_filter, List.mem_range, goodR_true]
end Go.Proofs.YticgnjapgbjfiaaDoor

namespace Go.Proofs.YticgnjapgbjfiaaDoor
open Go.RowKit

/-- Roots' word -/
def RetRoots (w : World) (p k : Int) (l : List Int) : Ending → World → Prop := fun e w' => ∃ (v : Value) (F : Int × Int) (S : List Nat), e = .returned (.tuple #[v, fv F]) ∧
  ((padF p k).1 ≠ 0 → F = padF p k ∧ S = []) ∧ ((padF p k).1 = 0 → (polF l).1 ≠ 0 → F = polF l ∧ S = []) ∧ ((padF p k).1 = 0 → (polF l).1 = 0 → 2000 < p → F = (2, 0) ∧ S = []) ∧
  ((padF p k).1 = 0 → (polF l).1 = 0 → p ≤ 2000 → (F = (9, 0) ∧ S = [] ∧ 1000 < p ^ k.toNat) ∨ (F = (0, 0) ∧ S.length ≤ 1000 ∧ Rise S ∧ LvOk l (p.toNat ^ k.toNat) S)) ∧
  (∃ (A : Option Addr) (c : Nat), v = .slice A S.length c ∧ Ints w' w'.heap.size A (S.map fun x => ((x : Nat) : Int))) ∧ Below w.heap.size w w'

theorem pre_all {l : List Int} {s p i d x : Nat} {L : List Nat} (hx : L[i]? = some x) (hd : d ≤ p) : ∃ r, nextR l s (s * p) p L = ((L.take i).flatMap (fun x => rowR l s (s * p) x p) ++ rowR l s (s * p) x d) ++ r := by
  obtain ⟨hi, rfl⟩ := List.getElem?_eq_some_iff.1 hx
  have h1 : ∃ r, rowR l s (s * p) L[i] p = rowR l s (s * p) L[i] d ++ r := by
    obtain ⟨e, rfl⟩ : ∃ e, p = d + e := ⟨p - d, by omega⟩
    unfold rowR
    rw [List.range_add, List.map_append, List.filter_append]
    exact ⟨_, rfl⟩
  obtain ⟨r, hr⟩ := h1
  unfold nextR
  refine ⟨r ++ (L.drop (i + 1)).flatMap (fun x => rowR l s (s * p) x p), ?_⟩
  conv => lhs; rw [← List.take_append_drop i L, List.flatMap_append, List.drop_eq_getElem_cons hi, List.flatMap_cons, hr]
  simp [List.append_assoc]
theorem pre_many {l : List Int} {s p i d x : Nat} {L : List Nat} (hs : 0 < s) (h : LvOk l s L) (hx : L[i]? = some x) (hd : d ≤ p) : ((L.take i).flatMap (fun x => rowR l s (s * p) x p) ++ rowR l s (s * p) x d).length ≤ s * p := by
  obtain ⟨r, hr⟩ := pre_all (l := l) (s := s) hx hd
  have h1 := lv_next hs (p := p) h
  rw [hr] at h1
  refine nodup_le (h1.1.sublist (List.sublist_append_left _ _)) fun y hy => ((h1.2 y).1 (List.mem_append.2 (.inl hy))).1
theorem take_flat {l : List Int} {s q p i x : Nat} {L : List Nat} (hx : L[i]? = some x) : (L.take (i + 1)).flatMap (fun x => rowR l s q x p) = (L.take i).flatMap (fun x => rowR l s q x p) ++ rowR l s q x p := by
  rw [List.take_add_one, hx]
  simp

set_option maxRecDepth 100000 in
set_option maxHeartbeats 12800000 in
theorem roots_any (A : Option Addr) (n c : Nat) (p k : Int) (l : List Int) (w : World) (hT : TabW w) (hl : l.length = n) (hn : n ≤ 140737488351232) (hI : Ints w w.heap.size A l) :
    Calls Tryd.prog 28 #[.int .i64 p, .int .i64 k, .slice A n c] w (RetRoots w p k l) := by
  have HT := hide (hT.alloc (.cells #[.int .i64 0, .int .i64 0] 24))
  have U := Tryd.underlying22
  obtain ⟨i0, hi, hz0, hz1, hz2⟩ := info_parts iinfo
  have HO := hide (And.intro hi (And.intro hz0 (And.intro hz1 hz2)))
  clear hi hz0 hz1 hz2
  have CL := fun W (hW : TabW W) => hide (plook_any p k W hW)
  unfold RetLook at CL
  by_cases hc : (padF p k).1 = 0
  · rw [if_pos hc] at CL
    obtain ⟨e1, hp2, hp3, hpr, hk1, hk2, hM⟩ := padF_ok hc
    rw [e1] at CL
    obtain ⟨P, rfl⟩ : ∃ P : Nat, p = P := ⟨p.toNat, by omega⟩
    obtain ⟨K, rfl⟩ : ∃ K : Nat, k = K := ⟨k.toNat, by omega⟩
    rw [show ((K : Int)).toNat = K from rfl] at CL hM
    have HC := hide hc
    have HI := hide hI
    have HL := hide hl
    have CP := fun W (hW : Below w.heap.size w W) => hide (poly_any A n c l W hl hn ((hI.below hW (Nat.le_refl _)).more hW.size))
    obtain ⟨⟨u, v⟩, hq⟩ : ∃ F, polF l = F := ⟨_, rfl⟩
    unfold RetFault at CP
    rw [hq] at CP
    have HQ := hide hq
    simp only [fv] at CL CP
    clear hT hI hl hn hc e1 hq hpr
    by_cases hu : u = 0
    · subst hu
      have hfit := polF_fits (l := l) (by rw [HQ.out])
      obtain rfl : v = 0 := by have := HQ.out.symm.trans hfit.1; exact (Prod.mk.inj this).2
      have HF := hide hfit.2.2
      have hn13 : n ≤ 13 := by have := hfit.2.1; rw [HL.out] at this; exact this
      clear hfit
      by_cases h2000 : 2000 < P
      · have q1 : decide ((2000 : Int) < (P : Int)) = true := by rw [decide_eq_true_eq]; omega
        have C := fun W => hide (pfault_any 2 0 W)
        go_enter Tryd.func28, Tryd.ntmps28
        go_wp2_with fail
        refine (CL _ HT.out).out.mono ?_
        rintro e w1 ⟨rfl, hb⟩
        have F1 := hide (((FC.fresh w).below hb).below (bel_cells w1 (.cells #[.int .i64 0, .int .i64 0] 24)))
        have HB1 := hide ((below_new hb).trans ((bel_cells w1 (.cells #[.int .i64 0, .int .i64 0] 24)).mono (below_new hb).size))
        have hlt0 := F1.out.lt
        clear hb
        go_wp2_with fail
        refine (CP _ HB1.out).out.mono ?_
        rintro e w2 ⟨rfl, hb⟩
        have F2 := hide ((F1.out.below hb).below (bel_cells w2 (.cells #[.int .i64 0, .int .i64 0] 24)))
        have HB2 := hide ((HB1.out.trans (hb.mono HB1.out.size)).trans ((bel_cells w2 (.cells #[.int .i64 0, .int .i64 0] 24)).mono (Nat.le_trans HB1.out.size hb.size)))
        clear hb F1 HB1
        go_wp2_with fail
        refine (C _).out.mono ?_
        rintro e w3 ⟨rfl, hb⟩
        have F3 := F2.out.below hb
        obtain ⟨d0, d1, f0, f1⟩ := F3.cells
        obtain ⟨p0, p1⟩ := F3.put 2 0
        have HB3 := hide (below_fault (u := .int .i64 2) (v := .int .i64 0) (HB2.out.trans (hb.mono HB2.out.size)) (Nat.le_refl w.heap.size))
        clear hb F3
        go_wp2_with fail
        exact bodyPost_ret (v := .tuple #[.slice none 0 0, fv (2, 0)]) (by simp [results, Tryd.results28, go_sem, fv, p0, p1]) rfl ⟨_, (2, 0), [], rfl, fun h => absurd HC.out h, fun _ h => absurd (by rw [HQ.out]) h, fun _ _ _ => ⟨rfl, rfl⟩, fun _ _ h => by omega, ⟨none, 0, rfl, ⟨fun j x hx => by simp at hx⟩⟩, HB3.out⟩
      · have q1 : decide ((2000 : Int) < (P : Int)) = false := by rw [decide_eq_false_iff_not]; omega
        go_enter Tryd.func28, Tryd.ntmps28
        go_wp2_with fail
        refine (CL _ HT.out).out.mono ?_
        rintro e w1 ⟨rfl, hb⟩
        have F1 := hide (((FC.fresh w).below hb).below (bel_cells w1 (.cells #[.int .i64 0, .int .i64 0] 24)))
        have HB1 := hide ((below_new hb).trans ((bel_cells w1 (.cells #[.int .i64 0, .int .i64 0] 24)).mono (below_new hb).size))
        have hlt0 := F1.out.lt
        clear hb
        go_wp2_with fail
        refine (CP _ HB1.out).out.mono ?_
        rintro e w2 ⟨rfl, hb⟩
        have F2 := hide (((F1.out.below hb).below (bel_cells w2 (.cells #[.int .i64 0, .int .i64 0] 24))).below (bel_cells _ (.cells #[.int .i64 0] 3)))
        have HB2 := hide ((HB1.out.trans (hb.mono HB1.out.size)).trans ((bel_cells w2 (.cells #[.int .i64 0, .int .i64 0] 24)).mono (Nat.le_trans HB1.out.size hb.size)))
        have HB2b := hide (HB2.out.alloc HB2.out.size (.cells #[.int .i64 0] 3))
        have hlt1 : w.heap.size < w2.heap.size := (F1.out.below hb).lt
        have HR0 : Hid (Row ((w2.alloc (.cells #[.int .i64 0, .int .i64 0] 24)).alloc (.cells #[.int .i64 0] 3)) (w.heap.size + 1) (.slice (some ⟨w2.heap.size + 1, 0, none⟩) 1 1) [0]) := by
          refine ⟨rfl, .inr ⟨w2.heap.size + 1, 1, #[.int .i64 0], rfl, by omega, ?_, Nat.le_refl _, by simp only [maxLen]; omega, rfl, rfl⟩⟩
          have := heap_alloc_new (w2.alloc (.cells #[.int .i64 0, .int .i64 0] 24)) (.cells #[.int .i64 0] 3)
          rwa [World.size_alloc] at this
        clear hb F1 HB1 HB2 CL CP HT
        go_wp2_with fail
        go_loopg [11, 12, 39] K (fun J o s jv wr => ∃ (j : Nat) (L : List Nat), J = K - j ∧ s = .int .i64 ((P ^ j : Nat) : Int) ∧ jv = .int .i64 j ∧ j ≤ K ∧ Hid (LvOk l (P ^ j) L ∧ L.length ≤ 1000) ∧ Hid (Row wr (w.heap.size + 1) o L) ∧ Hid (FC wr w.heap.size 0 0) ∧ Hid (Below w.heap.size w wr))
        case atStart => exact ⟨0, [0], by omega, by simp, rfl, by omega, ⟨by rw [Nat.pow_zero]; exact lv_start l, by simp⟩, HR0, F2, HB2b⟩
        case round =>
          clear HR0 F2 HB2b
          obtain ⟨j, L, hJ, rfl, rfl, hj, HLV, HR, HFC, HBW⟩ := hrel
          obtain ⟨W1, rfl⟩ : ∃ W1, W1 = wr := ⟨_, rfl⟩
          by_cases hjK : j < K
          · as_aux_lemma =>
            have hpw : P ^ (j + 1) ≤ P ^ K := Nat.pow_le_pow_right (by omega) hjK
            have hM2 : P ^ K ≤ 1000000000000000000 := by rw [← Int.natCast_pow] at hM; omega
            have hs1 : 1 ≤ P ^ j := Nat.pow_pos (by omega)
            have HNX : Hid (P ^ (j + 1) = P ^ j * P) := Nat.pow_succ ..
            rw [HNX.out] at hpw
            obtain ⟨s, hs⟩ : ∃ s, P ^ j = s := ⟨_, rfl⟩
            rw [hs] at HNX HLV hpw hs1 ⊢
            have qj : decide ((j : Int) < (K : Int)) = true := by rw [decide_eq_true_eq]; omega
            have HPK := hide hpw
            obtain ⟨Q, hQ⟩ : ∃ Q, s * P = Q := ⟨_, rfl⟩
            have hQ1 : Q ≤ 1000000000000000000 := by rw [← hQ]; exact Nat.le_trans hpw hM2
            have hsQ : s ≤ Q := by rw [← hQ]; exact Nat.le_mul_of_pos_right s (by omega)
            have hQi : (s : Int) * (P : Int) = (Q : Int) := by rw [← Int.natCast_mul, hQ]
            have HQQ := hide hQ
            clear hs hM hM2 hpw hQ
            have hLl := HLV.out.2
            have hR2 := HR.out
            unfold Row at hR2
            rw [map_cast] at hR2
            obtain ⟨A1, c1, hform, hIS⟩ := Ints.of_own hR2 (by simp)
            subst hform
            have HIS := hide hIS
            clear hIS hR2 HR
            go_wp2_with fail
            go_loopg [13, 43] L.length (fun J v iv w3 => ∃ i : Nat, J = L.length - i ∧ iv = .int .i64 i ∧ i ≤ L.length ∧ Hid (((L.take i).flatMap fun x => rowR l s Q x P).length ≤ 1000 ∧ Row w3 W1.heap.size v ((L.take i).flatMap fun x => rowR l s Q x P)) ∧ Hid (Below W1.heap.size W1 w3))
            case atStart => exact ⟨0, by omega, rfl, by omega, ⟨by simp, Row.nil _ _⟩, Below.refl _ _⟩
            case round =>
              obtain ⟨i, hJ2, rfl, hi, HRN, HBN⟩ := hrel
              by_cases hiL : i < L.length
              · as_aux_lemma =>
                obtain ⟨ad, x, rfl, hx, hab, hac⟩ := HIS.out.at_ (k := i) (by simpa using hiL)
                obtain ⟨x, hxx, rfl⟩ : ∃ p : Nat, L[i]? = some p ∧ x = (p : Int) := by
                  rw [List.getElem?_map] at hx
                  cases hs : L[i]? with
                  | none => rw [hs] at hx; cases hx
                  | some p => rw [hs] at hx; injection hx with hx; exact ⟨p, rfl, hx.symm⟩
                have cx := (HBN.out.cell (p := ad.add i) (by rw [add_block]; exact hab)).trans hac
                have hxs : x < s := ((HLV.out.1.2 x).1 (List.mem_of_getElem? hxx)).1
                have HX := hide hxx
                have qi : decide ((i : Int) < (L.length : Int)) = true := by rw [decide_eq_true_eq]; omega
                clear hx hac hxx
                go_wp2_with fail
                obtain ⟨T, hT⟩ : ∃ T, (L.take i).flatMap (fun x => rowR l s Q x P) = T := ⟨_, rfl⟩
                rw [hT] at HRN
                have HTT := hide hT
                clear hT
                go_loopg [13, 48] P (fun J v dv w4 => ∃ d : Nat, J = P - d ∧ dv = .int .i64 d ∧ d ≤ P ∧ Hid ((T ++ rowR l s Q x d).length ≤ 1000 ∧ Row w4 W1.heap.size v (T ++ rowR l s Q x d)) ∧ Hid (Below W1.heap.size W1 w4))
                case atStart => exact ⟨0, by omega, rfl, by omega, by unfold Hid; have := HRN.out; simpa [rowR] using this, HBN⟩
                case round =>
                  clear HRN HBN
                  obtain ⟨d, hJ3, rfl, hd, HRD, HBD⟩ := hrel
                  by_cases hdP : d < P
                  · as_aux_lemma =>
                    have hle : (d + 1) * s ≤ P * s := Nat.mul_le_mul_right s hdP
                    rw [Nat.add_mul, Nat.one_mul, Nat.mul_comm P s, HQQ.out] at hle
                    obtain ⟨e, he⟩ : ∃ e, d * s = e := ⟨_, rfl⟩
                    rw [he] at hle
                    have hei : (d : Int) * (s : Int) = (e : Int) := by rw [← Int.natCast_mul, he]
                    obtain ⟨y, hy⟩ : ∃ y, x + e = y := ⟨_, rfl⟩
                    have hyQ : y < Q := by omega
                    have hyi : (x : Int) + (e : Int) = (y : Int) := by omega
                    have V1 : IntKind.i64.wrap ((d : Int) * (s : Int)) = (e : Int) := by rw [hei, IntKind.wrap_i64]; omega
                    have V2 : IntKind.i64.wrap ((x : Int) + (e : Int)) = (y : Int) := by rw [hyi, IntKind.wrap_i64]; omega
                    have V3 : IntKind.i64.wrap ((s : Int) * (P : Int)) = (Q : Int) := by rw [hQi, IntKind.wrap_i64]; omega
                    have HRX := hide (rowR_next l s Q x d)
                    rw [he, hy] at HRX
                    have qd : decide ((d : Int) < (P : Int)) = true := by rw [decide_eq_true_eq]; omega
                    have HBD2 := hide (HBW.out.trans (HBD.out.mono HBW.out.size))
                    have CV := hide (value_any A n c l (y : Int) (Q : Int) wr HL.out (by omega) ((HI.out.below HBD2.out (Nat.le_refl _)).more HBD2.out.size) HF.out (by omega) (by omega) (by omega) (by omega))
                    by_cases hv : pv l (y : Int) % (Q : Int) = 0
                    · as_aux_lemma =>
                      have HRX2 : Hid (rowR l s Q x (d + 1) = rowR l s Q x d ++ [y]) := by
                        unfold Hid
                        rw [HRX.out, if_pos (goodR_true.2 (Int.dvd_of_emod_eq_zero hv))]
                      have HMN : Hid ((T ++ rowR l s Q x (d + 1)).length ≤ P ^ K) := by
                        unfold Hid
                        have h := pre_many (p := P) (d := d + 1) (i := i) (l := l) (s := s) (by omega) HLV.out.1 HX.out (by omega)
                        rw [HQQ.out, HTT.out] at h
                        exact Nat.le_trans h (by rw [← HQQ.out]; exact HPK.out)
                      rw [hv] at CV
                      obtain ⟨N, hN⟩ : ∃ N, (T ++ rowR l s Q x d).length = N := ⟨_, rfl⟩
                      have HN := hide hN
                      have hN1 : (T ++ rowR l s Q x (d + 1)).length = N + 1 := by rw [HRX2.out, ← List.append_assoc, List.length_append, hN]; rfl
                      have hNl : N ≤ 1000 := by have := HRD.out.1; omega
                      rw [hN1] at HMN
                      have HN1 := hide hN1
                      clear hv he hy hei hyi hQi HRX hN hN1
                      go_wp2_with fail
                      refine CV.out.mono ?_
                      rintro e w5 ⟨rfl, k, rfl⟩
                      have HRD3 := hide ((HRD.out.2.below (below_drewN (Below.refl _ _) k)).below ((Below.refl _ _).alloc (Nat.le_refl _) (.cells #[.int .i64 y] 3)))
                      have HBD3 := hide ((below_drewN HBD.out k).alloc (below_drewN HBD.out k).size (.cells #[.int .i64 y] 3))
                      have hsz := (below_drewN HBD.out k).size
                      have hsz2 := HBD.out.size
                      clear CV HRD HBD HBD2
                      go_wp2_with (at_builtin; refine wpList_append_own _ rfl _ _ 22 rfl W1.heap.size 3 i0 (.int .i64 0) 1 8 U HO.out.1 HO.out.2.1 HO.out.2.2.1 HO.out.2.2.2 rfl (by decide) u13 _ _ rfl HRD3.out ⟨(wr.drewN k).heap.size, 0, none⟩ 1 1 [.int .i64 y] rfl rfl (one_new (wr.drewN k) _ _) ?c2 ?c3 ?c4 ?c5 ?_)
                      case c2 => intro u hu; simp at hu; subst hu; rfl
                      case c3 => rw [HN.out]; simp only [maxLen]; omega
                      case c4 => rw [HN.out]; omega
                      case c5 => simp; omega
                      intro v' w5 hown hg5 _
                      have HF5 : Hid (Row w5 W1.heap.size v' (T ++ rowR l s Q x (d + 1))) := by
                        unfold Hid Row
                        rw [HRX2.out]
                        simp only [List.map_append, List.length_append, ← Nat.add_assoc]
                        exact hown
                      have B5 : Hid (Below W1.heap.size W1 w5) := HBD3.out.grown hg5 HBD3.out.size (fun k hk => HRD3.out.base k hk)
                      clear hown hg5 HRD3 HBD3
                      have hform : ∃ A2 c2, v' = .slice A2 (N + 1) c2 := by
                        have h := HF5.out
                        unfold Row at h
                        rw [map_cast, HN1.out] at h
                        obtain ⟨A2, c2, h1, _⟩ := Ints.of_own h (by rw [List.length_map]; exact HN1.out)
                        exact ⟨A2, c2, h1⟩
                      obtain ⟨A2, c2, rfl⟩ := hform
                      by_cases hbig : 1000 < N + 1
                      · have q5 : decide ((1000 : Int) < ((N + 1 : Nat) : Int)) = true := by rw [decide_eq_true_eq]; omega
                        have q5' : decide ((1000 : Int) < (N : Int) + 1) = true := by rw [decide_eq_true_eq]; omega
                        have C := fun W => hide (pfault_any 9 0 W)
                        have HB6 := hide (HBW.out.trans (B5.out.mono HBW.out.size))
                        have F6 := hide (HFC.out.below B5.out)
                        have hPK : 1000 < P ^ K := by have := HMN.out; omega
                        clear HF5 B5
                        go_wp2_with fail
                        refine (C _).out.mono ?_
                        rintro e w7 ⟨rfl, hb⟩
                        have F7 := F6.out.below hb
                        obtain ⟨d0, d1, f0, f1⟩ := F7.cells
                        obtain ⟨p0, p1⟩ := F7.put 9 0
                        have HB7 := hide (below_fault (u := .int .i64 9) (v := .int .i64 0) (HB6.out.trans (hb.mono HB6.out.size)) (Nat.le_refl w.heap.size))
                        clear hb F7
                        go_wp2_with fail
                        exact bodyPost_ret (v := .tuple #[.slice none 0 0, fv (9, 0)]) (by simp [results, Tryd.results28, go_sem, fv, p0, p1]) rfl ⟨_, (9, 0), [], rfl, fun h => absurd HC.out h, fun _ h => absurd (by rw [HQ.out]) h, fun _ _ h => by omega, fun _ _ _ => .inl ⟨rfl, rfl, by show (1000 : Int) < (P : Int) ^ K; rw [← Int.natCast_pow]; omega⟩, ⟨none, 0, rfl, ⟨fun j x hx => by simp at hx⟩⟩, HB7.out⟩
                      · have q5 : decide ((1000 : Int) < ((N + 1 : Nat) : Int)) = false := by rw [decide_eq_false_iff_not]; omega
                        have q5' : decide ((1000 : Int) < (N : Int) + 1) = false := by rw [decide_eq_false_iff_not]; omega
                        go_wp2_with fail
                        go_roundg (P - (d + 1))
                        case measure => omega
                        case rel => exact ⟨d + 1, rfl, by simp, by omega, ⟨by rw [HN1.out]; omega, HF5.out⟩, B5⟩
                    · as_aux_lemma =>
                      have HRX2 : Hid (rowR l s Q x (d + 1) = rowR l s Q x d) := by
                        unfold Hid
                        rw [HRX.out, if_neg, List.append_nil]
                        intro h
                        exact hv (Int.emod_eq_zero_of_dvd (goodR_true.1 h))
                      obtain ⟨V, hV⟩ : ∃ V, pv l (y : Int) % (Q : Int) = V := ⟨_, rfl⟩
                      rw [hV] at CV hv
                      have q2 : (V == 0) = false := by simpa using hv
                      clear hv hV he hy hei hyi hQi HRX
                      go_wp2_with fail
                      refine CV.out.mono ?_
                      rintro e w5 ⟨rfl, k, rfl⟩
                      have HRD3 := hide (HRD.out.2.below (below_drewN (Below.refl _ _) k))
                      have HBD3 := hide (below_drewN HBD.out k)
                      have hlen := HRD.out.1
                      clear CV HRD HBD HBD2
                      go_wp2_with fail
                      go_roundg (P - (d + 1))
                      case measure => omega
                      case rel => exact ⟨d + 1, rfl, by simp, by omega, by unfold Hid; rw [HRX2.out]; exact ⟨hlen, HRD3.out⟩, HBD3⟩
                  · as_aux_lemma =>
                    obtain rfl : d = P := by omega
                    have HTF := hide (take_flat (l := l) (s := s) (q := Q) (p := d) HX.out)
                    rw [HTT.out] at HTF
                    go_wp2_with fail
                    go_roundg (L.length - (i + 1))
                    case measure => omega
                    case rel => exact ⟨i + 1, rfl, by simp, by omega, by rw [HTF.out]; exact HRD, HBD⟩
              · as_aux_lemma =>
                obtain rfl : i = L.length := by omega
                have V3 : IntKind.i64.wrap ((s : Int) * (P : Int)) = (Q : Int) := by rw [hQi, IntKind.wrap_i64]; omega
                have HLV2 : Hid (LvOk l (P ^ (j + 1)) (nextR l s Q P L)) := by
                  unfold Hid
                  rw [HNX.out]
                  have h := lv_next (p := P) (show 0 < s by omega) HLV.out.1
                  rw [HQQ.out] at h
                  rw [HQQ.out]
                  exact h
                rw [List.take_length] at HRN
                have HRN2 : Hid ((nextR l s Q P L).length ≤ 1000 ∧ Row wr W1.heap.size _ (nextR l s Q P L)) := HRN
                have HRN3 := hide (show Row wr (w.heap.size + 1) _ (nextR l s Q P L) from World.ownsRow.mono HRN2.out.2 HFC.out.lt)
                have hl3 := HRN2.out.1
                have HB6 := hide (HBW.out.trans (HBN.out.mono HBW.out.size))
                have F6 := hide (HFC.out.below HBN.out)
                have hPQ : P ^ (j + 1) = Q := by rw [HNX.out, HQQ.out]
                clear HRN HRN2 HBN hQi
                go_wp2_with fail
                go_roundg (K - (j + 1))
                case measure => omega
                case rel => exact ⟨j + 1, nextR l s Q P L, rfl, by rw [hPQ], by simp, by omega, ⟨HLV2.out, hl3⟩, HRN3, F6, HB6⟩
          · as_aux_lemma =>
            obtain rfl : j = K := by omega
            have CS := hide (sort_row W1 (w.heap.size + 1) _ L HFC.out.lt HLV.out.2 HR.out)
            go_wp2_with fail
            refine CS.out.mono ?_
            rintro e w4 ⟨rfl, S, hS1, hS2, hS3, hb4⟩
            have F4 : FC w4 w.heap.size 0 0 := (hb4.block w.heap.size (Nat.lt_succ_self _)).trans HFC.out
            obtain ⟨d0, d1, f0, f1⟩ := F4.cells
            obtain ⟨p0, p1⟩ := F4.put 0 0
            have hR4 := hS3
            unfold Row at hR4
            rw [map_cast] at hR4
            have HRf := own_put (own_put hR4 (q := ⟨w.heap.size, 0, none⟩) (Nat.lt_succ_self _) (.int .i64 0)) (q := ⟨w.heap.size, 1, none⟩) (Nat.lt_succ_self _) (.int .i64 0)
            obtain ⟨A2, c2, hform, hi2⟩ := Ints.of_own HRf (by simp)
            subst hform
            have HI2 := hide hi2
            have HB7 := hide (below_fault (u := .int .i64 0) (v := .int .i64 0) (HBW.out.trans (hb4.mono (Nat.le_succ _))) (Nat.le_refl w.heap.size))
            have hl4 : S.length ≤ 1000 := by rw [hS2.length_eq]; exact HLV.out.2
            have HLS : Hid (LvOk l (P ^ j) S) := ⟨hS2.nodup_iff.2 HLV.out.1.1, fun x => by rw [hS2.mem_iff]; exact HLV.out.1.2 x⟩
            have HRS := hide hS1
            clear hS1 hS2 hS3 hR4 HRf hi2 hb4 F4 CS HLV HR
            go_wp2_with fail
            exact bodyPost_ret (v := .tuple #[.slice A2 S.length c2, fv (0, 0)]) (by simp [results, Tryd.results28, go_sem, fv, p0, p1]) rfl ⟨_, (0, 0), S, rfl, fun h => absurd HC.out h, fun _ h => absurd (by rw [HQ.out]) h, fun _ _ h => by omega, fun _ _ _ => .inr ⟨rfl, hl4, HRS.out, HLS.out⟩, ⟨A2, c2, rfl, HI2.out⟩, HB7.out⟩
    · have qx : (u != 0) = true := by simpa using hu
      go_enter Tryd.func28, Tryd.ntmps28
      go_wp2_with fail
      refine (CL _ HT.out).out.mono ?_
      rintro e w1 ⟨rfl, hb⟩
      have F1 := hide (((FC.fresh w).below hb).below (bel_cells w1 (.cells #[.int .i64 0, .int .i64 0] 24)))
      have HB1 := hide ((below_new hb).trans ((bel_cells w1 (.cells #[.int .i64 0, .int .i64 0] 24)).mono (below_new hb).size))
      have hlt0 := F1.out.lt
      clear hb
      go_wp2_with fail
      refine (CP _ HB1.out).out.mono ?_
      rintro e w2 ⟨rfl, hb⟩
      have F2 := ((F1.out.below hb).below (bel_cells w2 (.cells #[.int .i64 u, .int .i64 v] 24)))
      have HB2 := hide ((HB1.out.trans (hb.mono HB1.out.size)).trans ((bel_cells w2 (.cells #[.int .i64 u, .int .i64 v] 24)).mono (Nat.le_trans HB1.out.size hb.size)))
      obtain ⟨d0, d1, f0, f1⟩ := F2.cells
      have HF := hide F2
      clear hb F1 HB1 F2
      go_wp2_with fail
      go_region
      obtain ⟨p0, p1⟩ := HF.out.put u v
      have HB3 := hide (below_drewN (below_fault (u := .int .i64 u) (v := .int .i64 v) HB2.out (Nat.le_refl w.heap.size)) 1)
      go_wp2_with fail
      exact bodyPost_ret (v := .tuple #[.slice none 0 0, fv (u, v)]) (by simp [results, Tryd.results28, go_sem, fv, p0, p1]) rfl ⟨_, (u, v), [], rfl, fun h => absurd HC.out h, fun _ _ => ⟨HQ.out.symm, rfl⟩, fun _ h => absurd (by rw [HQ.out] at h; exact h) hu, fun _ h => absurd (by rw [HQ.out] at h; exact h) hu, ⟨none, 0, rfl, ⟨fun j x hx => by simp at hx⟩⟩, HB3.out⟩
  · have HC := hide hc
    obtain ⟨⟨u, v⟩, hF⟩ : ∃ F, padF p k = F := ⟨_, rfl⟩
    have HE := hide hF
    rw [hF] at CL
    rw [if_neg (by rw [hF] at hc; exact hc)] at CL
    have qx : (u != 0) = true := by rw [hF] at hc; simpa using hc
    simp only [fv] at CL
    clear hF hc hI hl hn
    go_enter Tryd.func28, Tryd.ntmps28
    go_wp2_with fail
    refine (CL _ HT.out).out.mono ?_
    rintro e w1 ⟨rfl, hb⟩
    have F1 := (((FC.fresh w).below hb).below (bel_cells w1 (.cells #[.int .i64 u, .int .i64 v] 24)))
    have HB := hide ((below_new hb).trans ((bel_cells w1 (.cells #[.int .i64 u, .int .i64 v] 24)).mono (below_new hb).size))
    obtain ⟨d0, d1, f0, f1⟩ := F1.cells
    have HF := hide F1
    clear hb F1
    go_wp2_with fail
    go_region
    obtain ⟨p0, p1⟩ := HF.out.put u v
    have HB2 := hide (below_drewN (below_fault (u := .int .i64 u) (v := .int .i64 v) HB.out (Nat.le_refl w.heap.size)) 1)
    go_wp2_with fail
    exact bodyPost_ret (v := .tuple #[.slice none 0 0, fv (u, v)]) (by simp [results, Tryd.results28, go_sem, fv, p0, p1]) rfl ⟨_, (u, v), [], rfl, fun _ => ⟨HE.out.symm, rfl⟩, fun h => absurd h HC.out, fun h => absurd h HC.out, fun h => absurd h HC.out, ⟨none, 0, rfl, ⟨fun j x hx => by simp at hx⟩⟩, HB2.out⟩
end Go.Proofs.YticgnjapgbjfiaaDoor
