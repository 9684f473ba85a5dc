/- Walks and laws, in one text: each under the conditions that its theorems name. -/
import Derived.Test.YtofjmnodfabohaaGreatDoorKIsW
import Derived.Test.YtofjmnodfabohaaGreatDoorK1
import Derived.Test.YtofjmnodfabohaaGreatDoorK0
import Derived.BigQuiet
import Derived.Handy
namespace Go.Proofs.YtofjmnodfabohaaGreatDoor
open Go.RowKit

theorem lookK_one {n : Int} (h : okB n = true) : lookK 0 [n] = (0, 0) := by rw [lookK, if_pos h, lookK]

set_option maxRecDepth 100000 in
set_option maxHeartbeats 3200000 in
theorem Is_small (n : Nat) (w : World) (h2 : 2 ≤ n) (hn : n ≤ 1000000) (hT : TabW w) :
    Calls Tryz.prog 25 #[.int .i64 n] w fun e w' => e = .returned (.tuple #[.bool (prB n), fv (0, 0)]) ∧ Below w.heap.size w w' := by
  have L : ∀ (W : World) (g : Nat), g = W.heap.size → Hid (Calls Tryz.prog 40 #[.slice (some ⟨g, 0, none⟩) 1 1] (W.alloc (.cells #[.int .i64 n] 3)) (RetFault (W.alloc (.cells #[.int .i64 n] 3)) (lookK 0 [(n : Int)]))) := fun W g hg => hg ▸ look_any _ 1 1 [(n : Int)] _ rfl (by omega) (ints_new W [(n : Int)] _)
  rw [lookK_one (show okB (n : Int) = true by unfold okB; simp; omega)] at L
  have CI := fun W (hW : TabW W) => hide (is_any n W h2 (by omega) hW)
  rw [isB_small h2 hn] at CI
  have HT := hide hT
  have q1 : decide (1 < (n : Int)) = true := by rw [decide_eq_true_eq]; omega
  clear hT h2 hn
  go_enter Tryz.func25, Tryz.ntmps25
  go_wp2_with fail
  refine (L _ _ (by simp)).out.mono ?_
  rintro e w1 ⟨rfl, hb⟩
  simp only [fv]
  have F1 := (((FC.fresh w).below ((Below.refl _ _).alloc (Nat.le_refl _) (.cells #[.int .i64 n] 3))).below hb)
  have hlt := F1.lt
  have HB := hide (below_new (below_new2 hb))
  have HF := hide (F1.below ((Below.refl _ _).alloc (Nat.le_refl _) (.cells #[.int .i64 0, .int .i64 0] 23)))
  have HT2 := hide ((HT.out.below HB.out).alloc (.cells #[.int .i64 0, .int .i64 0] 23))
  have HB1 := hide (HB.out.alloc HB.out.size (.cells #[.int .i64 0, .int .i64 0] 23))
  clear hb F1
  go_wp2_with fail
  refine (CI _ HT2.out).out.mono ?_
  rintro e w2 ⟨rfl, hb⟩
  have F2 := HF.out.below hb
  obtain ⟨d0, d1, f0, f1⟩ := F2.cells
  obtain ⟨p0, p1⟩ := F2.put 0 0
  have HB2 := hide (below_fault (u := .int .i64 0) (v := .int .i64 0) (HB1.out.trans (hb.mono HB1.out.size)) (Nat.le_refl w.heap.size))
  clear hb F2
  go_wp2_with fail
  exact bodyPost_ret (v := .tuple #[.bool (prB n), fv (0, 0)]) (by simp [results, Tryz.results25, go_sem, fv, p0, p1]) rfl ⟨by simp [fv], HB2.out⟩

/-- look's word -/
def RetLook (w : World) (p k : Int) : Ending → World → Prop := fun e w' => e = .returned (.tuple #[.int .i64 (if (padF p k).1 = 0 then p ^ k.toNat else 0), fv (padF p k)]) ∧ Below w.heap.size w w'
theorem padF_range {p k : Int} (h : p < 2 ∨ 1000000 < p) : padF p k = (3, 0) := by unfold padF; rw [if_pos h]
theorem padF_kind {p k : Int} (h : ¬ (p < 2 ∨ 1000000 < p)) (h2 : prB p.toNat = false) : padF p k = (7, 0) := by unfold padF; rw [if_neg h, if_pos h2]
theorem padF_places {p k : Int} (h : ¬ (p < 2 ∨ 1000000 < p)) (h2 : prB p.toNat = true) (h3 : k < 1 ∨ 60 < k) : padF p k = (3, 1) := by unfold padF; rw [if_neg h, if_neg (by rw [h2]; simp), if_pos h3]
theorem padF_much {p k : Int} (h : ¬ (p < 2 ∨ 1000000 < p)) (h2 : prB p.toNat = true) (h3 : ¬ (k < 1 ∨ 60 < k)) (h4 : 1000000000000000000 < p ^ k.toNat) : padF p k = (9, 1) := by unfold padF; rw [if_neg h, if_neg (by rw [h2]; simp), if_neg h3, if_pos h4]
theorem padF_none {p k : Int} (h : ¬ (p < 2 ∨ 1000000 < p)) (h2 : prB p.toNat = true) (h3 : ¬ (k < 1 ∨ 60 < k)) (h4 : ¬ 1000000000000000000 < p ^ k.toNat) : padF p k = (0, 0) := by unfold padF; rw [if_neg h, if_neg (by rw [h2]; simp), if_neg h3, if_neg h4]

end Go.Proofs.YtofjmnodfabohaaGreatDoor

namespace Go.Proofs.YtofjmnodfabohaaGreatDoor
open Go.RowKit

theorem quietd_of {P : Program} {f : FuncId} {args : Array Value} {w : World} {k n : Nat} {v : Value}
    (h : Calls P f args (w.drewN (k + n)) fun e w' => e = .returned v ∧ ∃ m, w' = (w.drewN (k + n)).drewN m) : Calls P f args (w.drewN (k + n)) fun e w'' => e = .returned v ∧ ∃ m, w'' = w.drewN (k + m) :=
  h.mono fun _ _ ⟨he, m, hm⟩ => ⟨he, n + m, by rw [hm, World.drewN_drewN, Nat.add_assoc]⟩
theorem quietd_same {P : Program} {f : FuncId} {args : Array Value} {w : World} {k n : Nat} {v : Value}
    (h : Calls P f args (w.drewN (k + n)) fun e w' => e = .returned v ∧ w' = w.drewN (k + n)) : Calls P f args (w.drewN (k + n)) fun e w'' => e = .returned v ∧ ∃ m, w'' = w.drewN (k + m) :=
  h.mono fun _ _ ⟨he, hm⟩ => ⟨he, n, hm⟩
/-- every number is an int -/
def fits (l : List Int) : Prop := ∀ c ∈ l, -9223372036854775808 ≤ c ∧ c ≤ 9223372036854775807

/-- the derivative's numbers, left by m -/
def derM (l : List Int) (m : Int) : List Int := (derF 1 (l.drop 1)).map (· % m)
theorem derM_len (l : List Int) (m : Int) : (derM l m).length = l.length - 1 := by unfold derM; rw [List.length_map, derF_len, List.length_drop]
theorem derM_get {l : List Int} {m : Int} {i : Nat} {c : Int} (h : l[i + 1]? = some c) : (derM l m)[i]? = some (((i : Int) + 1) * c % m) := by
  unfold derM
  rw [List.getElem?_map, derF_get (l.drop 1) 1 i c (by rw [List.getElem?_drop, Nat.add_comm]; exact h)]
  simp [Int.add_comm]
theorem derM_fits {l : List Int} {m : Int} (hm : 0 < m) (hm2 : m ≤ 1000000000000000000) : fits (derM l m) := by
  intro c hc
  unfold derM at hc
  obtain ⟨d, _, rfl⟩ := List.mem_map.1 hc
  have h1 := Int.emod_nonneg d (b := m) (by omega)
  have h2 := Int.emod_lt_of_pos d hm
  show -9223372036854775808 ≤ d % m ∧ d % m ≤ 9223372036854775807
  omega
theorem one_new (W : World) (a : Value) (T : TypeId) : ∀ (j : Nat) (u : Value), [a][j]? = some u → (W.alloc (.cells #[a] T)).cell? ((⟨W.heap.size, 0, none⟩ : Addr).add j) = some u := by
  intro j u hu
  have hb : (W.alloc (.cells #[a] T)).heap[W.heap.size]? = some (.cells #[a] T (0, 0)) := by
    show (W.heap.push _)[W.heap.size]? = _
    simp
  generalize W.alloc (.cells #[a] T) = W2 at hb
  generalize W.heap.size = g at hb
  match j, hu with
  | 0, hu => simp at hu; subst hu; simp [World.cell?, Addr.add, hb]
theorem own_below {w w' : World} {base n : Nat} {v : Value} {xs : List Value} (h : w.ownsRow base 3 1 v n xs) (k : Below w.heap.size w w') : w'.ownsRow base 3 1 v n xs := by
  obtain ⟨h1, h2⟩ := h
  refine ⟨h1, ?_⟩
  rcases h2 with h2 | ⟨g, cap, cur, hv, hg, hh, r⟩
  · exact .inl h2
  · exact .inr ⟨g, cap, cur, hv, hg, (k.block g (heap_lt hh)).trans hh, r⟩
theorem own_base {w : World} {base n : Nat} {v : Value} {xs : List Value} (h : w.ownsRow base 3 1 v n xs) : ∀ k, v.ownBlock = some k → base ≤ k := fun k hk => (h.lt k hk).1
theorem take_more {l : List Int} {i : Nat} {c : Int} (h : l[i]? = some c) : l.take (i + 1) = l.take i ++ [c] := by
  obtain ⟨hi, rfl⟩ := List.getElem?_eq_some_iff.1 h
  exact List.take_succ_eq_append_getElem hi

def RetInts (w : World) (L : List Int) : Ending → World → Prop := fun e w' => ∃ (A : Option Addr) (c : Nat), e = .returned (.slice A L.length c) ∧ Ints w' w'.heap.size A L ∧ Below w.heap.size w w'

/-- poly's word -/
def polF (l : List Int) : Int × Int := if 13 < l.length then (2, 2) else if l.all okB = true then (0, 0) else (3, 2)
theorem polF_many {l : List Int} (h : 13 < l.length) : polF l = (2, 2) := by unfold polF; rw [if_pos h]
theorem polF_ok {l : List Int} (h : ¬ 13 < l.length) (h2 : l.all okB = true) : polF l = (0, 0) := by unfold polF; rw [if_neg h, if_pos h2]
theorem polF_bad {l : List Int} (h : ¬ 13 < l.length) (h2 : l.all okB = false) : polF l = (3, 2) := by unfold polF; rw [if_neg h, if_neg (by rw [h2]; simp)]
theorem all_false {l : List Int} {x : Int} (h : x ∈ l) (hx : okB x = false) : l.all okB = false := by
  rw [List.all_eq_false]; exact ⟨x, h, by rw [hx]; simp⟩

end Go.Proofs.YtofjmnodfabohaaGreatDoor

