/- Markov's search: the map of what was there, the sort of three numbers, the search's memory. -/
import Derived.Test.YtlchmaiflcnaoaaKMarkC
import Derived.Test.YtlchmaiflcnaoaaKShelfS
import Derived.WideKeyArr
import Derived.Maps.Own
import Derived.Maps.Views
import Derived.Sort.OwnSortedInts
namespace Go.Proofs.Ytlchmaiflcnaoaa
open Go.RowKit Go.Sort Go.Lib Go.Maps Go.WideMaps

theorem arrK : ArrKey Try.prog 83 3 3 := ⟨Try.underlying83, by kernel_rfl, by kernel_rfl, by kernel_rfl⟩
theorem key_law : Keyed Try.prog 83 := Keyed.of_law arrK.law
theorem types_pos : ∃ m, Try.prog.types.size = m + 1 := by
  have h : (decide (0 < Try.prog.types.size)) = true := by kernel_rfl
  rw [decide_eq_true_eq] at h
  exact ⟨Try.prog.types.size - 1, by omega⟩
/-- a triple as a value, as a key's datum -/
def tv (t : T3) : Value := .agg #[.int .i64 (t.1 : Nat), .int .i64 (t.2.1 : Nat), .int .i64 (t.2.2 : Nat)]
def kT (t : T3) : Lit := .string (keyBytes [.int .i64 (t.1 : Nat), .int .i64 (t.2.1 : Nat), .int .i64 (t.2.2 : Nat)])
def SmallT (t : T3) : Prop := t.1 ≤ 1000000000000000000 ∧ t.2.1 ≤ 1000000000000000000 ∧ t.2.2 ≤ 1000000000000000000
theorem wf_nat {x : Nat} (h : x ≤ 1000000000000000000) : (Lit.int .i64 (x : Nat)).wf = true := by
  have h1 : IntKind.i64.min = -9223372036854775808 := rfl
  have h2 : IntKind.i64.max = 9223372036854775807 := rfl
  simp only [Lit.wf, Bool.and_eq_true, decide_eq_true_eq]
  omega
theorem keyOf_t {t : T3} (h : SmallT t) : keyOf Try.prog 83 (tv t) = some (kT t) := by
  obtain ⟨wa, wb, wc⟩ := h
  replace wa := wf_nat wa
  replace wb := wf_nat wb
  replace wc := wf_nat wc
  have hkt := arrK.keyType types_pos
  obtain ⟨m, hm⟩ := types_pos
  unfold keyOf tv kT
  simp only [arrK.hu]
  rw [if_pos (by simp [hkt, Value.formed, arrK.hu, arrK.size]), hm]
  unfold Program.keyLits
  simp only [arrK.hu, Value.cells]
  rw [if_pos (by rw [arrK.size]; rfl), show List.range 3 = [0, 1, 2] from rfl, List.mapM_cons, List.mapM_cons, List.mapM_cons, List.mapM_nil]
  simp [arrK.one, Program.keyLits, Try.underlying3, wa, wb, wc]
theorem kT_inj {t t' : T3} (h : SmallT t) (h' : SmallT t') (e : kT t = kT t') : t = t' := by
  have := key_law.inj (keyOf_t h) (e ▸ keyOf_t h')
  unfold tv at this
  obtain ⟨a, b, c⟩ := t
  obtain ⟨a', b', c'⟩ := t'
  simp at this
  obtain ⟨h1, h2, h3⟩ := this
  simp; omega

/-- the map in block b: what was there -/
def Had (W : World) (b n : Nat) (acc : List T3) : Prop := ∃ D : DataW Unit, W.ownsMap Try.prog 83 (plainElem Try.prog 4) b n D ∧ IsMap D ∧ ∀ t, SmallT t → D.atKey (kT t) (.lit (.bool false)) = .lit (.bool (decide (t ∈ acc)))
theorem Had.made (w : World) : Had (w.alloc (.map #[] 0)) w.heap.size 0 [] :=
  ⟨.map [], World.ownsMap_made w _ _ _, isMap_empty, fun t _ => by simp [DataW.atKey]⟩
theorem Had.kept {W W' : World} {b n : Nat} {acc : List T3} {row : Option Nat} (h : Had W b n acc) (hg : W.grownBy W' row) (hne : some b ≠ row) : Had W' b n acc := by
  obtain ⟨D, h1, h2, h3⟩ := h
  exact ⟨D, h1.kept hg hne, h2, h3⟩
theorem Had.lt {W : World} {b n : Nat} {acc : List T3} (h : Had W b n acc) : b < W.heap.size := by
  obtain ⟨D, h1, _⟩ := h
  exact h1.lt
set_option maxRecDepth 100000 in
theorem bool_inv {v : Value} {x : Bool} {ps : List MemPlace} (h : plainElem (H := Unit) Try.prog 4 v = some (.lit (.bool x), ps)) : v = .bool x := by
  cases v <;> simp [plainElem, Try.underlying4] at h
  rename_i y
  rw [h.1]
theorem zero_bool (w : World) : (zeroValue 4).run Try.prog w = .ok (.bool false) w := by kernel_rfl
theorem Had.look {W : World} {b n : Nat} {acc : List T3} (h : Had W b n acc) {t : T3} (ht : SmallT t) : (Instr.lookup 114 (.map (some b)) (tv t) false).run Try.prog W = .ok (.bool (decide (t ∈ acc))) W := by
  obtain ⟨D, h1, h2, h3⟩ := h
  obtain ⟨v, ps, hr, hv⟩ := h1.lookup key_law Try.underlying114 (zero_bool W) (plainElem_bool Try.underlying4 false) (keyOf_t ht)
  rw [h3 t ht] at hv
  rw [hr, bool_inv hv]
theorem Had.put {W : World} {b n : Nat} {acc : List T3} (h : Had W b n acc) (hn : n < maxLen) {t : T3} (ht : SmallT t) : ∃ W', (Instr.mapUpdate 114 (.map (some b)) (tv t) (.bool true)).run Try.prog W = .ok () W' ∧ Had W' b (n + 1) (acc ++ [t]) ∧ W.grownBy W' (some b) := by
  obtain ⟨D, h1, h2, h3⟩ := h
  obtain ⟨W', hr, h4, h5⟩ := h1.update key_law Try.underlying114 hn (keyOf_t ht) (plainElem_bool Try.underlying4 true)
  refine ⟨W', hr, ⟨_, h4, ?_, fun t' ht' => ?_⟩, h5⟩
  · exact h2.put _ _
  · by_cases e : t' = t
    · subst e
      rw [atKey_put_same h2 (key_law.key (keyOf_t ht))]
      simp
    · rw [atKey_put_other (fun f => e (kT_inj ht' ht f)), h3 t' ht']
      simp [e]

theorem sort3_any (a b c : Int) (g : Nat) (W : World) (hab : a ≤ b) (hbc : b ≤ c) (h : W.heap[g]? = some (.cells #[.int .i64 a, .int .i64 b, .int .i64 c] 3 (0, 0))) :
    Calls Try.prog 86 #[.slice (some ⟨g, 0, none⟩) 3 3] W fun e w' => e = .returned (.tuple #[]) ∧ W.grownBy w' (some g) ∧ ∀ j y, [a, b, c][j]? = some y → w'.cell? ⟨g, j, none⟩ = some (.int .i64 y) := by
  have hs : ([a, b, c].mergeSort fun x y => decide (x ≤ y)) = [a, b, c] := List.mergeSort_of_pairwise (by simp; omega)
  have hH : Holds (Value.int .i64) W g 0 [a, b, c].toArray := holds_of_blockI h rfl
  have hC := Try.slices_Sort_int g 0 3 [a, b, c] W hH (heap_lt h) (by simp)
  rw [hs] at hC
  refine hC.mono ?_
  rintro e w' ⟨rfl, n, os, rfl⟩
  refine ⟨rfl, grownBy_sortedI _, fun j y hy => ?_⟩
  have := ownsRow_sortedI (w := W) (base := g) (g := g) (cap := 3) (n := n) (os := os) (ss := [a, b, c]) (ts := [a, b, c]) rfl (Nat.le_refl _) h (by simp) (by decide) rfl
  have hc := this.cells (g := g) rfl j (.int .i64 y) (by rw [List.getElem?_map, hy]; rfl)
  have e : (⟨g, 0, none⟩ : Addr).add j = ⟨g, j, none⟩ := by cases j <;> simp [Addr.add]
  rwa [e] at hc
end Go.Proofs.Ytlchmaiflcnaoaa
