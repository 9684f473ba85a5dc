/- Slices of ints that come in; a copy of one by append; the walk of the answers' Ints on two equal lists. -/
import Derived.Test.YtlchmaiflcnaoaaDoorK0
import Derived.Deep.OwnRows
import Derived.Laws.AppendOwnNone
namespace Go.Proofs.YtlchmaiflcnaoaaDoor
open Go.RowKit

/-- what the walk is told of a slice of integers that came in -/
def IsRow (k : IntKind) (w : World) (a : Option Addr) (len cap : Nat) (zs : List Int) : Prop :=
  (a = none ∧ len = 0 ∧ cap = 0 ∧ zs = []) ∨
  ∃ x, a = some x ∧ len ≤ cap ∧ cap * 8 ≤ 140737488351232 ∧ zs.length = cap ∧ (∀ i, i < zs.length → w.cell? (x.add i) = some (.int k (zs.getD i 0))) ∧ ∀ n ∈ zs, (Lit.int k n).wf = true

theorem cell_lt {w : World} {p : Addr} {v : Value} (h : w.cell? p = some v) : p.block < w.heap.size := by
  rcases Nat.lt_or_ge p.block w.heap.size with hlt | hge
  · exact hlt
  · simp [World.cell?, Array.getElem?_eq_none hge] at h
theorem IsRow.ints {w : World} {a : Option Addr} {len cap : Nat} {zs : List Int} (h : IsRow .i64 w a len cap zs) : Ints w w.heap.size a (zs.take len) ∧ (zs.take len).length = len ∧ len * 8 ≤ 140737488351232 ∧ (a = none → len = 0 ∧ cap = 0) ∧ ∀ n ∈ zs.take len, -9223372036854775808 ≤ n ∧ n ≤ 9223372036854775807 := by
  rcases h with ⟨rfl, rfl, rfl, rfl⟩ | ⟨x, rfl, hl, hr, hz, hc, hwf⟩
  · exact ⟨⟨fun j v h => by simp at h⟩, rfl, by omega, fun _ => ⟨rfl, rfl⟩, fun n h => by simp at h⟩
  · refine ⟨⟨fun j v h => ?_⟩, by rw [List.length_take]; omega, by omega, (fun h => by cases h), fun n hn => ?_⟩
    · rw [List.getElem?_take] at h
      split at h
      · have hj : j < zs.length := (List.getElem?_eq_some_iff.1 h).1
        have hcj := hc j hj
        refine ⟨x, rfl, ?_, ?_⟩
        · have := cell_lt hcj
          rwa [add_block] at this
        · rw [hcj]
          simp [h]
      · cases h
    · have := hwf n (List.mem_of_mem_take hn)
      have h1 : IntKind.i64.min = -9223372036854775808 := rfl
      have h2 : IntKind.i64.max = 9223372036854775807 := rfl
      simp only [Lit.wf, Bool.and_eq_true, decide_eq_true_eq] at this
      omega

theorem iinfo : (Tryd.prog.info? 3).map (fun i => (i.zero, i.size, i.bytes)) = some (some (.int .i64 0), 1, 8) := by kernel_rfl

/-- what an owned row of ints is -/
theorem Ints.of_own {w : World} {base n : Nat} {v : Value} {l : List Int} (h : w.ownsRow base 3 1 v n (l.map (Value.int .i64))) (hn : l.length = n) :
    ∃ (A : Option Addr) (c : Nat), v = .slice A n c ∧ Ints w w.heap.size A l := by
  obtain ⟨_, h⟩ := h
  rcases h with ⟨rfl, h0⟩ | ⟨g, cap, cur, rfl, hg, hh, h1, h2, h3, h4⟩
  · subst h0
    have : l = [] := List.eq_nil_of_length_eq_zero hn
    subst this
    exact ⟨none, 0, rfl, ⟨fun j v h => by simp at h⟩⟩
  · refine ⟨_, _, rfl, ⟨fun j v hv => ⟨_, rfl, heap_lt hh, ?_⟩⟩⟩
    have e : (⟨g, 0, none⟩ : Addr).add j = ⟨g, j, none⟩ := by
      unfold Addr.add
      split
      · rename_i h0; subst h0; rfl
      · simp
    have hj : (cur.toList.take (n * 1))[j]? = some (.int .i64 v) := by
      rw [h4, List.getElem?_map, hv]; rfl
    rw [List.getElem?_take] at hj
    split at hj
    · rw [Array.getElem?_toList] at hj
      rw [e]
      simp [World.cell?, hh, hj]
    · cases hj

set_option maxRecDepth 100000 in
/-- append([]int(nil), l...) -/
theorem wpList_copy_ints {w : World} {ops : Array Oper} {rest : List Oper} {o : Oper} {a : Act} {Q : Exit → Act → World → Prop} (hgd : o.guard = none) (s x : Operand)
    (ho : o.op = .call { callee := .builtin .append, args := #[s, x], argTypes := #[80, 80] }) (hs : a.eval s = .slice none 0 0)
    (B : Nat) (A : Option Addr) (n c : Nat) (l : List Int) (hx : a.eval x = .slice A n c) (hl : l.length = n) (hI : Ints w B A l) (hnone : A = none → n = 0 ∧ c = 0) (hr : n * 8 ≤ 140737488355328)
    (h : ∀ (A' : Option Addr) (c' : Nat) (w' : World), Ints w' w'.heap.size A' l → Below w.heap.size w w' → wpList Tryd.prog ops Q rest (a.put o.dst (.slice A' n c')) w') : wpList Tryd.prog ops Q (o :: rest) a w := by
  obtain ⟨i0, hi, hz0, hz1, hz2⟩ := info_parts iinfo
  cases A with
  | none =>
    obtain ⟨rfl, rfl⟩ := hnone rfl
    have : l = [] := List.eq_nil_of_length_eq_zero hl
    subst this
    exact wpList_append_own_none hgd s x _ ho w.heap.size 3 i0 1 Tryd.underlying80 hi (.slice none 0 0) 0 [] hs ⟨rfl, .inl ⟨rfl, rfl⟩⟩ hx (h none 0 w ⟨fun j v h => by simp at h⟩ (Below.refl _ _))
  | some ad =>
    refine wpList_append_own _ hgd s x _ ho w.heap.size 3 i0 (.int .i64 0) 1 8 Tryd.underlying80 hi hz0 hz1 hz2 rfl (by decide) (.slice none 0 0) 0 [] hs ⟨rfl, .inl ⟨rfl, rfl⟩⟩ ad n c (l.map (Value.int .i64)) hx (by simp [hl]) ?_ ?_ (by simp only [maxLen]; omega) (by omega) (Nat.le_refl _) ?_
    · intro j u hu
      rw [List.getElem?_map] at hu
      cases hd : l[j]? with
      | none => rw [hd] at hu; cases hu
      | some d =>
        rw [hd] at hu
        obtain ⟨ad', e, hb, hc⟩ := hI.cell j d hd
        injection e with e
        subst e
        injection hu with hu
        rw [← hu]; exact hc
    · intro u hu
      obtain ⟨d, _, rfl⟩ := List.mem_map.1 hu
      rfl
    · intro v' w' hown hg _
      rw [List.nil_append, Nat.zero_add] at hown
      obtain ⟨A', c', rfl, hI'⟩ := Ints.of_own hown hl
      refine h A' c' w' hI' ((Below.refl _ _).grown hg (Nat.le_refl _) ?_)
      intro k hk
      cases hk

end Go.Proofs.YtlchmaiflcnaoaaDoor
