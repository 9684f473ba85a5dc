/- Genus's loop over its map: what holds at its head. -/
import Derived.Test.YtkfjjljdhfjpbaaKGenJ
namespace Go.Proofs.Ytkfjjljdhfjpbaa
open Go.RowKit Go.Maps
open GN

theorem pbool_inv {v : Value} {y : DataW Unit × List MemPlace} (h : plainElem (H := Unit) Try.prog 4 v = some y) : ∃ c, v = .bool c := by
  cases v <;> simp [plainElem, Try.underlying4] at h ⊢
theorem pint_inv {key : Value} {kl : Lit} (h : keyOf Try.prog 3 key = some kl) : ∃ x, key = .int .i64 x := by
  obtain ⟨x, rfl, _⟩ := keyOf_int_inv Try.underlying3 h
  exact ⟨x, rfl⟩
/-- the loop over the map in block m (its iterator is block r0) has come to the row L; left: the keys still to come -/
structure GL (W0 wz : World) (m r0 n d : Nat) (A B C : Int) (Dm : DataW Unit) (left : Lit → Bool) (cnt : Nat) (ov : Value) (L : List Nat) : Prop where
  rg : wz.ranges Try.prog 3 (plainElem (H := Unit) Try.prog 4) m r0 n Dm left cnt
  row : NRow wz (r0 + 1) ov L
  b : Below r0 W0 wz
  nd : L.Nodup
  mem : ∀ k, k ∈ L ↔ k < d ∧ Nat.gcd k d = 1 ∧ hit d A B C k = true ∧ left (.int .i64 (k : Int)) = false
  sub : ∀ kl, left kl = true → has Dm kl = true
  lt : m < r0
def GKeys (d : Nat) (A B C : Int) (Dm : DataW Unit) : Prop := ∀ kl : Lit, has Dm kl = true ↔ ∃ k : Nat, k < d ∧ gB d A B C d 0 k = true ∧ kl = .int .i64 (k : Int)
theorem same_int (a b : Int) : (Lit.int .i64 a).sameKey (.int .i64 b) = decide (a = b) := by simp [Lit.sameKey]
theorem GL.start {W0 w0 : World} {m r0 n d : Nat} {A B C : Int} {Dm : DataW Unit} (hk : GKeys d A B C Dm) (h : w0.ranges Try.prog 3 (plainElem (H := Unit) Try.prog 4) m r0 n Dm (has Dm) (size Dm)) (hb : Below r0 W0 w0) (hlt : m < r0) :
    GL W0 w0 m r0 n d A B C Dm (has Dm) (size Dm) (.slice none 0 0) [] := by
  refine ⟨h, NRow.nil _ _, hb, List.nodup_nil, fun k => ⟨fun h => by simp at h, ?_⟩, fun _ h => h, hlt⟩
  rintro ⟨h1, _, h2, h3⟩
  rw [(hk _).2 ⟨k, h1, by rw [gB_end]; exact h2, rfl⟩] at h3
  cases h3
theorem GL.key {W0 wz : World} {m r0 n d : Nat} {A B C : Int} {Dm : DataW Unit} {left : Lit → Bool} {cnt : Nat} {ov : Value} {L : List Nat} (hk : GKeys d A B C Dm) (h : GL W0 wz m r0 n d A B C Dm left cnt ov L) {x : Int} {kl : Lit} (hx : keyOf Try.prog 3 (.int .i64 x) = some kl) (hl : left kl = true) :
    ∃ k : Nat, x = (k : Int) ∧ k < d ∧ hit d A B C k = true ∧ kl = .int .i64 (k : Int) := by
  obtain ⟨x', e1, e2, _⟩ := keyOf_int_inv Try.underlying3 hx
  cases e1
  obtain ⟨k, h1, h2, h3⟩ := (hk kl).1 (h.sub _ hl)
  rw [h3] at e2
  cases e2
  exact ⟨k, rfl, h1, by rw [← gB_end]; exact h2, h3⟩
theorem GL.len {W0 wz : World} {m r0 n d : Nat} {A B C : Int} {Dm : DataW Unit} {left : Lit → Bool} {cnt : Nat} {ov : Value} {L : List Nat} (h : GL W0 wz m r0 n d A B C Dm left cnt ov L) : L.length ≤ d := by
  have hs : L ⊆ List.range d := fun k hk => List.mem_range.2 ((h.mem k).1 hk).1
  have := h.nd.length_le_of_subset hs
  rwa [List.length_range] at this
/-- a key that has a common divisor with d -/
theorem GL.skip {W0 wz w' : World} {m r0 n d : Nat} {A B C : Int} {Dm : DataW Unit} {left : Lit → Bool} {cnt cnt' : Nat} {ov : Value} {L : List Nat} (h : GL W0 wz m r0 n d A B C Dm left cnt ov L) {k : Nat} (hg : Nat.gcd k d ≠ 1)
    (hr : w'.ranges Try.prog 3 (plainElem (H := Unit) Try.prog 4) m r0 n Dm (fun z => left z && !z.sameKey (.int .i64 (k : Int))) cnt') (hb : Below r0 W0 w') (hrow : NRow w' (r0 + 1) ov L) :
    GL W0 w' m r0 n d A B C Dm (fun z => left z && !z.sameKey (.int .i64 (k : Int))) cnt' ov L := by
  refine ⟨hr, hrow, hb, h.nd, fun j => ?_, fun kl hl => h.sub kl (Bool.and_eq_true _ _ ▸ hl).1, h.lt⟩
  rw [h.mem j]
  refine ⟨fun ⟨a, b, c, e⟩ => ⟨a, b, c, by simp [e]⟩, fun ⟨a, b, c, e⟩ => ⟨a, b, c, ?_⟩⟩
  have hne : (j : Int) ≠ (k : Int) := fun e' => by
    have : j = k := by omega
    subst this
    exact hg b
  rw [same_int] at e
  simpa [hne] using e
/-- a key that has none -/
theorem GL.take {W0 wz w' : World} {m r0 n d : Nat} {A B C : Int} {Dm : DataW Unit} {left : Lit → Bool} {cnt cnt' : Nat} {ov ov' : Value} {L : List Nat} (h : GL W0 wz m r0 n d A B C Dm left cnt ov L) {k : Nat} (hg : Nat.gcd k d = 1)
    (hkd : k < d) (hh : hit d A B C k = true) (hl : left (.int .i64 (k : Int)) = true)
    (hr : w'.ranges Try.prog 3 (plainElem (H := Unit) Try.prog 4) m r0 n Dm (fun z => left z && !z.sameKey (.int .i64 (k : Int))) cnt') (hb : Below r0 W0 w') (hrow : NRow w' (r0 + 1) ov' (L ++ [k])) :
    GL W0 w' m r0 n d A B C Dm (fun z => left z && !z.sameKey (.int .i64 (k : Int))) cnt' ov' (L ++ [k]) := by
  refine ⟨hr, hrow, hb, ?_, fun j => ?_, fun kl hl => h.sub kl (Bool.and_eq_true _ _ ▸ hl).1, h.lt⟩
  · rw [List.nodup_append]
    refine ⟨h.nd, by simp, fun a ha b hb e => ?_⟩
    rw [List.mem_singleton] at hb
    subst hb
    subst e
    have := ((h.mem _).1 ha).2.2.2
    rw [hl] at this
    cases this
  · rw [List.mem_append, List.mem_singleton, h.mem j]
    simp only [same_int]
    constructor
    · rintro (⟨a, b, c, e⟩ | rfl)
      · exact ⟨a, b, c, by simp [e]⟩
      · exact ⟨hkd, hg, hh, by simp⟩
    · rintro ⟨a, b, c, e⟩
      by_cases hjk : j = k
      · exact .inr hjk
      · refine .inl ⟨a, b, c, ?_⟩
        have hne : (j : Int) ≠ (k : Int) := by omega
        simpa [hne] using e
theorem GL.perm {W0 wz : World} {m r0 n d : Nat} {A B C : Int} {Dm : DataW Unit} {left : Lit → Bool} {cnt : Nat} {ov : Value} {L : List Nat} (h : GL W0 wz m r0 n d A B C Dm left cnt ov L) (hd : 0 < d) (hl : ∀ kl, left kl = false) : L.Perm (gset d A B C) := by
  refine (List.perm_ext_iff_of_nodup h.nd ((gset_sorted d A B C).imp fun h => Nat.ne_of_lt h)).2 fun k => ?_
  rw [h.mem k, mem_gset hd]
  constructor
  · rintro ⟨a, b, c, _⟩
    exact ⟨a, b, (hit_iff hd a).1 c⟩
  · rintro ⟨a, b, c⟩
    exact ⟨a, b, (hit_iff hd a).2 c, hl _⟩
theorem GS.cut {w W W' : World} {a b c : Int} {n : Nat} (h : GS w W a b c) (k : Below n W W') (hn : w.heap.size + 2 ≤ n) (hn2 : n ≤ W.heap.size) : GS w W' a b c :=
  have _ := hn2
  ⟨(k.block _ (by omega)).trans h.f, (k.block _ (by omega)).trans h.r, h.b.trans (k.mono (by omega))⟩
theorem NRow.cell {w : World} {base g : Nat} {v : Value} {L : List Nat} (h : NRow w base v L) (hg : g < base) (i : Nat) (u : Value) : NRow (w.setCell ⟨g, i, none⟩ u) base v L := by
  obtain ⟨h1, h2⟩ := h
  refine ⟨h1, ?_⟩
  rcases h2 with h2 | ⟨k, cap, cur, hv, hk, hh, q⟩
  · exact .inl h2
  · exact .inr ⟨k, cap, cur, hv, hk, by rw [Below.heap_setCell _ _ _ _ (show k ≠ g by omega)]; exact hh, q⟩
theorem NRow.low {w : World} {base base' : Nat} {v : Value} {L : List Nat} (h : NRow w base v L) (hb : base' ≤ base) : NRow w base' v L := World.ownsRow.mono h hb
theorem NRow.kept {w w' : World} {base r : Nat} {v : Value} {L : List Nat} (h : NRow w base v L) (k : w.grownBy w' (some r)) (hr : r < base) : NRow w' base v L := by
  obtain ⟨h1, h2⟩ := h
  refine ⟨h1, ?_⟩
  rcases h2 with h2 | ⟨g, cap, cur, hv, hg, hh, q⟩
  · exact .inl h2
  · exact .inr ⟨g, cap, cur, hv, hg, by rw [k.block g (Array.getElem?_eq_some_iff.1 hh).1 (by intro e; injection e with e; omega)]; exact hh, q⟩
end Go.Proofs.Ytkfjjljdhfjpbaa
