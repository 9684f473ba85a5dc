/- The walks of frac.Zeck and of the answers' Fibonacci. -/
import Derived.Test.YticgnjapgbjfiaaDoorBase
import Derived.Test.YticgnjapgbjfiaaDoorFracA
import Derived.Test.YticgnjapgbjfiaaDoorSortRow
import Derived.Deep.RegionLaw
import Derived.Deep.AppendLies
import Derived.Deep.LoopGhost
namespace Go.Proofs.YticgnjapgbjfiaaDoor

/-- two of Fibonacci's numbers that follow one another -/
def fib2 : Nat → Nat × Nat
  | 0 => (0, 1)
  | k + 1 => ((fib2 k).2, (fib2 k).1 + (fib2 k).2)
def fib (k : Nat) : Nat := (fib2 k).1
theorem fib2_snd (k : Nat) : (fib2 k).2 = fib (k + 1) := rfl
theorem fib_add (k : Nat) : fib (k + 2) = fib k + fib (k + 1) := rfl
theorem fib_le (k : Nat) : fib k ≤ fib (k + 1) := by
  cases k with
  | zero => decide
  | succ k => rw [fib_add]; omega
theorem fib_mono {a b : Nat} (h : a ≤ b) : fib a ≤ fib b := by
  induction b with
  | zero => rw [Nat.le_zero.1 h]; omega
  | succ b ih =>
    rcases Nat.lt_or_ge b a with h1 | h1
    · rw [show a = b + 1 from by omega]; omega
    · exact Nat.le_trans (ih h1) (fib_le b)
theorem fib_lt {a b : Nat} (h : fib a < fib b) : a < b := by
  rcases Nat.lt_or_ge a b with h1 | h1
  · exact h1
  · have := fib_mono h1; omega
theorem fib_88 : 1000000000000000000 < fib 88 := by decide
theorem fib_91 : fib 91 ≤ 9223372036854775807 := by decide

/-- the sum of those at the places of a list -/
def fsum : List Nat → Nat
  | [] => 0
  | k :: l => fib k + fsum l
theorem fsum_app (l : List Nat) (k : Nat) : fsum (l ++ [k]) = fsum l + fib k := by
  induction l with
  | nil => simp [fsum]
  | cons a l ih => simp only [List.cons_append, fsum, ih]; omega
theorem fsum_take_le (l : List Nat) (i : Nat) : fsum (l.take i) ≤ fsum l := by
  induction l generalizing i with
  | nil => simp [fsum]
  | cons a l ih =>
    cases i with
    | zero => simp [fsum]
    | succ i => simp only [List.take_succ_cons, fsum]; have := ih i; omega
theorem fsum_take {l : List Nat} {i k : Nat} (h : l[i]? = some k) : fsum (l.take (i + 1)) = fsum (l.take i) + fib k := by
  rw [List.take_add_one, h]; exact fsum_app _ _

/-- what the answers ask of a list: between 2 and 90, each two places at least below the one ahead of it -/
def ZRow (l : List Nat) : Prop := ∀ (i k : Nat), l[i]? = some k → 2 ≤ k ∧ k ≤ 90 ∧ (∀ j : Nat, 1 ≤ i → l[i - 1]? = some j → k + 2 ≤ j)
/-- behind the places from k + 1 on: r is left of n -/
structure ZAt (n k r : Nat) (l : List Nat) : Prop where
  row : ZRow l
  sum : fsum l + r = n
  less : r < fib (k + 1)
  last : ∀ j : Nat, l.getLast? = some j → r < fib (j - 1) ∧ k < j
  many : l.length ≤ 90
theorem ZAt.start {n k : Nat} (h : n < fib (k + 1)) : ZAt n k n [] := ⟨fun i k h => by simp at h, by simp [fsum], h, fun j hj => by simp at hj, by simp⟩
theorem ZAt.pass {n k r : Nat} {l : List Nat} (h : ZAt n (k + 1) r l) (hr : r < fib (k + 1)) : ZAt n k r l :=
  ⟨h.row, h.sum, hr, fun j hj => ⟨(h.last j hj).1, by have := (h.last j hj).2; omega⟩, h.many⟩
theorem zrow_len {l : List Nat} (h : ZRow l) {i k : Nat} (hk : l[i]? = some k) : k + 2 * i ≤ 90 := by
  induction i generalizing k with
  | zero => have := h 0 k hk; omega
  | succ i ih =>
    have h1 := (h (i + 1) k hk).2.2
    have hi : i < l.length := by have := (List.getElem?_eq_some_iff.1 hk).1; omega
    have h2 := h1 l[i] (by omega) (by simp [hi])
    have h3 := ih (List.getElem?_eq_getElem hi)
    omega
theorem ZAt.take {n k r : Nat} {l : List Nat} (h : ZAt n (k + 1) r l) (hk1 : 1 ≤ k) (hk : k + 1 ≤ 90) (hr : fib (k + 1) ≤ r) : ZAt n k (r - fib (k + 1)) (l ++ [k + 1]) := by
  have hl := h.less
  rw [fib_add] at hl
  have hrow : ZRow (l ++ [k + 1]) := by
    intro i x hx
    rcases Nat.lt_or_ge i l.length with h1 | h1
    · rw [List.getElem?_append_left h1] at hx
      obtain ⟨a, b, c⟩ := h.row i x hx
      refine ⟨a, b, fun j hi hj => c j hi ?_⟩
      rw [List.getElem?_append_left (by omega)] at hj
      exact hj
    · rw [List.getElem?_append_right h1] at hx
      have h2 : i = l.length := by
        have := (List.getElem?_eq_some_iff.1 hx).1
        simp at this; omega
      subst h2
      simp at hx
      subst hx
      refine ⟨by omega, by omega, fun j hi hj => ?_⟩
      rw [List.getElem?_append_left (by omega)] at hj
      have h3 := h.last j (by rw [List.getLast?_eq_getElem?]; exact hj)
      have h4 : fib (k + 1) < fib (j - 1) := by omega
      have := fib_lt h4
      omega
  refine ⟨hrow, ?_, ?_, ?_, ?_⟩
  · rw [fsum_app]; have := h.sum; omega
  · have := fib_le k; omega
  · intro j hj
    rw [List.getLast?_append] at hj
    simp at hj
    subst hj
    exact ⟨by rw [show k + 1 - 1 = k from rfl]; omega, by omega⟩
  · have h5 : (l ++ [k + 1])[l.length]? = some (k + 1) := by simp
    have := zrow_len hrow h5
    simp; omega
theorem ZAt.done {n r : Nat} {l : List Nat} (h : ZAt n 1 r l) : r = 0 ∧ fsum l = n := by
  have h1 := h.less
  have h2 := h.sum
  have h3 : fib 2 = 1 := rfl
  rw [h3] at h1
  omega
end Go.Proofs.YticgnjapgbjfiaaDoor

namespace Go.Proofs.YticgnjapgbjfiaaDoor
open Go.RowKit

set_option maxRecDepth 100000 in
set_option maxHeartbeats 1600000 in
theorem fibonacci_any (k : Nat) (w : World) (hk : k ≤ 90) : Calls Tryd.prog 37 #[.int .i64 k] w fun e w' => e = .returned (.int .i64 (fib k : Nat)) ∧ w' = w := by
  go_enter Tryd.func37, Tryd.ntmps37
  go_wp2_with fail
  go_loopg [3, 4, 5] k (fun J a b iv wr => ∃ i : Nat, J = k - i ∧ iv = .int .i64 i ∧ i ≤ k ∧ a = .int .i64 (fib i : Nat) ∧ b = .int .i64 (fib (i + 1) : Nat) ∧ wr = w)
  case atStart => exact ⟨0, by omega, rfl, by omega, rfl, rfl, rfl⟩
  case round =>
    obtain ⟨i, hJ, rfl, hi, rfl, rfl, rfl⟩ := hrel
    by_cases hik : i < k
    · have h1 := fib_91
      have h2 : fib (i + 2) ≤ fib 91 := fib_mono (by omega)
      have HA := hide (fib_add i)
      rw [HA.out] at h2
      obtain ⟨x, hx⟩ : ∃ x, fib i = x := ⟨_, rfl⟩
      obtain ⟨y, hy⟩ : ∃ y, fib (i + 1) = y := ⟨_, rfl⟩
      rw [hx, hy] at h2 HA
      have HX := hide hx
      have HY := hide hy
      rw [hx, hy]
      obtain ⟨z, hz⟩ : ∃ z, fib (i + 2) = z := ⟨_, rfl⟩
      rw [hz] at HA
      have hxyz : (x : Int) + (y : Int) = (z : Int) := by rw [HA.out]; omega
      have V : IntKind.i64.wrap ((x : Int) + (y : Int)) = (z : Int) := by rw [hxyz, IntKind.wrap_i64]; omega
      have HZ := hide hz
      clear hx hy hz h1 hxyz
      go_wp2_with fail
      go_roundg (k - (i + 1))
      case measure => omega
      case rel => exact ⟨i + 1, rfl, by simp, by omega, by rw [HY.out], by rw [HZ.out], rfl⟩
    · obtain rfl : i = k := by omega
      go_wp2_with fail
      go_ret
      exact ⟨rfl, rfl⟩

theorem own_bel' {w w' : World} {base n size : Nat} {e : TypeId} {v : Value} {xs : List Value} (h : w.ownsRow base e size v n xs) (k : Below w.heap.size w w') : w'.ownsRow base e size v n xs := by
  obtain ⟨h1, h2⟩ := h
  refine ⟨h1, ?_⟩
  rcases h2 with h2 | ⟨g, cap, cur, e, hg, hh, hr⟩
  · exact .inl h2
  · exact .inr ⟨g, cap, cur, e, hg, (k.block g (heap_lt hh)).trans hh, hr⟩
/-- the first m of Fibonacci's numbers -/
def fibs (m : Nat) : List Nat := (List.range m).map fib
theorem fibs_len (m : Nat) : (fibs m).length = m := by simp [fibs]
theorem fibs_get {m k : Nat} (h : k < m) : (fibs m)[k]? = some (fib k) := by simp [fibs, h]
theorem fibs_succ (m : Nat) : fibs (m + 1) = fibs m ++ [fib m] := by simp [fibs, List.range_succ]

/-- a row's number -/
theorem Row.get {w : World} {base : Nat} {v : Value} {L : List Nat} (h : Row w base v L) {k x : Nat} (hk : L[k]? = some x) : ∃ g c, v = .slice (some ⟨g, 0, none⟩) L.length c ∧ w.cell? ⟨g, k, none⟩ = some (.int .i64 (x : Nat)) ∧ base ≤ g ∧ g < w.heap.size := by
  have hl : 0 < L.length := by have := (List.getElem?_eq_some_iff.1 hk).1; omega
  obtain ⟨g, c, rfl, hg, hlt⟩ := World.ownsRow.form h hl
  refine ⟨g, c, rfl, ?_, hg, hlt⟩
  have := World.ownsRow.cells h (g := g) rfl k (.int .i64 (x : Nat)) (by rw [List.getElem?_map, hk]; rfl)
  rw [← this]
  congr 1
  unfold Addr.add
  split
  · rename_i h0; rw [h0]
  · simp

theorem Row.at_ {w : World} {base g n c : Nat} {L : List Nat} (h : Row w base (.slice (some ⟨g, 0, none⟩) n c) L) {k x : Nat} (hk : L[k]? = some x) : w.cell? ⟨g, k, none⟩ = some (.int .i64 (x : Nat)) := by
  have := World.ownsRow.cells h (g := g) rfl k (.int .i64 (x : Nat)) (by rw [List.getElem?_map, hk]; rfl)
  rw [← this]
  congr 1
  unfold Addr.add
  split
  · rename_i h0; rw [h0]
  · simp
/-- Zeck's word -/
def RetZeck (w : World) (n : Int) : Ending → World → Prop := fun e w' => ∃ (v : Value) (c : Int) (l : List Nat), e = .returned (.tuple #[v, fv (c, 0)]) ∧ ((0 ≤ n ∧ n ≤ 1000000000000000000) → c = 0 ∧ ZRow l ∧ fsum l = n.toNat ∧ l.length ≤ 90) ∧ (¬ (0 ≤ n ∧ n ≤ 1000000000000000000) → c = 3 ∧ v = .slice none 0 0 ∧ l = []) ∧ Row w' w.heap.size v l ∧ Below w.heap.size w w'

set_option maxRecDepth 100000 in
set_option maxHeartbeats 6400000 in
theorem zeck_any (n : Int) (w : World) (h0 : -9223372036854775808 ≤ n) (h1 : n ≤ 9223372036854775807) : Calls Tryd.prog 36 #[.int .i64 n] w (RetZeck w n) := by
  have CO := fun W => hide (ok_any n W)
  by_cases hok : 0 ≤ n ∧ n ≤ 1000000000000000000
  · obtain ⟨N, rfl⟩ : ∃ N : Nat, n = N := ⟨n.toNat, by omega⟩
    rw [show okB (N : Int) = true from by unfold okB; simp; omega] at CO
    have q1 : decide ((N : Int) < 0) = false := by rw [decide_eq_false_iff_not]; omega
    have hN : N ≤ 1000000000000000000 := by omega
    have HOK := hide hok
    have U := Tryd.underlying22
    obtain ⟨i0, hi, hz0, hz1, hz2⟩ := info_parts iinfo
    have HO := hide (And.intro hi (And.intro hz0 (And.intro hz1 hz2)))
    have HR0 : Hid (Row ((w.alloc (.cells #[.int .i64 0, .int .i64 0] 24)).alloc (.cells #[.int .i64 0, .int .i64 1, .int .i64 1] 3)) (w.heap.size + 1) (.slice (some ⟨w.heap.size + 1, 0, none⟩) 3 3) (fibs 3)) := by
      refine ⟨rfl, .inr ⟨w.heap.size + 1, 3, #[.int .i64 0, .int .i64 1, .int .i64 1], rfl, Nat.le_refl _, ?_, by decide, by simp only [maxLen]; omega, rfl, rfl⟩⟩
      have := heap_alloc_new (w.alloc (.cells #[.int .i64 0, .int .i64 0] 24)) (.cells #[.int .i64 0, .int .i64 1, .int .i64 1] 3)
      rwa [World.size_alloc] at this
    have HF0 := hide ((FC.fresh w).below (bel_f _ (.cells #[.int .i64 0, .int .i64 1, .int .i64 1] 3)))
    have HB0 := hide ((bel_f w (.cells #[.int .i64 0, .int .i64 0] 24)).alloc (bel_f w (.cells #[.int .i64 0, .int .i64 0] 24)).size (.cells #[.int .i64 0, .int .i64 1, .int .i64 1] 3))
    clear hok h0 h1 hi hz0 hz1 hz2
    go_enter Tryd.func36, Tryd.ntmps36
    go_wp2_with fail
    refine (CO _).out.mono ?_
    rintro e w1 ⟨rfl, rfl⟩
    go_wp2_with fail
    go_loopg [4] 86 (fun J v wr => ∃ m : Nat, J = 89 - m ∧ 3 ≤ m ∧ m ≤ 89 ∧ Hid (Row wr (w.heap.size + 1) v (fibs m)) ∧ Hid (FC wr w.heap.size 0 0) ∧ Hid (Below w.heap.size w wr))
    case atStart => exact ⟨3, by omega, by omega, by omega, HR0, HF0, HB0⟩
    case round =>
      clear HR0 HF0 HB0
      obtain ⟨m, hJ, hm3, hm, HR, HF, HB⟩ := hrel
      obtain ⟨m, rfl⟩ : ∃ k, m = k + 2 := ⟨m - 2, by omega⟩
      obtain ⟨g, c, rfl, cx, hg, hgl⟩ := HR.out.get (fibs_get (show m + 1 < m + 2 by omega))
      have cy := HR.out.at_ (fibs_get (show m < m + 2 by omega))
      rw [fibs_len] at HR ⊢
      have V1 : IntKind.i64.wrap ((m : Int) + 2 - 1) = (m : Int) + 1 := by rw [IntKind.wrap_i64]; omega
      have V2 : IntKind.i64.wrap (m : Int) = (m : Int) := by rw [IntKind.wrap_i64]; omega
      have p1 : (0 : Int) ≤ (m : Int) + 1 := by omega
      have p2 : (0 : Int) ≤ (m : Int) := by omega
      have p3 : (m : Int) < (m : Int) + 2 := by omega
      have V4 : IntKind.i64.wrap ((m : Int) + 2 - 2) = (m : Int) := by rw [IntKind.wrap_i64]; omega
      have h88 := fib_88
      have h91 := fib_91
      have HA := hide (fib_add m)
      obtain ⟨x, hx⟩ : ∃ x, fib m = x := ⟨_, rfl⟩
      obtain ⟨y, hy⟩ : ∃ y, fib (m + 1) = y := ⟨_, rfl⟩
      rw [hx] at cy
      rw [hy] at cx
      by_cases hle : y ≤ N
      · have hm2 : m + 1 < 88 := fib_lt (by omega)
        have q2 : decide ((y : Int) ≤ (N : Int)) = true := by rw [decide_eq_true_eq]; omega
        have q3 : decide (y ≤ N) = true := by rw [decide_eq_true_eq]; omega
        obtain ⟨z, hz⟩ : ∃ z, fib (m + 2) = z := ⟨_, rfl⟩
        have h91' : fib (m + 2) ≤ fib 91 := fib_mono (by omega)
        rw [hz] at h91'
        rw [hx, hy, hz] at HA
        have hyx : (y : Int) + (x : Int) = (z : Int) := by rw [HA.out]; omega
        have V3 : IntKind.i64.wrap ((y : Int) + (x : Int)) = (z : Int) := by rw [hyx, IntKind.wrap_i64]; omega
        have HZ := hide hz
        have HR2 : Hid (wr.ownsRow (w.heap.size + 1) 3 1 (.slice (some ⟨g, 0, none⟩) (m + 2) c) (m + 2) ((fibs (m + 2)).map fun p => Value.int .i64 (p : Nat))) := by
          have := HR.out
          unfold Row at this
          rw [fibs_len] at this
          exact this
        clear hx hy hz hyx h88 h91 h91' hle
        go_wp2_with fail
        go_region_law ((refine step_append_lies _ (by rfl) _ _ _ (by rfl) (w.heap.size + 1) 3 i0 _ 1 8 U HO.out.1 HO.out.2.1 HO.out.2.2.1 HO.out.2.2.2 rfl (by omega) (.slice (some ⟨g, 0, none⟩) (m + 2) c) (m + 2) ((fibs (m + 2)).map fun p => Value.int .i64 (p : Nat)) (by rfl) (own_bel' HR2.out (below_drewN (bel_f wr (.cells #[.int .i64 z] 3)) 1)) ⟨wr.heap.size, 0, none⟩ 1 1 [.int .i64 z] (by rfl) (by rfl) (World.news_of_block (cs := #[.int .i64 z]) (t := 3) (fr := (0, 0)) (heap_alloc_new wr _)) (by simp [Value.oneCell']) (by omega) (by simp only [maxLen]; omega) (by omega) (by simp; omega) (wr.heap.size + 1) (by simp) ?_; intro gg cap w5 hown1 hgrow hat hlt))
        all_goals
          have HF5 : Hid (Row w5 (w.heap.size + 1) (.slice (some ⟨gg, 0, none⟩) (m + 2 + 1) cap) (fibs (m + 1 + 2))) := by
            unfold Hid Row
            rw [show m + 1 + 2 = m + 2 + 1 from by omega, fibs_succ, HZ.out]
            simp only [List.map_append, List.map_cons, List.map_nil, List.length_append, fibs_len, List.length_cons, List.length_nil, Nat.zero_add]
            exact hown1
          have hbs := HB.out.size
          have hfl := HF.out.lt
          have B5 : Hid (Below (w.heap.size + 1) wr w5) := (below_drewN ((Below.refl (w.heap.size + 1) wr).alloc (by omega) (.cells #[.int .i64 z] 3)) 1).grown hgrow (by simp; omega) (fun k hk => by
            simp [Value.ownBlock] at hk
            omega)
          have F5 : Hid (FC w5 w.heap.size 0 0) := (B5.out.block _ (by omega)).trans HF.out
          have B6 : Hid (Below w.heap.size w w5) := HB.out.trans (B5.out.mono (by omega))
          clear hown1 hgrow hat hlt B5
          go_wp2_with fail
          go_roundg (89 - (m + 1 + 2))
          case measure => omega
          case rel => exact ⟨m + 1 + 2, rfl, by omega, by omega, HF5, F5, B6⟩
      · have q2 : decide ((y : Int) ≤ (N : Int)) = false := by rw [decide_eq_false_iff_not]; omega
        have q3 : decide (y ≤ N) = false := by rw [decide_eq_false_iff_not]; omega
        have HZ : Hid (ZAt N (m + 1) N []) := ZAt.start (by rw [fib_add, hx, hy]; omega)
        have HRF := hide HR.out
        clear hx hy HA h88 h91 hle
        obtain ⟨W1, rfl⟩ : ∃ W1, W1 = wr := ⟨_, rfl⟩
        have V9 : IntKind.i64.wrap ((m : Int) + 1) = (m : Int) + 1 := by rw [IntKind.wrap_i64]; omega
        go_wp2_with fail
        go_loopg [0, 5, 6] (m + 1) (fun J nv ov kv wr => ∃ (k r : Nat) (l : List Nat), J = k ∧ kv = .int .i64 k ∧ 1 ≤ k ∧ k ≤ m + 1 ∧ nv = .int .i64 r ∧ r ≤ N ∧ Hid (ZAt N k r l) ∧ Hid (Row wr W1.heap.size ov l) ∧ Hid (Below W1.heap.size W1 wr))
        case atStart => exact ⟨m + 1, N, [], rfl, by simp, by omega, by omega, rfl, Nat.le_refl _, HZ, Row.nil _ _, Below.refl _ _⟩
        case round =>
          clear HZ
          obtain ⟨k, r, l, hJ2, rfl, hk1, hk2, rfl, hr, HZ, HRO, HBQ⟩ := hrel
          by_cases hk : 1 < k
          · obtain ⟨k, rfl⟩ : ∃ j, k = j + 1 := ⟨k - 1, by omega⟩
            have ck := (HBQ.out.cell (p := ⟨g, k + 1, none⟩) hgl).trans (HRF.out.at_ (fibs_get (show k + 1 < m + 2 by omega)))
            have q4 : decide (1 < ((k + 1 : Nat) : Int)) = true := by rw [decide_eq_true_eq]; omega
            have q5 : decide ((1 : Int) < (k : Int) + 1) = true := by rw [decide_eq_true_eq]; omega
            have W2 : IntKind.i64.wrap ((k : Int) + 1 - 1) = (k : Int) := by rw [IntKind.wrap_i64]; omega
            have W3 : IntKind.i64.wrap (k : Int) = (k : Int) := by rw [IntKind.wrap_i64]; omega
            have s1 : (0 : Int) ≤ (k : Int) + 1 := by omega
            have s2 : (k : Int) + 1 < (m : Int) + 2 := by omega
            obtain ⟨f, hf⟩ : ∃ f, fib (k + 1) = f := ⟨_, rfl⟩
            rw [hf] at ck
            have hsz := HBQ.out.size
            by_cases hfr : f ≤ r
            · as_aux_lemma =>
              have HZ2 := hide (HZ.out.take (by omega) (by omega) (by rw [hf]; exact hfr))
              rw [hf] at HZ2
              have q6 : decide ((f : Int) ≤ (r : Int)) = true := by rw [decide_eq_true_eq]; omega
              have q7 : decide (f ≤ r) = true := by rw [decide_eq_true_eq]; omega
              obtain ⟨r2, hr2⟩ : ∃ r2, r - f = r2 := ⟨_, rfl⟩
              rw [hr2] at HZ2
              have hri : (r : Int) - (f : Int) = (r2 : Int) := by omega
              have W4 : IntKind.i64.wrap ((r : Int) - (f : Int)) = (r2 : Int) := by rw [hri, IntKind.wrap_i64]; omega
              have hl90 := HZ.out.many
              have hl : l.length ≤ 90 := hl90
              have HRA := hide (HRO.out.below (bel_f wr (.cells #[.int .i64 ((k : Int) + 1)] 3)))
              have HBA := hide (HBQ.out.alloc hsz (.cells #[.int .i64 ((k : Int) + 1)] 3))
              clear hf hri
              go_wp2_with (at_builtin; refine wpList_append_own _ rfl _ _ 22 rfl W1.heap.size 3 i0 (.int .i64 0) 1 8 U HO.out.1 HO.out.2.1 HO.out.2.2.1 HO.out.2.2.2 rfl (by decide) _ _ _ rfl HRA.out ⟨wr.heap.size, 0, none⟩ 1 1 [.int .i64 ((k : Int) + 1)] rfl rfl (one_new wr _ _) ?c2 ?c3 ?c4 ?c5 ?_)
              case c2 => intro u hu; simp at hu; subst hu; rfl
              case c3 => simp only [maxLen]; omega
              case c4 => omega
              case c5 => simp; omega
              intro v' w5 hown hg5 _
              have HF5 : Hid (Row w5 W1.heap.size v' (l ++ [k + 1])) := by
                unfold Hid Row
                simp only [List.map_append, List.map_cons, List.map_nil, List.length_append, List.length_cons, List.length_nil, Nat.zero_add]
                exact hown
              have B5 : Hid (Below W1.heap.size W1 w5) := HBA.out.grown hg5 HBA.out.size (fun k hk => HRA.out.base k hk)
              clear hown hg5 HRA HBA
              go_wp2_with fail
              go_roundg k
              case measure => omega
              case rel => exact ⟨k, r2, _, rfl, rfl, by omega, by omega, rfl, by omega, HZ2, HF5, B5⟩
            · as_aux_lemma =>
              have HZ2 := hide (HZ.out.pass (by omega))
              have q6 : decide ((f : Int) ≤ (r : Int)) = false := by rw [decide_eq_false_iff_not]; omega
              have q7 : decide (f ≤ r) = false := by rw [decide_eq_false_iff_not]; omega
              clear hf
              go_wp2_with fail
              go_roundg k
              case measure => omega
              case rel => exact ⟨k, r, l, rfl, rfl, by omega, by omega, rfl, hr, HZ2, HRO, HBQ⟩
          · obtain rfl : k = 1 := by omega
            as_aux_lemma =>
              have hdn := HZ.out.done
              have HE := hide (And.intro HZ.out.row (And.intro hdn.2 HZ.out.many))
              have F5 := HF.out.below HBQ.out
              have hfl := HF.out.lt
              obtain ⟨d0, d1, f0, f1⟩ := F5.cells
              obtain ⟨p0, p1⟩ := F5.put 0 0
              have B6 := hide (below_fault (u := .int .i64 0) (v := .int .i64 0) (HB.out.trans (HBQ.out.mono HB.out.size)) (Nat.le_refl w.heap.size))
              have hbs := HB.out.size
              have HR6 : Hid (Row ((wr.setCell ⟨w.heap.size, 0, none⟩ (.int .i64 0)).setCell ⟨w.heap.size, 1, none⟩ (.int .i64 0)) w.heap.size u5 l) :=
                World.ownsRow.mono (ownsRow_setCell_below (a := ⟨w.heap.size, 1, none⟩) (ownsRow_setCell_below (a := ⟨w.heap.size, 0, none⟩) HRO.out (show w.heap.size < W1.heap.size from hfl) (.int .i64 0)) (show w.heap.size < W1.heap.size from hfl) (.int .i64 0)) hbs
              clear hdn F5
              go_wp2_with fail
              exact bodyPost_ret (v := .tuple #[u5, fv (0, 0)]) (by simp [results, Tryd.results36, go_sem, fv, p0, p1]) rfl ⟨u5, 0, l, rfl, fun _ => ⟨rfl, HE.out.1, by rw [HE.out.2.1]; rfl, HE.out.2.2⟩, fun h => absurd HOK.out h, HR6.out, B6.out⟩
  · have C := fun W => hide (ffault_any 3 0 W)
    have HOK := hide hok
    by_cases h2 : n < 0
    · have q1 : decide (n < 0) = true := by simpa using h2
      clear hok h0 h1
      go_enter Tryd.func36, Tryd.ntmps36
      go_wp2_with fail
      refine (C _).out.mono ?_
      rintro e w1 ⟨rfl, hb⟩
      have F1 := (FC.fresh w).below hb
      obtain ⟨d0, d1, f0, f1⟩ := F1.cells
      obtain ⟨p0, p1⟩ := F1.put 3 0
      have HB2 := hide (below_fault (u := .int .i64 3) (v := .int .i64 0) (below_new hb) (Nat.le_refl w.heap.size))
      clear hb F1
      go_wp2_with fail
      exact bodyPost_ret (v := .tuple #[.slice none 0 0, fv (3, 0)]) (by simp [results, Tryd.results36, go_sem, fv, p0, p1]) rfl ⟨_, 3, [], rfl, fun h => absurd h HOK.out, fun _ => ⟨rfl, rfl, rfl⟩, Row.nil _ _, HB2.out⟩
    · have q1 : decide (n < 0) = false := by simpa using h2
      rw [show okB n = false from by unfold okB; simp; omega] at CO
      clear hok h0 h1
      go_enter Tryd.func36, Tryd.ntmps36
      go_wp2_with fail
      refine (CO _).out.mono ?_
      rintro e w1 ⟨rfl, rfl⟩
      go_wp2_with fail
      refine (C _).out.mono ?_
      rintro e w1 ⟨rfl, hb⟩
      have F1 := (FC.fresh w).below hb
      obtain ⟨d0, d1, f0, f1⟩ := F1.cells
      obtain ⟨p0, p1⟩ := F1.put 3 0
      have HB2 := hide (below_fault (u := .int .i64 3) (v := .int .i64 0) (below_new hb) (Nat.le_refl w.heap.size))
      clear hb F1
      go_wp2_with fail
      exact bodyPost_ret (v := .tuple #[.slice none 0 0, fv (3, 0)]) (by simp [results, Tryd.results36, go_sem, fv, p0, p1]) rfl ⟨_, 3, [], rfl, fun h => absurd h HOK.out, fun _ => ⟨rfl, rfl, rfl⟩, Row.nil _ _, HB2.out⟩
end Go.Proofs.YticgnjapgbjfiaaDoor
