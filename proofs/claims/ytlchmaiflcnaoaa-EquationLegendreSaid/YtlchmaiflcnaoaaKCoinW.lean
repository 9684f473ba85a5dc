/- The walk of equation.Coins: the least sums, one after the other. -/
import Derived.Test.YtlchmaiflcnaoaaKLinW
import Derived.Test.YtlchmaiflcnaoaaK0
import Derived.Test.YtlchmaiflcnaoaaKWholeB
import Derived.Deep.LoopGhost
import Derived.Deep.OwnRows
namespace Go.Proofs.Ytlchmaiflcnaoaa
open Go.RowKit

/-- a list's least number -/
def IsMin (m : Int) (l : List Int) : Prop := m ∈ l ∧ ∀ x ∈ l, m ≤ x
theorem IsMin.snoc {m x : Int} {l : List Int} (h : IsMin m l) : IsMin (min m x) (l ++ [x]) := by
  obtain ⟨h1, h2⟩ := h
  by_cases hx : m ≤ x
  · rw [Int.min_eq_left hx]
    refine ⟨List.mem_append_left _ h1, fun y hy => ?_⟩
    rcases List.mem_append.1 hy with e | e
    · exact h2 y e
    · rw [List.mem_singleton.1 e]; exact hx
  · rw [Int.min_eq_right (by omega)]
    refine ⟨by simp, fun y hy => ?_⟩
    rcases List.mem_append.1 hy with e | e
    · have := h2 y e; omega
    · rw [List.mem_singleton.1 e]; exact Int.le_refl _
theorem take_snocI {l : List Int} {i : Nat} {x : Int} (h : l[i]? = some x) : l.take (i + 1) = l.take i ++ [x] := by
  rw [List.take_add_one, h]; rfl

set_option maxRecDepth 100000 in
set_option maxHeartbeats 1600000 in
theorem min_any (A : Option Addr) (n c : Nat) (l : List Int) (w : World) (hl : l.length = n) (h1 : 1 ≤ n) (h2 : n ≤ 1000) (hA : Ints w w.heap.size A l) :
    Calls Try.prog 83 #[.slice A n c] w fun e w' => (∃ m : Int, e = .returned (.int .i64 m) ∧ IsMin m l) ∧ w = w' := by
  obtain ⟨ad, x0, rfl, hx0, _, hc0⟩ := hA.at_ (k := 0) (by omega)
  rw [addr_zero] at hc0
  have HA := hide hA
  have HX := hide hx0
  clear hA hx0
  go_enter Try.func83, Try.ntmps83
  go_wp2_with fail
  go_loop [3, 4] (fun mv iv => ∃ m : Int, ∃ i : Nat, 1 ≤ i ∧ i ≤ n ∧ iv = .int .i64 i ∧ mv = .int .i64 m ∧ Hid (IsMin m (l.take i))) (fun _ iv => n - (intOf iv).toNat)
  case atStart =>
    refine ⟨x0, 1, by omega, by omega, rfl, rfl, ?_⟩
    have := take_snocI HX.out
    unfold Hid
    rw [this, List.take_zero]
    exact ⟨by simp, by simp⟩
  case round =>
    obtain ⟨m, i, hi1, hi2, rfl, rfl, HM⟩ := hrel
    by_cases hin : i < n
    · obtain ⟨ad', x, e, hx, hab, hac⟩ := HA.out.at_ (k := i) (by omega)
      injection e with e
      subst e
      have HM2 : Hid (IsMin (min m x) (l.take (i + 1))) := by
        unfold Hid
        rw [take_snocI hx]; exact HM.out.snoc
      clear hx HM
      go_wp2_with fail
      go_round
      case rel => exact ⟨_, i + 1, by omega, by omega, by go_num, rfl, HM2⟩
      case measure => simp [intOf]; omega
    · obtain rfl : i = n := by omega
      rw [List.take_of_length_le (by omega)] at HM
      go_wp2_with fail
      go_ret
      exact ⟨⟨_, rfl, HM.out⟩, rfl⟩

/-! ## the rows -/
theorem binfo1 : (Try.prog.info? 4).map (fun i => (i.zero, i.size, i.bytes)) = some (some (.bool false), 1, 1) := by kernel_rfl
/-- a row of ints in block g -/
structure JRow (w : World) (g n : Nat) (f : Nat → Int) : Prop where
  blk : ∃ cs : Array Value, w.heap[g]? = some (.cells cs 3 (0, 0)) ∧ cs.size = n ∧ ∀ i, i < n → cs[i]? = some (.int .i64 (f i))
theorem JRow.cell {w : World} {g n : Nat} {f : Nat → Int} (h : JRow w g n f) {i : Nat} (hi : i < n) : w.cell? ⟨g, i, none⟩ = some (.int .i64 (f i)) ∧ w.frozen? ⟨g, i, none⟩ = false := by
  obtain ⟨cs, h1, _, h3⟩ := h.blk
  exact ⟨by simp [World.cell?, h1, h3 i hi], by simp [World.frozen?, h1]⟩
theorem JRow.set {w : World} {g n : Nat} {f : Nat → Int} (h : JRow w g n f) {i : Nat} (hi : i < n) (x : Int) : JRow (w.setCell ⟨g, i, none⟩ (.int .i64 x)) g n (fun j => if j = i then x else f j) := by
  obtain ⟨cs, h1, h2, h3⟩ := h.blk
  refine ⟨⟨cs.setIfInBounds i (.int .i64 x), by simp [World.setCell, Array.getElem?_modify, h1], by simp [h2], fun j hj => ?_⟩⟩
  by_cases hij : j = i
  · subst hij
    simp [Array.getElem?_setIfInBounds, h2]
    omega
  · rw [Array.getElem?_setIfInBounds_ne (by omega)]
    simp [hij, h3 j hj]
theorem JRow.ext {w : World} {g n : Nat} {f f' : Nat → Int} (h : JRow w g n f) (he : ∀ i, i < n → f i = f' i) : JRow w g n f' :=
  ⟨by
    obtain ⟨cs, h1, h2, h3⟩ := h.blk
    exact ⟨cs, h1, h2, fun i hi => by rw [h3 i hi, he i hi]⟩⟩
theorem JRow.block {w w' : World} {g n : Nat} {f : Nat → Int} (h : JRow w g n f) (hb : w'.heap[g]? = w.heap[g]?) : JRow w' g n f := by
  obtain ⟨cs, h1, h2, h3⟩ := h.blk
  exact ⟨cs, hb.trans h1, h2, h3⟩
theorem JRow.lt {w : World} {g n : Nat} {f : Nat → Int} (h : JRow w g n f) : g < w.heap.size := by
  obtain ⟨cs, h1, _⟩ := h.blk
  exact heap_lt h1
/-- a row of bools in block g -/
structure BRow (w : World) (g n : Nat) (f : Nat → Bool) : Prop where
  blk : ∃ cs : Array Value, w.heap[g]? = some (.cells cs 4 (0, 0)) ∧ cs.size = n ∧ ∀ i, i < n → cs[i]? = some (.bool (f i))
theorem BRow.cell {w : World} {g n : Nat} {f : Nat → Bool} (h : BRow w g n f) {i : Nat} (hi : i < n) : w.cell? ⟨g, i, none⟩ = some (.bool (f i)) ∧ w.frozen? ⟨g, i, none⟩ = false := by
  obtain ⟨cs, h1, _, h3⟩ := h.blk
  exact ⟨by simp [World.cell?, h1, h3 i hi], by simp [World.frozen?, h1]⟩
theorem BRow.set {w : World} {g n : Nat} {f : Nat → Bool} (h : BRow w g n f) {i : Nat} (hi : i < n) (x : Bool) : BRow (w.setCell ⟨g, i, none⟩ (.bool x)) g n (fun j => if j = i then x else f j) := by
  obtain ⟨cs, h1, h2, h3⟩ := h.blk
  refine ⟨⟨cs.setIfInBounds i (.bool x), by simp [World.setCell, Array.getElem?_modify, h1], by simp [h2], fun j hj => ?_⟩⟩
  by_cases hij : j = i
  · subst hij
    simp [Array.getElem?_setIfInBounds, h2]
    omega
  · rw [Array.getElem?_setIfInBounds_ne (by omega)]
    simp [hij, h3 j hj]
theorem BRow.ext {w : World} {g n : Nat} {f f' : Nat → Bool} (h : BRow w g n f) (he : ∀ i, i < n → f i = f' i) : BRow w g n f' :=
  ⟨by
    obtain ⟨cs, h1, h2, h3⟩ := h.blk
    exact ⟨cs, h1, h2, fun i hi => by rw [h3 i hi, he i hi]⟩⟩
theorem BRow.block {w w' : World} {g n : Nat} {f : Nat → Bool} (h : BRow w g n f) (hb : w'.heap[g]? = w.heap[g]?) : BRow w' g n f := by
  obtain ⟨cs, h1, h2, h3⟩ := h.blk
  exact ⟨cs, hb.trans h1, h2, h3⟩
theorem BRow.lt {w : World} {g n : Nat} {f : Nat → Bool} (h : BRow w g n f) : g < w.heap.size := by
  obtain ⟨cs, h1, _⟩ := h.blk
  exact heap_lt h1
theorem far_set (W : World) {g g' i : Nat} (v : Value) (h : g' ≠ g) : (W.setCell ⟨g, i, none⟩ v).heap[g']? = W.heap[g']? := Below.heap_setCell _ ⟨g, i, none⟩ _ g' h

/-- the memory of Coins: the fault's cell, the least sums, which of them are done -/
structure CSt (w W : World) (gL gD M : Nat) (L : List Int) (D : List Bool) : Prop where
  f : FC W w.heap.size 0 0
  l : JRow W gL M (gi L)
  d : BRow W gD M (gb D)
  b : Below w.heap.size w W
theorem CSt.setL {w W : World} {gL gD M : Nat} {L : List Int} {D : List Bool} (h : CSt w W gL gD M L D) (h1 : w.heap.size < gL) (h2 : gL < gD) (hl : L.length = M) {i : Nat} (hi : i < M) (v : Int) : CSt w (W.setCell ⟨gL, i, none⟩ (.int .i64 v)) gL gD M (L.set i v) D :=
  ⟨(far_set W _ (by omega)).trans h.f, (h.l.set hi v).ext fun j _ => (gi_set (by omega) v j).symm, h.d.block (far_set W _ (by omega)), h.b.setCell (p := ⟨gL, i, none⟩) (by show w.heap.size ≤ gL; omega) _⟩
theorem CSt.setD {w W : World} {gL gD M : Nat} {L : List Int} {D : List Bool} (h : CSt w W gL gD M L D) (h1 : w.heap.size < gL) (h2 : gL < gD) (hl : D.length = M) {i : Nat} (hi : i < M) (v : Bool) : CSt w (W.setCell ⟨gD, i, none⟩ (.bool v)) gL gD M L (D.set i v) :=
  ⟨(far_set W _ (by omega)).trans h.f, h.l.block (far_set W _ (by omega)), (h.d.set hi v).ext fun j _ => (gb_set (by omega) v j).symm, h.b.setCell (p := ⟨gD, i, none⟩) (by show w.heap.size ≤ gD; omega) _⟩

/-- the search for the next one, behind i numbers -/
def KSt (L : List Int) (D : List Bool) (i : Nat) (kv : Int) : Prop := (kv = -1 ∧ ∀ j, j < i → gb D j = false → gi L j < 0) ∨ ∃ j, j < i ∧ kv = ((j : Nat) : Int) ∧ gb D j = false ∧ 0 ≤ gi L j ∧ ∀ j', j' < i → gb D j' = false → 0 ≤ gi L j' → gi L j ≤ gi L j'
theorem KSt.start (L : List Int) (D : List Bool) : KSt L D 0 (-1) := .inl ⟨rfl, fun j h => by omega⟩
theorem KSt.skip {L : List Int} {D : List Bool} {i : Nat} {kv : Int} (h : KSt L D i kv) (hs : gb D i = true ∨ gi L i < 0) : KSt L D (i + 1) kv := by
  rcases h with ⟨h1, h2⟩ | ⟨j, h1, h2, h3, h4, h5⟩
  · refine .inl ⟨h1, fun j hj hd => ?_⟩
    rcases Nat.lt_succ_iff_lt_or_eq.1 hj with e | e
    · exact h2 j e hd
    · subst e
      rcases hs with e | e
      · rw [e] at hd; cases hd
      · exact e
  · refine .inr ⟨j, by omega, h2, h3, h4, fun j' hj hd hp => ?_⟩
    rcases Nat.lt_succ_iff_lt_or_eq.1 hj with e | e
    · exact h5 j' e hd hp
    · subst e
      rcases hs with e | e
      · rw [e] at hd; cases hd
      · omega
theorem KSt.stay {L : List Int} {D : List Bool} {i j : Nat} (h : KSt L D i (j : Nat)) (hs : gi L j ≤ gi L i) : KSt L D (i + 1) (j : Nat) := by
  rcases h with ⟨h1, h2⟩ | ⟨j0, h1, h2, h3, h4, h5⟩
  · omega
  · obtain rfl : j = j0 := by omega
    refine .inr ⟨j, by omega, rfl, h3, h4, fun j' hj hd hp => ?_⟩
    rcases Nat.lt_succ_iff_lt_or_eq.1 hj with e | e
    · exact h5 j' e hd hp
    · subst e; exact hs
theorem KSt.take {L : List Int} {D : List Bool} {i : Nat} {kv : Int} (h : KSt L D i kv) (hd : gb D i = false) (hp : 0 ≤ gi L i) (hs : kv = -1 ∨ ∀ j : Nat, kv = j → gi L i < gi L j) : KSt L D (i + 1) (i : Nat) := by
  refine .inr ⟨i, by omega, rfl, hd, hp, fun j' hj hd' hp' => ?_⟩
  rcases Nat.lt_succ_iff_lt_or_eq.1 hj with e | e
  · rcases h with ⟨h1, h2⟩ | ⟨j0, h1, h2, h3, h4, h5⟩
    · have := h2 j' e hd'; omega
    · have h6 := h5 j' e hd' hp'
      rcases hs with f | f
      · omega
      · have := f j0 h2; omega
  · subst e; exact Int.le_refl _
theorem KSt.cand {L : List Int} {D : List Bool} {M : Nat} {j : Nat} (hl : L.length = M) (h : KSt L D M (j : Nat)) : Cand M L D j := by
  rcases h with ⟨h1, h2⟩ | ⟨j0, h1, h2, h3, h4, h5⟩
  · omega
  · obtain rfl : j = j0 := by omega
    exact ⟨h1, h3, h4, fun j' hd hp => h5 j' (by have := gi_lt hp; omega) hd hp⟩

/-! ## what is wrong with coins -/
def badK : Nat → List Int → Int × Int
  | _, [] => (0, 0)
  | k, x :: r => if 1 ≤ x ∧ x ≤ 1000 then badK (k + 1) r else (3, k)
theorem badK_all : ∀ (l : List Int) (k : Nat), (∀ x ∈ l, 1 ≤ x ∧ x ≤ 1000) → badK k l = (0, 0)
  | [], _, _ => rfl
  | x :: r, k, h => by rw [badK, if_pos (h x (List.mem_cons_self ..)), badK_all r (k + 1) fun y hy => h y (List.mem_cons_of_mem _ hy)]
theorem badK_no : ∀ (l : List Int) (o k : Nat) (x : Int), (∀ j y, j < k → l[j]? = some y → 1 ≤ y ∧ y ≤ 1000) → l[k]? = some x → ¬ (1 ≤ x ∧ x ≤ 1000) → badK o l = (3, ((o + k : Nat) : Int))
  | [], _, k, x, _, hx, _ => by simp at hx
  | y :: r, o, 0, x, _, hx, hb => by
    injection hx with hx
    subst hx
    rw [badK, if_neg hb]; rfl
  | y :: r, o, k + 1, x, h, hx, hb => by
    rw [badK, if_pos (h 0 y (by omega) rfl), badK_no r (o + 1) k x (fun j z hj hz => h (j + 1) z (by omega) hz) hx hb]
    congr 2; omega
def gAll (l : List Int) : Nat := (l.map Int.natAbs).foldl Nat.gcd 0
def coinF (l : List Int) : Int × Int :=
  if l.length < 1 ∨ 20 < l.length then (2, 0) else if badK 0 l ≠ (0, 0) then badK 0 l else if gAll l ≠ 1 then (5, 0) else (0, 0)
theorem gAll_snoc {l : List Int} {i : Nat} {x : Int} (h : l[i]? = some x) : gAll (l.take (i + 1)) = Nat.gcd (gAll (l.take i)) x.natAbs := by
  unfold gAll
  rw [take_snocI h, List.map_append, List.foldl_append]; rfl
/-- what Coins answers -/
structure CoinOk (l : List Int) (a b : Int) (f : Int × Int) : Prop where
  fault : f = coinF l
  none : f.1 ≠ 0 → a = 0 ∧ b = 0
  some : f.1 = 0 → ∃ ls : List Nat, ∃ m hi : Nat, ∃ L : List Int, l = ls.map (fun x => ((x : Nat) : Int)) ∧ (∀ x ∈ ls, 1 ≤ x ∧ x ≤ 1000) ∧ Least ls m hi L ∧ m ∈ ls ∧ (∀ x ∈ ls, m ≤ x) ∧ hi ∈ ls ∧ (∀ x ∈ ls, x ≤ hi) ∧ a = lastK m L m ∧ b = manyK m L m
def RetCoins (w : World) (l : List Int) : Ending → World → Prop := fun e w' => ∃ a b : Int, ∃ f, e = .returned (.tuple #[.int .i64 a, .int .i64 b, fv f]) ∧ CoinOk l a b f ∧ Below w.heap.size w w'
theorem bad_case {l : List Int} {k : Nat} {x : Int} {f : Int × Int} (hl : ¬ (l.length < 1 ∨ 20 < l.length)) (h : ∀ j y, j < k → l[j]? = some y → 1 ≤ y ∧ y ≤ 1000) (hx : l[k]? = some x) (hb : ¬ (1 ≤ x ∧ x ≤ 1000)) (hf : f = (3, (k : Int))) : CoinOk l 0 0 f := by
  have e := badK_no l 0 k x h hx hb
  rw [Nat.zero_add] at e
  refine ⟨?_, fun _ => ⟨rfl, rfl⟩, fun h => by rw [hf] at h; simp at h⟩
  unfold coinF
  rw [if_neg hl, e, if_pos (by simp), hf]
theorem good_all {l : List Int} (h : ∀ j y, j < l.length → l[j]? = some y → 1 ≤ y ∧ y ≤ 1000) : ∀ x ∈ l, 1 ≤ x ∧ x ≤ 1000 := fun x hx => by
  obtain ⟨j, hj, e⟩ := List.getElem_of_mem hx
  exact h j x hj (by rw [List.getElem?_eq_getElem hj, e])
theorem natl {l : List Int} (h : ∀ x ∈ l, 1 ≤ x ∧ x ≤ 1000) : l = (l.map Int.natAbs).map (fun x => ((x : Nat) : Int)) := by
  rw [List.map_map]
  conv => lhs; rw [← List.map_id l]
  refine List.map_congr_left fun x hx => ?_
  have := h x hx
  simp; omega

set_option maxRecDepth 100000 in
set_option maxHeartbeats 1600000 in
theorem coins_many (A : Option Addr) (n c : Nat) (l : List Int) (w : World) (hl : l.length = n) (h : n < 1 ∨ 20 < n) (hn : n * 8 ≤ 140737488355328) :
    Calls Try.prog 58 #[.slice A n c] w (RetCoins w l) := by
  have C := fun W => hide (efault_any 2 0 W)
  have HK : Hid (CoinOk l 0 0 (2, 0)) := hide ⟨by unfold coinF; rw [hl, if_pos h], fun _ => ⟨rfl, rfl⟩, fun h => by simp at h⟩
  clear hl
  go_enter Try.func58, Try.ntmps58
  rcases h with h | h
  all_goals
    go_wp2_with fail
    refine (C _).out.mono ?_
    rintro e w1 ⟨rfl, hb⟩
    have F1 := (FC.fresh w).below hb
    have HB := hide (below_new hb)
    obtain ⟨d0, d1, f0, f1⟩ := F1.cells
    obtain ⟨p0, p1⟩ := F1.put 2 0
    have B6 := hide (below_fault (u := .int .i64 2) (v := .int .i64 0) HB.out (Nat.le_refl w.heap.size))
    clear hb F1
    go_wp2_with fail
    exact bodyPost_ret (v := .tuple #[.int .i64 0, .int .i64 0, fv (2, 0)]) (by simp [results, Try.results58, go_sem, fv, p0, p1]) rfl ⟨0, 0, (2, 0), rfl, HK.out, B6.out⟩
end Go.Proofs.Ytlchmaiflcnaoaa
