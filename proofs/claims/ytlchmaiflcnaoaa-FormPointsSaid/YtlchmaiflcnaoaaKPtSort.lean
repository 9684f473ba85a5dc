/- The order of the points, and the library's sort of a row of them. -/
import Derived.Test.YtlchmaiflcnaoaaKShelfF
import Derived.Test.YtlchmaiflcnaoaaKFormH
import Derived.Shelf.SlSortCmp.NoneTotal
import Derived.Deep.RegionHeld3
namespace Go.Proofs.Ytlchmaiflcnaoaa
open Go.RowKit Go.Sort Go.Lib

/-- the first of two that is not 0 -/
def or2 (a b : Int) : Int := if a ≠ 0 then a else b
set_option maxRecDepth 100000 in
set_option maxHeartbeats 1600000 in
theorem or2_any (g : Nat) (a b : Int) (W : World) (T : TypeId) (h : Row W g #[.int .i64 a, .int .i64 b] T) :
    Calls Try.prog 43 #[.slice (some ⟨g, 0, none⟩) 2 2] W fun e w' => e = .returned (.int .i64 (or2 a b)) ∧ w' = W := by
  have c0 : W.cell? ⟨g, 0, none⟩ = some (.int .i64 a) := h.cell 0
  have c1 : W.cell? ⟨g, 1, none⟩ = some (.int .i64 b) := h.cell 1
  clear h
  by_cases ha : a = 0
  · by_cases hb : b = 0
    · subst ha hb
      go_enter Try.func43, Try.ntmps43
      go_wp2_with fail
      refine wp_loop_rounds 3 ?_
      rw [rounds_succ]
      go_wp2_with fail
      rw [rounds_succ]
      go_wp2_with fail
      rw [rounds_succ]
      go_wp2_with fail
      go_ret
      exact ⟨rfl, rfl⟩
    · have q1 : (b != 0) = true := by simpa using hb
      have q2 : decide (b = 0) = false := by simpa using hb
      have e : Hid (or2 0 b = b) := hide (by simp [or2])
      subst ha
      clear hb
      go_enter Try.func43, Try.ntmps43
      go_wp2_with fail
      refine wp_loop_rounds 2 ?_
      rw [rounds_succ]
      go_wp2_with fail
      rw [rounds_succ]
      go_wp2_with fail
      go_ret
      exact ⟨by rw [e.out]; rfl, rfl⟩
  · have q1 : (a != 0) = true := by simpa using ha
    have q2 : decide (a = 0) = false := by simpa using ha
    have e : Hid (or2 a b = a) := hide (by simp [or2, ha])
    clear ha
    go_enter Try.func43, Try.ntmps43
    go_wp2_with fail
    refine wp_loop_rounds 1 ?_
    rw [rounds_succ]
    go_wp2_with fail
    go_ret
    exact ⟨by rw [e.out]; rfl, rfl⟩

/-- a pair's cells -/
def encP (x : Int × Int) : List Value := [.int .i64 x.1, .int .i64 x.2]
def cmpP (x y : Int × Int) : Int := or2 (compareInt x.1 y.1) (compareInt x.2 y.2)
theorem cmpP_lt (x y : Int × Int) : ltOf cmpP x y = decide (x.1 < y.1 ∨ (x.1 = y.1 ∧ x.2 < y.2)) := by
  unfold ltOf
  rw [decide_eq_decide]
  unfold cmpP or2 compareInt
  constructor
  · intro h
    split at h <;> (try split at h) <;> (try split at h) <;> (try split at h) <;> omega
  · intro h
    split <;> (try split) <;> (try split) <;> (try split) <;> omega
theorem cmpP_swo : SWO (ltOf cmpP) where
  irrefl x := by rw [cmpP_lt]; simp
  trans x y z h1 h2 := by rw [cmpP_lt] at *; simp only [decide_eq_true_eq] at *; omega
  ntrans x y z h1 h2 := by rw [cmpP_lt] at *; simp only [decide_eq_false_iff_not] at *; omega
theorem drew_grow' (w : World) (q : Nat) (os : Array Obj) : (grow w os).drewN q = grow (w.drewN q) os := rfl

set_option maxRecDepth 100000 in
set_option maxHeartbeats 1600000 in
theorem order_p (x y : Int × Int) (W : World) :
    Calls Try.prog 42 #[.agg #[.int .i64 x.1, .int .i64 x.2], .agg #[.int .i64 y.1, .int .i64 y.2]] W fun e w' => e = .returned (.int .i64 (cmpP x y)) ∧ ∃ q os', w' = grow (W.drewN q) os' := by
  obtain ⟨a, b⟩ := x
  obtain ⟨a', b'⟩ := y
  have CC := fun p q W => hide (Try.cmp_Compare_int p q W)
  have CO := fun (W : World) (g : Nat) (p q : Int) (hg : g = W.heap.size) => hide (or2_any g p q (W.alloc (.cells #[.int .i64 p, .int .i64 q] 3)).drew 3 (hg ▸ Row.made W _ _))
  unfold cmpP
  go_enter Try.func42, Try.ntmps42
  go_upto_region 1 with (fail)
  obtain ⟨wa, hwa⟩ : ∃ Z, (W.alloc (.cells #[.int .i64 a, .int .i64 b] 34)).alloc (.cells #[.int .i64 a', .int .i64 b'] 34) = Z := ⟨_, rfl⟩
  have HWA := hide hwa
  have h1 : Row wa W.heap.size #[.int .i64 a, .int .i64 b] 34 := by
    rw [← hwa]; exact (Row.made W _ _).below (bel_obj _ _)
  have h2 : Row wa (W.heap.size + 1) #[.int .i64 a', .int .i64 b'] 34 := by
    rw [← hwa]
    have := Row.made (W.alloc (.cells #[.int .i64 a, .int .i64 b] 34)) #[.int .i64 a', .int .i64 b'] 34
    rwa [World.size_alloc] at this
  (try rw [hwa])
  clear hwa
  have HG : Hid (∀ o, ∃ q os', (wa.alloc o).drew = grow (W.drewN q) os') := hide (fun o => ⟨1, _, by rw [← HWA.out, alloc_eq_grow, alloc_eq_grow, alloc_eq_grow, grow_grow, grow_grow]; exact drew_grow' W 1 _⟩)
  have KA : ∀ Z, Below wa.heap.size wa Z → Z.cell? ⟨W.heap.size, 0, none⟩ = some (.int .i64 a) ∧ Z.cell? ⟨W.heap.size, 1, none⟩ = some (.int .i64 b) ∧ Z.cell? ⟨W.heap.size + 1, 0, none⟩ = some (.int .i64 a') ∧ Z.cell? ⟨W.heap.size + 1, 1, none⟩ = some (.int .i64 b') := fun Z hZ =>
    ⟨(h1.below hZ).cell 0, (h1.below hZ).cell 1, (h2.below hZ).cell 0, (h2.below hZ).cell 1⟩
  clear h1 h2
  go_region_held3 (fun Z => Z.cell? ⟨W.heap.size, 0, none⟩ = some (.int .i64 a) ∧ Z.cell? ⟨W.heap.size, 1, none⟩ = some (.int .i64 b) ∧ Z.cell? ⟨W.heap.size + 1, 0, none⟩ = some (.int .i64 a') ∧ Z.cell? ⟨W.heap.size + 1, 1, none⟩ = some (.int .i64 b'))
    (first | exact KA _ (below_drewN (Below.refl _ _) 1) | exact KA _ (below_drewN (bel_obj _ _) 1) | exact KA _ (bel_obj _ _) | exact KA _ (Below.refl _ _))
    (first
      | (go_at_call 44; refine (CC _ _ _).out.mono ?_; rintro e w5 ⟨rfl, rfl⟩)
      | (go_at_call 43; refine (CO _ _ _ _ rfl).out.mono ?_; rintro e w5 ⟨rfl, rfl⟩))
  all_goals
    go_wp2_with fail
    go_ret
    exact ⟨rfl, HG.out _⟩

/-- a slice of points -/
def PRow (w : World) (base : Nat) (v : Value) (L : List (Int × Int)) : Prop := (v = .slice none 0 0 ∧ L = []) ∨ ∃ g cap, v = .slice (some ⟨g, 0, none⟩) L.length cap ∧ base ≤ g ∧ g < w.heap.size ∧ ∀ (i : Nat) (t : Int × Int), L[i]? = some t → w.cell? ⟨g, i * 2, none⟩ = some (.int .i64 t.1) ∧ w.cell? ⟨g, i * 2 + 1, none⟩ = some (.int .i64 t.2)
theorem PRow.below {w w' : World} {base : Nat} {v : Value} {L : List (Int × Int)} (h : PRow w base v L) (k : Below w.heap.size w w') : PRow w' base v L := by
  rcases h with h | ⟨g, cap, h1, h2, h3, h4⟩
  · exact .inl h
  · refine .inr ⟨g, cap, h1, h2, Nat.lt_of_lt_of_le h3 k.size, fun i t ht => ?_⟩
    obtain ⟨a, b⟩ := h4 i t ht
    exact ⟨(k.cell (p := ⟨g, i * 2, none⟩) h3).trans a, (k.cell (p := ⟨g, i * 2 + 1, none⟩) h3).trans b⟩
theorem PRow.mono {w : World} {base b2 : Nat} {v : Value} {L : List (Int × Int)} (h : PRow w base v L) (hb : b2 ≤ base) : PRow w b2 v L := by
  rcases h with h | ⟨g, cap, h1, h2, h3⟩
  · exact .inl h
  · exact .inr ⟨g, cap, h1, Nat.le_trans hb h2, h3⟩
theorem encP_len (x : Int × Int) : (encP x).length = 2 := rfl
theorem encP_one (x : Int × Int) : ∀ v ∈ encP x, v.oneCell' = true := by
  intro v hv
  simp [encP] at hv
  rcases hv with rfl | rfl <;> rfl
theorem flatP_get : ∀ (l : List (Int × Int)) (i j : Nat) (t : Int × Int), l[i]? = some t → j < 2 → (l.flatMap encP)[i * 2 + j]? = (encP t)[j]?
  | [], i, j, t, h, _ => by simp at h
  | x :: r, 0, j, t, h, hj => by
    injection h with h
    subst h
    rw [List.flatMap_cons, List.getElem?_append_left (by rw [encP_len]; omega), Nat.zero_mul, Nat.zero_add]
  | x :: r, i + 1, j, t, h, hj => by
    rw [List.flatMap_cons, List.getElem?_append_right (by rw [encP_len]; omega), encP_len, show (i + 1) * 2 + j - 2 = i * 2 + j by omega]
    exact flatP_get r i j t h hj
theorem flatP_len (l : List (Int × Int)) : (l.flatMap encP).length = l.length * 2 := by
  induction l with
  | nil => rfl
  | cons x r ih => rw [List.flatMap_cons, List.length_append, ih, encP_len, List.length_cons]; omega
theorem isAgg_p : ∀ w, (isAgg 34).run Try.prog w = .ok true w := fun _ => by kernel_rfl
theorem sizeOf_p : ∀ w, (Go.sizeOf 34).run Try.prog w = .ok 2 w := fun _ => by kernel_rfl
theorem grownBy_sortedP {w : World} {g n : Nat} {os : Array Obj} (d : Array (Int × Int)) : w.grownBy (sortWorldK encP 2 w g 0 n d os) (some g) := by
  unfold sortWorldK putRowK
  refine ⟨rfl, rfl, rfl, by simp, fun k hk hne => ?_⟩
  rw [heap_grow_old _ _ (by simpa using hk)]
  have : g ≠ k := fun e => hne (by rw [e])
  simp [putRow, mapBlock, Sort.ahead, Array.getElem?_modify, this]
theorem holds_p {w : World} {g : Nat} {cur : Array Value} {T : TypeId} {l : List (Int × Int)} (hh : w.heap[g]? = some (.cells cur T (0, 0))) (hc : cur.toList.take (l.length * 2) = l.flatMap encP) : HoldsK encP 2 w g 0 l.toArray := by
  intro j hj
  rw [size_flatK] at hj
  have hj' : j < l.length * 2 := by simpa using hj
  have hq : j / 2 < l.length := by omega
  refine ⟨?_, by simp [World.frozen?, hh]⟩
  rw [get_flatK _ _ _ _ hj]
  have h1 : (cur.toList.take (l.length * 2))[j]? = (l.flatMap encP)[j]? := by rw [hc]
  rw [List.getElem?_take, if_pos hj'] at h1
  have h2 := flatP_get l (j / 2) (j % 2) l[j / 2] (List.getElem?_eq_getElem hq) (Nat.mod_lt _ (by omega))
  rw [show j / 2 * 2 + j % 2 = j by omega] at h2
  have h3 : w.cell? ⟨g, 0 + j, none⟩ = cur[j]? := by simp [World.cell?, hh]
  rw [h3, ← Array.getElem?_toList, h1, h2]
  have h4 : l.toArray[j / 2]! = l[j / 2] := by simp [hq]
  have h5 : j % 2 < 2 := Nat.mod_lt _ (by omega)
  rw [h4, List.getElem?_eq_getElem (by rw [encP_len]; exact h5), List.getElem!_eq_getElem?_getD, List.getElem?_eq_getElem (by rw [encP_len]; exact h5)]
  rfl

/-- the library's sort of the points -/
theorem sort_p (w : World) (base : Nat) (v : Value) (l : List (Int × Int)) (hb : base ≤ w.heap.size) (hl : l.length ≤ 1000000000) (h : w.ownsRow base 34 2 v l.length (l.flatMap encP)) :
    Calls Try.prog 41 #[v, .func (.func 42) #[] #[]] w fun e w' => e = .returned (.tuple #[]) ∧ ∃ L : List (Int × Int), L.Perm l ∧ L.Pairwise (fun x y => ¬ (y.1 < x.1 ∨ (y.1 = x.1 ∧ y.2 < x.2))) ∧ PRow w' base v L ∧ Below base w w' := by
  obtain ⟨h1, h2⟩ := id h
  rcases h2 with ⟨rfl, h0⟩ | ⟨g, cap, cur, rfl, hg, hh, hc1, hc2, hc3, hc4⟩
  · have hLn : l = [] := List.eq_nil_of_length_eq_zero h0
    subst hLn
    refine (AnyF.slices_SortFunc_none Try.laysSlF06_f41 none 0 _ w).mono ?_
    rintro e w' ⟨rfl, rfl⟩
    exact ⟨rfl, [], List.Perm.nil, .nil, .inl ⟨rfl, rfl⟩, Below.refl _ _⟩
  · have hsz : l.toArray.size = l.length := List.size_toArray ..
    have hH := holds_p (l := l) hh hc4
    have eg : ∀ args w, (callFunc 42 args).run Try.prog w = .ok (.enter 42 args) w := enters_of Try.func42 (by kernel_rfl) rfl
    have hcmp : CmpLays Try.prog 42 #[] encP 2 cmpP g 0 l.toArray.size w := fun _ _ _ _ x y => order_p x y _
    have hC := Try.slices_SortFunc_f41 2 isAgg_p sizeOf_p encP encP_len encP_one cmpP cmpP_swo 42 #[] g 0 cap l.toArray w eg hcmp hH (heap_lt hh) (by rw [hsz]; omega)
    rw [hsz] at hC
    refine hC.mono ?_
    rintro e w' ⟨rfl, d', n, os, hp, hs, rfl⟩
    have hd : d'.size = l.length := by have := hp.1; rwa [hsz] at this
    have hl2 : d'.toList.length = l.length := by rw [Array.length_toList]; exact hd
    refine ⟨rfl, d'.toList, ?_, ?_, .inr ⟨g, cap, by rw [hl2], hg, ?_, fun i t ht => ?_⟩, (Below.refl _ _).grown (grownBy_sortedP d') hb (fun k hk => by injection hk with hk; omega)⟩
    · have := hp.2.2
      rw [Array.extract_eq_self_of_le (by omega), Array.extract_eq_self_of_le (by omega)] at this
      simpa using this
    · rw [List.pairwise_iff_getElem]
      intro i j hi hj hij
      have h3 := hs i j (Nat.zero_le _) hij (by omega)
      rw [cmpP_lt, decide_eq_false_iff_not] at h3
      have e1 : d'[i]! = d'.toList[i] := by simp [show i < d'.size by omega]
      have e2 : d'[j]! = d'.toList[j] := by simp [show j < d'.size by omega]
      rw [e1, e2] at h3
      exact h3
    · exact Nat.lt_of_lt_of_le (heap_lt hh) (grownBy_sortedP (w := w) (n := n) (os := os) d').size
    · have hi : i < d'.size := by
        have := (List.getElem?_eq_some_iff.1 ht).1
        rwa [Array.length_toList] at this
      have hhold : HoldsK encP 2 (sortWorldK encP 2 w g 0 n d' os) g 0 d' :=
        holdsK_grow _ _ _ _ _ _ _ (by simpa [putRowK] using heap_lt hh) (holdsK_putRowK _ _ _ _ _ _ _ (holdsK_ahead _ _ _ _ _ _ _ hH) (by rw [hd, hsz]))
      have e1 : d'[i]! = t := by
        have := ht
        rw [Array.getElem?_toList] at this
        rw [Array.getElem!_eq_getD, Array.getD_eq_getD_getElem?, this]; rfl
      have c0 := (hhold.cell (c := 0) hi (by omega)).1
      have c1 := (hhold.cell (c := 1) hi (by omega)).1
      rw [e1, Nat.zero_add] at c0 c1
      exact ⟨c0, c1⟩
end Go.Proofs.Ytlchmaiflcnaoaa
