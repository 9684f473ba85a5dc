/- The walk of equation.Markov. -/
import Derived.Test.YtlchmaiflcnaoaaKMarkS
import Derived.Test.YtlchmaiflcnaoaaK0
import Derived.Shelf.SlSortCmp.NoneTotal
import Derived.Deep.DeepCutAuto
import Derived.Laws.EntriesVeiled
namespace Go.Proofs.Ytlchmaiflcnaoaa
open Go.RowKit Go.Sort Go.Lib Go.Maps Go.WideMaps

/-- a slice of triples -/
def TRow (w : World) (base : Nat) (v : Value) (L : List T3) : Prop := (v = .slice none 0 0 ∧ L = []) ∨ ∃ g cap, v = .slice (some ⟨g, 0, none⟩) L.length cap ∧ base ≤ g ∧ g < w.heap.size ∧ ∀ (i : Nat) (t : T3), L[i]? = some t → w.cell? ⟨g, i * 3, none⟩ = some (.int .i64 (t.1 : Nat)) ∧ w.cell? ⟨g, i * 3 + 1, none⟩ = some (.int .i64 (t.2.1 : Nat)) ∧ w.cell? ⟨g, i * 3 + 2, none⟩ = some (.int .i64 (t.2.2 : Nat))
theorem TRow.below {w w' : World} {base : Nat} {v : Value} {L : List T3} (h : TRow w base v L) (k : Below w.heap.size w w') : TRow w' base v L := by
  rcases h with h | ⟨g, cap, h1, h2, h3, h4⟩
  · exact .inl h
  · refine .inr ⟨g, cap, h1, h2, Nat.lt_of_lt_of_le h3 k.size, fun i t ht => ?_⟩
    obtain ⟨a, b, c⟩ := h4 i t ht
    exact ⟨(k.cell (p := ⟨g, i * 3, none⟩) h3).trans a, (k.cell (p := ⟨g, i * 3 + 1, none⟩) h3).trans b, (k.cell (p := ⟨g, i * 3 + 2, none⟩) h3).trans c⟩
theorem enc_len (x : T3) : (encT x).length = 3 := rfl
theorem enc_one (x : T3) : ∀ v ∈ encT x, v.oneCell' = true := by
  intro v hv
  simp [encT] at hv
  rcases hv with rfl | rfl | rfl <;> rfl
theorem flat_get : ∀ (l : List T3) (i j : Nat) (t : T3), l[i]? = some t → j < 3 → (l.flatMap encT)[i * 3 + j]? = (encT t)[j]?
  | [], i, j, t, h, _ => by simp at h
  | x :: r, 0, j, t, h, hj => by
    injection h with h
    subst h
    rw [List.flatMap_cons, List.getElem?_append_left (by rw [enc_len]; omega), Nat.zero_mul, Nat.zero_add]
  | x :: r, i + 1, j, t, h, hj => by
    rw [List.flatMap_cons, List.getElem?_append_right (by rw [enc_len]; omega), enc_len, show (i + 1) * 3 + j - 3 = i * 3 + j by omega]
    exact flat_get r i j t h hj
theorem isAgg_t : ∀ w, (isAgg 83).run Try.prog w = .ok true w := fun _ => by kernel_rfl
theorem sizeOf_t : ∀ w, (Go.sizeOf 83).run Try.prog w = .ok 3 w := fun _ => by kernel_rfl

theorem grownBy_sortedT {w : World} {g n : Nat} {os : Array Obj} (d : Array T3) : w.grownBy (sortWorldK encT 3 w g 0 n d os) (some g) := by
  unfold sortWorldK putRowK
  refine ⟨rfl, rfl, rfl, by simp, fun k hk hne => ?_⟩
  rw [heap_grow_old _ _ (by simpa using hk)]
  have : g ≠ k := fun e => hne (by rw [e])
  simp [putRow, mapBlock, Sort.ahead, Array.getElem?_modify, this]
theorem holds_t {w : World} {g : Nat} {cur : Array Value} {T : TypeId} {l : List T3} (hh : w.heap[g]? = some (.cells cur T (0, 0))) (hc : cur.toList.take (l.length * 3) = l.flatMap encT) : HoldsK encT 3 w g 0 l.toArray := by
  intro j hj
  rw [size_flatK] at hj
  have hj' : j < l.length * 3 := by simpa using hj
  have hq : j / 3 < l.length := by omega
  refine ⟨?_, by simp [World.frozen?, hh]⟩
  rw [get_flatK _ _ _ _ hj]
  have h1 : (cur.toList.take (l.length * 3))[j]? = (l.flatMap encT)[j]? := by rw [hc]
  rw [List.getElem?_take, if_pos hj'] at h1
  have h2 := flat_get l (j / 3) (j % 3) l[j / 3] (List.getElem?_eq_getElem hq) (Nat.mod_lt _ (by omega))
  rw [show j / 3 * 3 + j % 3 = j by omega] at h2
  have h3 : w.cell? ⟨g, 0 + j, none⟩ = cur[j]? := by simp [World.cell?, hh]
  rw [h3, ← Array.getElem?_toList, h1, h2]
  have h4 : l.toArray[j / 3]! = l[j / 3] := by simp [hq]
  have h5 : j % 3 < 3 := Nat.mod_lt _ (by omega)
  rw [h4, List.getElem?_eq_getElem (by rw [enc_len]; exact h5), List.getElem!_eq_getElem?_getD, List.getElem?_eq_getElem (by rw [enc_len]; exact h5)]
  rfl

/-- the library's sort of the triples -/
theorem sort_t (w : World) (base : Nat) (v : Value) (l : List T3) (hb : base ≤ w.heap.size) (hl : l.length ≤ 1000) (h : w.ownsRow base 83 3 v l.length (l.flatMap encT)) :
    Calls Try.prog 87 #[v, .func (.func 88) #[] #[]] w fun e w' => e = .returned (.tuple #[]) ∧ ∃ L : List T3, L.Perm l ∧ L.Pairwise (fun x y => x.2.2 ≤ y.2.2) ∧ TRow w' base v L ∧ Below base w w' := by
  obtain ⟨h1, h2⟩ := id h
  rcases h2 with ⟨rfl, h0⟩ | ⟨g, cap, cur, rfl, hg, hh, hc1, hc2, hc3, hc4⟩
  · have hLn : l = [] := List.eq_nil_of_length_eq_zero h0
    subst hLn
    refine (AnyF.slices_SortFunc_none Try.laysSlF06_f87 none 0 _ w).mono ?_
    rintro e w' ⟨rfl, rfl⟩
    exact ⟨rfl, [], List.Perm.nil, .nil, .inl ⟨rfl, rfl⟩, Below.refl _ _⟩
  · have hsz : l.toArray.size = l.length := List.size_toArray ..
    have hH := holds_t (l := l) hh hc4
    have eg : ∀ args w, (callFunc 88 args).run Try.prog w = .ok (.enter 88 args) w := enters_of Try.func88 (by kernel_rfl) rfl
    have hcmp : CmpLays Try.prog 88 #[] encT 3 cmpT g 0 l.toArray.size w := fun _ _ _ _ x y => order_any x y _
    first
      | have hC := Try.slices_SortFunc 3 isAgg_t sizeOf_t encT enc_len enc_one cmpT cmpT_swo 88 #[] g 0 cap l.toArray w eg hcmp hH (heap_lt hh) (by rw [hsz]; omega)
      | have hC := Try.slices_SortFunc_f87 3 isAgg_t sizeOf_t encT enc_len enc_one cmpT cmpT_swo 88 #[] g 0 cap l.toArray w eg hcmp hH (heap_lt hh) (by rw [hsz]; omega)
    rw [hsz] at hC
    refine hC.mono ?_
    rintro e w' ⟨rfl, d', n, os, hp, hs, rfl⟩
    have hd : d'.size = l.length := by have := hp.1; rwa [hsz] at this
    have hl2 : d'.toList.length = l.length := by rw [Array.length_toList]; exact hd
    refine ⟨rfl, d'.toList, ?_, ?_, .inr ⟨g, cap, by rw [hl2], hg, ?_, fun i t ht => ?_⟩, (Below.refl _ _).grown (grownBy_sortedT d') hb (fun k hk => by injection hk with hk; omega)⟩
    · have := hp.2.2
      rw [Array.extract_eq_self_of_le (by omega), Array.extract_eq_self_of_le (by omega)] at this
      simpa using this
    · rw [List.pairwise_iff_getElem]
      intro i j hi hj hij
      have h3 := hs i j (Nat.zero_le _) hij (by omega)
      rw [cmpT_lt, decide_eq_false_iff_not] at h3
      have e1 : d'[i]! = d'.toList[i] := by simp [show i < d'.size by omega]
      have e2 : d'[j]! = d'.toList[j] := by simp [show j < d'.size by omega]
      rw [e1, e2] at h3
      omega
    · exact Nat.lt_of_lt_of_le (heap_lt hh) (grownBy_sortedT (w := w) (n := n) (os := os) d').size
    · have hi : i < d'.size := by
        have := (List.getElem?_eq_some_iff.1 ht).1
        rwa [Array.length_toList] at this
      have hhold : HoldsK encT 3 (sortWorldK encT 3 w g 0 n d' os) g 0 d' :=
        holdsK_grow _ _ _ _ _ _ _ (by simpa [putRowK] using heap_lt hh) (holdsK_putRowK _ _ _ _ _ _ _ (holdsK_ahead _ _ _ _ _ _ _ hH) (by rw [hd, hsz]))
      have e1 : d'[i]! = t := by
        have := ht
        rw [Array.getElem?_toList] at this
        rw [Array.getElem!_eq_getD, Array.getD_eq_getD_getElem?, this]; rfl
      have c0 := (hhold.cell (c := 0) hi (by omega)).1
      have c1 := (hhold.cell (c := 1) hi (by omega)).1
      have c2 := (hhold.cell (c := 2) hi (by omega)).1
      rw [e1, Nat.zero_add] at c0 c1 c2
      exact ⟨c0, c1, c2⟩

set_option maxRecDepth 100000 in
set_option maxHeartbeats 1600000 in
theorem markov_bad (most : Int) (w : World) (h : ¬ (0 ≤ most ∧ most ≤ 1000000000000000000)) :
    Calls Try.prog 59 #[.int .i64 most] w fun e w' => e = .returned (.tuple #[.slice none 0 0, fv (3, 0)]) ∧ Below w.heap.size w w' := by
  have C := fun W => hide (efault_any 3 0 W)
  have F0 := hide (FC.fresh (w.alloc (.cells #[.int .i64 most] 3)))
  have hF : (w.alloc (.cells #[.int .i64 most] 3)).heap.size = w.heap.size + 1 := World.size_alloc ..
  rw [hF] at F0
  have B0 := hide ((bel_e w (.cells #[.int .i64 most] 3)).alloc (bel_e w (.cells #[.int .i64 most] 3)).size (.cells #[.int .i64 0, .int .i64 0] 26))
  by_cases h0 : most < 0
  · clear h
    go_enter Try.func59, Try.ntmps59
    go_wp2_with fail
    refine (C _).out.mono ?_
    rintro e w1 ⟨rfl, hb⟩
    have F1 := F0.out.below hb
    have HB := hide (B0.out.trans (hb.mono B0.out.size))
    obtain ⟨d0, d1, f0, f1⟩ := F1.cells
    obtain ⟨p0, p1⟩ := F1.put 3 0
    have B6 := hide (below_fault (u := .int .i64 3) (v := .int .i64 0) HB.out (Nat.le_succ w.heap.size))
    clear hb F1
    go_wp2_with fail
    exact bodyPost_ret (v := .tuple #[.slice none 0 0, fv (3, 0)]) (by simp [results, Try.results59, go_sem, fv, p0, p1]) rfl ⟨rfl, B6.out⟩
  · have hok : okB most = false := by unfold okB; simp; omega
    have CO := fun W => hide (ok_no most W hok)
    clear h hok
    go_enter Try.func59, Try.ntmps59
    go_wp2_with fail
    refine (CO _).out.mono ?_
    rintro e w1 ⟨rfl, rfl⟩
    go_wp2_with fail
    refine (C _).out.mono ?_
    rintro e w1 ⟨rfl, hb⟩
    have F1 := F0.out.below hb
    have HB := hide (B0.out.trans (hb.mono B0.out.size))
    obtain ⟨d0, d1, f0, f1⟩ := F1.cells
    obtain ⟨p0, p1⟩ := F1.put 3 0
    have B6 := hide (below_fault (u := .int .i64 3) (v := .int .i64 0) HB.out (Nat.le_succ w.heap.size))
    clear hb F1
    go_wp2_with fail
    exact bodyPost_ret (v := .tuple #[.slice none 0 0, fv (3, 0)]) (by simp [results, Try.results59, go_sem, fv, p0, p1]) rfl ⟨rfl, B6.out⟩

theorem TRow.set {w : World} {base : Nat} {v : Value} {L : List T3} (h : TRow w base v L) {a : Addr} (ha : a.block < base) (x : Value) : TRow (w.setCell a x) base v L := by
  rcases h with h | ⟨g, cap, h1, h2, h3, h4⟩
  · exact .inl h
  · have ne : g ≠ a.block := by omega
    have hb := Below.heap_setCell w a x g ne
    have hc : ∀ o, (w.setCell a x).cell? ⟨g, o, none⟩ = w.cell? ⟨g, o, none⟩ := fun o => World.cell?_of_block (w := w) (a := ⟨g, o, none⟩) hb
    refine .inr ⟨g, cap, h1, h2, by simpa using h3, fun i t ht => ?_⟩
    obtain ⟨p, q, r⟩ := h4 i t ht
    exact ⟨(hc _).trans p, (hc _).trans q, (hc _).trans r⟩
theorem TRow.mono {w : World} {base b2 : Nat} {v : Value} {L : List T3} (h : TRow w base v L) (hb : b2 ≤ base) : TRow w b2 v L := by
  rcases h with h | ⟨g, cap, h1, h2, h3, h4⟩
  · exact .inl h
  · exact .inr ⟨g, cap, h1, by omega, h3, h4⟩
theorem al_old {W : World} {o : Obj} {g : Nat} {x : Obj} (h : W.heap[g]? = some x) : (W.alloc o).heap[g]? = some x := ((bel_e W o).block g (heap_lt h)).trans h
theorem al_new {W : World} {o : Obj} {g : Nat} (hg : g = W.heap.size) : (W.alloc o).heap[g]? = some o := hg ▸ heap_alloc_new W o
/-- the memory ahead of the search -/
def w6 (most : Nat) (w : World) : World := (((((w.alloc (.cells #[.int .i64 (most : Nat)] 3)).alloc (.cells #[.int .i64 0, .int .i64 0] 26)).alloc (.cells #[.slice none 0 0] 86)).alloc (.map #[] 0)).alloc (.cells #[.map (some (w.heap.size + 1 + 1 + 1))] 114)).alloc (.cells #[fvalM w.heap.size (w.heap.size + 1 + 1 + 1 + 1) (w.heap.size + 1 + 1) (w.heap.size + 1 + 1 + 1 + 1 + 1)] 115)
theorem w6_size (most : Nat) (w : World) : (w6 most w).heap.size = w.heap.size + 6 := by simp [w6]
theorem w6_below (most : Nat) (w : World) : Below w.heap.size w (w6 most w) := by
  have h1 := bel_e w (.cells #[.int .i64 (most : Nat)] 3)
  have h2 := h1.alloc h1.size (.cells #[.int .i64 0, .int .i64 0] 26)
  have h3 := h2.alloc h2.size (.cells #[.slice none 0 0] 86)
  have h4 := h3.alloc h3.size (.map #[] 0)
  have h5 := h4.alloc h4.size (.cells #[.map (some (w.heap.size + 1 + 1 + 1))] 114)
  exact h5.alloc h5.size _
theorem w6_had (most : Nat) (w : World) : Had (w6 most w) (w.heap.size + 1 + 1 + 1) 0 [] := by
  have h := Had.made (((w.alloc (.cells #[.int .i64 (most : Nat)] 3)).alloc (.cells #[.int .i64 0, .int .i64 0] 26)).alloc (.cells #[.slice none 0 0] 86))
  rw [World.size_alloc, World.size_alloc, World.size_alloc] at h
  exact (h.kept (grown_of_below none (bel_e _ (.cells #[.map (some (w.heap.size + 1 + 1 + 1))] 114))) (by simp)).kept (grown_of_below none (bel_e _ _)) (by simp)
theorem w6_mst (most : Nat) (w : World) : MSt (w.heap.size + 6) most w.heap.size (w.heap.size + 1 + 1 + 1 + 1) (w.heap.size + 1 + 1) (w.heap.size + 1 + 1 + 1 + 1 + 1) (w.heap.size + 1 + 1 + 1) (w6 most w) [] (.slice none 0 0) := by
  refine ⟨?_, ?_, ?_, ?_, w6_had most w, World.ownsRow_nil _ _ _ _⟩
  · exact al_old (al_old (al_old (al_old (al_old (al_new rfl)))))
  · exact al_old (al_new (by simp))
  · exact al_old (al_old (al_old (al_new (by simp))))
  · exact al_new (by simp)
theorem w6_fc (most : Nat) (w : World) : FC (w6 most w) (w.heap.size + 1) 0 0 := by
  show (w6 most w).heap[w.heap.size + 1]? = _
  exact al_old (al_old (al_old (al_old (al_new (by simp)))))

set_option maxRecDepth 100000 in
set_option maxHeartbeats 1600000 in
theorem markov_ok (most : Nat) (w : World) (h : most ≤ 1000000000000000000) :
    Calls Try.prog 59 #[.int .i64 (most : Nat)] w fun e w' => ∃ v, e = .returned (.tuple #[v, fv (0, 0)]) ∧ TRow w' w.heap.size v (mkL most) ∧ Below w.heap.size w w' := by
  have hok : okB (most : Int) = true := by unfold okB; simp; omega
  have CO := fun W => hide (ok_yes (most : Int) W hok)
  have hmf : ∀ (fn : Fn) (first cap : Array Value) (w : World), (Instr.makeFunc fn first cap).run Try.prog w = .ok (.func fn first cap) w := fun _ _ _ _ => rfl
  have hmm := @run_makeMap Try.prog
  clear hok
  go_enter Try.func59, Try.ntmps59
  go_wp2_with fail
  refine (CO _).out.mono ?_
  rintro e w1 ⟨rfl, rfl⟩
  go_upto_region 7 with (fail)
  have S6 := hide (w6_mst most w)
  have F6 := hide (w6_fc most w)
  have B6 := hide (w6_below most w)
  have hz := w6_size most w
  have cf : (w6 most w).cell? ⟨w.heap.size + 1 + 1 + 1 + 1 + 1, 0, none⟩ = some (.func (.func 85) #[] #[.pointer (some ⟨w.heap.size, 0, none⟩), .pointer (some ⟨w.heap.size + 1 + 1 + 1 + 1, 0, none⟩), .pointer (some ⟨w.heap.size + 1 + 1, 0, none⟩), .pointer (some ⟨w.heap.size + 1 + 1 + 1 + 1 + 1, 0, none⟩)]) := cell_one S6.out.cf
  have hI : Inv most [] := ⟨List.nodup_nil, by simp⟩
  have CF := hide (from_any (w.heap.size + 6) most w.heap.size (w.heap.size + 1 + 1 + 1 + 1) (w.heap.size + 1 + 1) (w.heap.size + 1 + 1 + 1 + 1 + 1) (w.heap.size + 1 + 1 + 1) ⟨by omega, by omega, by omega, by omega, by omega⟩ 60 (1, 1, 1) [] (.slice none 0 0) (w6 most w) root_in hI (show most < 1 * 2 ^ 60 by omega) S6.out (by omega))
  have HI := hide (dfs_inv 60 root_in hI).1
  have hw6 : w6 most w = (((((w.alloc (.cells #[.int .i64 (most : Nat)] 3)).alloc (.cells #[.int .i64 0, .int .i64 0] 26)).alloc (.cells #[.slice none 0 0] 86)).alloc (.map #[] 0)).alloc (.cells #[.map (some (w.heap.size + 1 + 1 + 1))] 114)).alloc (.cells #[fvalM w.heap.size (w.heap.size + 1 + 1 + 1 + 1) (w.heap.size + 1 + 1) (w.heap.size + 1 + 1 + 1 + 1 + 1)] 115) := rfl
  unfold fvalM at hw6
  rw [← hw6]
  clear hI hw6 CO
  generalize w6 most w = W6 at S6 F6 B6 hz cf CF ⊢
  go_wp2_with fail
  refine CF.out.mono ?_
  rintro e w7 ⟨rfl, v7, hS7, hK7, _⟩
  have S7 := hide hS7
  have hn1 : (Value.slice none 0 0).ownBlock ≠ some (w.heap.size + 1) := by simp [Value.ownBlock]
  have F7 : Hid (FC w7 (w.heap.size + 1) 0 0) := hide ((hK7.block (w.heap.size + 1) F6.out.lt (by omega) (by omega) hn1).trans F6.out)
  have B7 := hide (Below.mk (B := w.heap.size) (w := w) (w' := w7) (hK7.os.trans B6.out.os) (hK7.tape.trans B6.out.tape) (hK7.output.trans B6.out.output) (Nat.le_trans B6.out.size hK7.size) (fun g hg => (hK7.block g (Nat.lt_of_lt_of_le hg B6.out.size) (by omega) (by omega) (by simp [Value.ownBlock])).trans (B6.out.block g hg)))
  have co := cell_one S7.out.co
  have h7 : w.heap.size + 6 ≤ w7.heap.size := by rw [← hz]; exact hK7.size
  have CS := hide (sort_t w7 (w.heap.size + 6) v7 _ h7 (by have := HI.out.len; omega) S7.out.row)
  have HM := hide h
  clear hS7 hK7 hn1 CF S6 F6 B6 cf hz
  go_wp2_with fail
  refine CS.out.mono ?_
  rintro e w8 ⟨rfl, L, hp, hs, hrow, hb⟩
  have hL := mk_of_sorted HM.out hp hs
  subst hL
  have co8 : w8.cell? ⟨w.heap.size + 1 + 1, 0, none⟩ = some v7 := (hb.cell (p := ⟨w.heap.size + 1 + 1, 0, none⟩) (by show w.heap.size + 1 + 1 < w.heap.size + 6; omega)).trans co
  have F8 : FC w8 (w.heap.size + 1) 0 0 := (hb.block (w.heap.size + 1) (by omega)).trans F7.out
  have B8 := hide (B7.out.trans (hb.mono (by omega)))
  obtain ⟨d0, d1, f0, f1⟩ := F8.cells
  obtain ⟨p0, p1⟩ := F8.put 0 0
  have B9 := hide (below_fault (u := .int .i64 0) (v := .int .i64 0) B8.out (Nat.le_succ w.heap.size))
  have R9 := hide (((hrow.set (a := ⟨w.heap.size + 1, 0, none⟩) (by show w.heap.size + 1 < w.heap.size + 6; omega) (.int .i64 0)).set (a := ⟨w.heap.size + 1, 1, none⟩) (by show w.heap.size + 1 < w.heap.size + 6; omega) (.int .i64 0)).mono (b2 := w.heap.size) (by omega))
  clear hb hrow hp hs CS co F8
  go_wp2_with fail
  exact bodyPost_ret (v := .tuple #[v7, fv (0, 0)]) (by simp [results, Try.results59, go_sem, fv, p0, p1]) rfl ⟨v7, rfl, R9.out, B9.out⟩
end Go.Proofs.Ytlchmaiflcnaoaa
