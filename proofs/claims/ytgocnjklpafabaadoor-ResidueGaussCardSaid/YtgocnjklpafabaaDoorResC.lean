/- The walks of residue.by at the numbers of the document's example, and of the function that it hands back. -/
import Derived.Test.YtgocnjklpafabaaDoorResB
import Derived.Test.YtgocnjklpafabaaDoorSortRow
import Derived.Test.YtgocnjklpafabaaDoorSplitW
import Derived.Deep.LoopGhost
namespace Go.Proofs.YtgocnjklpafabaaDoor
open Go.RowKit

theorem bel_o (w : World) (o : Obj) : Below w.heap.size w (w.alloc o) := (Below.refl _ _).alloc (Nat.le_refl _) _
/-- a function value of by's that hands back the numbers L; what it holds lies from lo on -/
def ByAt (w : World) (lo : Nat) (v : Value) (L : List Nat) (st : Int) : Prop := ∃ gl gs gt c ga, v = .func (.func 48) #[] #[.pointer (some ⟨gl, 0, none⟩), .pointer (some ⟨gs, 0, none⟩), .pointer (some ⟨gt, 0, none⟩)] ∧ (lo ≤ gl ∧ lo ≤ gs ∧ lo ≤ gt ∧ lo ≤ ga) ∧ w.heap[gl]? = some (.cells #[.slice (some ⟨ga, 0, none⟩) L.length c] 38 (0, 0)) ∧ NB w gs 1 ∧ NB w gt st ∧ Ints w w.heap.size (some ⟨ga, 0, none⟩) (L.map fun x => ((x : Nat) : Int))
theorem ByAt.below {w w' : World} {lo : Nat} {v : Value} {L : List Nat} {st : Int} (h : ByAt w lo v L st) (k : Below w.heap.size w w') : ByAt w' lo v L st := by
  obtain ⟨gl, gs, gt, c, A, e, h0, h1, h2, h3, h4⟩ := h
  exact ⟨gl, gs, gt, c, A, e, h0, (k.block gl (heap_lt h1)).trans h1, h2.below k, h3.below k, (h4.below k (Nat.le_refl _)).more k.size⟩
/-- an append to a row that lies below lo leaves it -/
theorem ByAt.far {w w' : World} {lo g : Nat} {v : Value} {L : List Nat} {st : Int} (h : ByAt w lo v L st) (k : w.grownBy w' (some g)) (hg : g < lo) (hs : w.heap.size ≤ w'.heap.size) : ByAt w' lo v L st := by
  obtain ⟨gl, gs, gt, c, A, e, ⟨l1, l2, l3, l4⟩, h1, h2, h3, h4⟩ := h
  have ne : ∀ b, lo ≤ b → some b ≠ some g := fun b hb e => by injection e with e; omega
  refine ⟨gl, gs, gt, c, A, e, ⟨l1, l2, l3, l4⟩, (k.block gl (heap_lt h1) (ne _ l1)).trans h1, (k.block gs (heap_lt h2) (ne _ l2)).trans h2, (k.block gt (heap_lt h3) (ne _ l3)).trans h3, ⟨fun j u hu => ?_⟩⟩
  obtain ⟨ad, ea, hb, hc⟩ := h4.cell j u hu
  injection ea with ea
  subst ea
  exact ⟨_, rfl, Nat.lt_of_lt_of_le hb hs, (k.cell_far _ (by rw [add_block]; exact hb) (by rw [add_block]; exact ne _ l4)).trans hc⟩

theorem two_ints {w : World} {lo : Nat} {v : Value} {a b : Int} (h : Two w lo v a b) : ∃ g, lo ≤ g ∧ v = .slice (some ⟨g, 0, none⟩) 2 2 ∧ Ints w w.heap.size (some ⟨g, 0, none⟩) [a, b] := by
  obtain ⟨g, hlo, rfl, h⟩ := h
  exact ⟨_, hlo, rfl, (Ints.of_block h rfl).more (heap_lt h)⟩
theorem three_new {W w' : World} {v : Value} {lo ga : Nat} {L : List Nat} {st : Int} {g : Nat} (hga : lo ≤ ga) (hlo : lo ≤ W.heap.size) (hI : Ints W W.heap.size (some ⟨ga, 0, none⟩) (L.map fun x => ((x : Nat) : Int))) (hg : g = W.heap.size) (hv : v = .slice (some ⟨ga, 0, none⟩) L.length 2)
    (hw : w' = ((W.alloc (.cells #[v] 38)).alloc (.cells #[.int .i64 st] 3)).alloc (.cells #[.int .i64 1] 3)) :
    ByAt w' lo (.func (.func 48) #[] #[.pointer (some ⟨g, 0, none⟩), .pointer (some ⟨g + 1 + 1, 0, none⟩), .pointer (some ⟨g + 1, 0, none⟩)]) L st := by
  subst hg hv hw
  have e1 : (W.alloc (.cells #[.slice (some ⟨ga, 0, none⟩) L.length 2] 38)).heap.size = W.heap.size + 1 := World.size_alloc ..
  have h1 := heap_alloc_new W (.cells #[.slice (some ⟨ga, 0, none⟩) L.length 2] 38)
  have B1 := bel_o W (.cells #[.slice (some ⟨ga, 0, none⟩) L.length 2] 38)
  generalize W.alloc (.cells #[.slice (some ⟨ga, 0, none⟩) L.length 2] 38) = W1 at h1 B1 e1 ⊢
  have h2 := NB.made W1 st
  have B2 := bel_o W1 (.cells #[.int .i64 st] 3)
  have h3 := NB.made (W1.alloc (.cells #[.int .i64 st] 3)) 1
  have B3 := bel_o (W1.alloc (.cells #[.int .i64 st] 3)) (.cells #[.int .i64 1] 3)
  rw [World.size_alloc, e1] at h3
  rw [e1] at h2
  exact ⟨_, _, _, 2, ga, rfl, ⟨hlo, by omega, by omega, hga⟩, (B3.block _ (by rw [World.size_alloc]; omega)).trans ((B2.block _ (by omega)).trans h1), h3, h2.below B3, (hI.below (B1.trans ((B2.trans (B3.mono B2.size)).mono B1.size)) (Nat.le_refl _)).more (B1.trans ((B2.trans (B3.mono B2.size)).mono B1.size)).size⟩

theorem below_three {w w1 : World} {a b c : Obj} (h : Below w.heap.size w w1) : Below w.heap.size w (((w1.alloc a).alloc b).alloc c) :=
  ((h.alloc h.size a).alloc (h.alloc h.size a).size b).alloc ((h.alloc h.size a).alloc (h.alloc h.size a).size b).size c

set_option maxRecDepth 100000 in
set_option maxHeartbeats 1600000 in
theorem by_43 (w : World) :
    Calls Tryd.prog 28 #[.int .i64 4, .int .i64 3, .int .i64 1] w fun e w' => ∃ v, e = .returned (.tuple #[.int .i64 2, v]) ∧ ByAt w' w.heap.size v [1, 2] 3 ∧ Below w.heap.size w w' := by
  have hmf : ∀ (fn : Fn) (first cap : Array Value) (w : World), (Instr.makeFunc fn first cap).run Tryd.prog w = .ok (.func fn first cap) w := fun _ _ _ _ => rfl
  have P1 := fun W => hide (rpow_at 3 1 3 W (by omega) (by omega) (by omega) (by decide))
  have P0 := fun W => hide (rpow_at 3 0 1 W (by omega) (by omega) (by omega) (by decide))
  have M1 := fun W => hide (mod_at 4 3 1 W (by omega) (by omega) (by omega) (by omega) (by decide))
  have CU := fun W => hide (units_13 W)
  go_enter Tryd.func28, Tryd.ntmps28
  go_wp2_with fail
  refine (P1 _).out.mono ?_
  rintro e w1 ⟨rfl, rfl⟩
  go_wp2_with fail
  refine (M1 _).out.mono ?_
  rintro e w1 ⟨rfl, rfl⟩
  go_wp2_with fail
  refine wp_loop_rounds 1 ?_
  rw [rounds_succ]
  go_wp2_with fail
  refine (CU _).out.mono ?_
  rintro e w1 ⟨v, rfl, h2, hb⟩
  have HB := hide (below_new hb)
  obtain ⟨ga, hga, rfl, hI⟩ := two_ints h2
  have HGA := hide (And.intro hga hb.size)
  have HI := hide hI
  clear hb h2 hI hga
  go_wp2_with fail
  refine (P1 _).out.mono ?_
  rintro e w2 ⟨rfl, rfl⟩
  go_wp2_with fail
  refine (P0 _).out.mono ?_
  rintro e w2 ⟨rfl, rfl⟩
  go_wp2_with fail
  exact bodyPost_ret (by simp [results, Tryd.results28, go_sem]) rfl ⟨_, rfl, three_new (L := [1, 2]) (Nat.le_trans (bel_o w _).size HGA.out.1) (Nat.le_trans (bel_o w _).size HGA.out.2) HI.out rfl rfl rfl, below_three HB.out⟩
set_option maxRecDepth 100000 in
set_option maxHeartbeats 1600000 in
theorem by_45 (w : World) :
    Calls Tryd.prog 28 #[.int .i64 4, .int .i64 5, .int .i64 1] w fun e w' => ∃ v, e = .returned (.tuple #[.int .i64 2, v]) ∧ ByAt w' w.heap.size v [3, 2] 5 ∧ Below w.heap.size w w' := by
  have hmf : ∀ (fn : Fn) (first cap : Array Value) (w : World), (Instr.makeFunc fn first cap).run Tryd.prog w = .ok (.func fn first cap) w := fun _ _ _ _ => rfl
  have P1 := fun W => hide (rpow_at 5 1 5 W (by omega) (by omega) (by omega) (by decide))
  have P0 := fun W => hide (rpow_at 5 0 1 W (by omega) (by omega) (by omega) (by decide))
  have M1 := fun W => hide (mod_at 4 5 4 W (by omega) (by omega) (by omega) (by omega) (by decide))
  have CU := fun W => hide (units_45 W)
  go_enter Tryd.func28, Tryd.ntmps28
  go_wp2_with fail
  refine (P1 _).out.mono ?_
  rintro e w1 ⟨rfl, rfl⟩
  go_wp2_with fail
  refine (M1 _).out.mono ?_
  rintro e w1 ⟨rfl, rfl⟩
  go_wp2_with fail
  refine wp_loop_rounds 1 ?_
  rw [rounds_succ]
  go_wp2_with fail
  refine (CU _).out.mono ?_
  rintro e w1 ⟨v, rfl, h2, hb⟩
  have HB := hide (below_new hb)
  obtain ⟨ga, hga, rfl, hI⟩ := two_ints h2
  have HGA := hide (And.intro hga hb.size)
  have HI := hide hI
  clear hb h2 hI hga
  go_wp2_with fail
  refine (P1 _).out.mono ?_
  rintro e w2 ⟨rfl, rfl⟩
  go_wp2_with fail
  refine (P0 _).out.mono ?_
  rintro e w2 ⟨rfl, rfl⟩
  go_wp2_with fail
  exact bodyPost_ret (by simp [results, Tryd.results28, go_sem]) rfl ⟨_, rfl, three_new (L := [3, 2]) (Nat.le_trans (bel_o w _).size HGA.out.1) (Nat.le_trans (bel_o w _).size HGA.out.2) HI.out rfl rfl rfl, below_three HB.out⟩

set_option maxRecDepth 100000 in
set_option maxHeartbeats 3200000 in
theorem by2_any (gl gs gt lo : Nat) (v : Value) (L : List Nat) (st : Int) (w : World) (hv : v = .func (.func 48) #[] #[.pointer (some ⟨gl, 0, none⟩), .pointer (some ⟨gs, 0, none⟩), .pointer (some ⟨gt, 0, none⟩)]) (h : ByAt w lo v L st) (hL : L.length ≤ 1000) (hs : 0 ≤ st) (hs2 : st ≤ 1000) (hx : ∀ x ∈ L, x ≤ 1000) :
    Calls Tryd.prog 48 #[.pointer (some ⟨gl, 0, none⟩), .pointer (some ⟨gs, 0, none⟩), .pointer (some ⟨gt, 0, none⟩)] w fun e w' => ∃ v', e = .returned v' ∧ Row w' w.heap.size v' L ∧ Below w.heap.size w w' := by
  have U := Tryd.underlying38
  obtain ⟨i0, hi, hz0, hz1, hz2⟩ := info_parts iinfo
  have HO := hide (And.intro hi (And.intro hz0 (And.intro hz1 hz2)))
  clear hi hz0 hz1 hz2
  obtain ⟨gl', gs', gt', c, ga, e, _, h1, h2, h3, h4⟩ := h
  obtain ⟨A, hA⟩ : ∃ A : Option Addr, A = some ⟨ga, 0, none⟩ := ⟨_, rfl⟩
  rw [← hA] at h1 h4
  clear hA
  rw [hv] at e
  injection e with _ _ e
  simp at e
  obtain ⟨rfl, rfl, rfl⟩ := e
  have HL1 := hide h1
  have HN1 := hide h2
  have HN2 := hide h3
  have HI := hide h4
  have HX := hide hx
  have c0 : w.cell? ⟨gl, 0, none⟩ = some (.slice A L.length c) := by simp [World.cell?, h1]
  have hl1 := heap_lt h1
  have hl2 := h2.lt
  have hl3 := h3.lt
  clear h1 h2 h3 h4 hx hv
  go_enter Tryd.func48, Tryd.ntmps48
  go_wp2_with fail
  go_loopg [4, 9] L.length (fun J o iv wr => ∃ i : Nat, J = L.length - i ∧ iv = .int .i64 i ∧ i ≤ L.length ∧ Hid (Row wr w.heap.size o (L.take i)) ∧ Hid (Below w.heap.size w wr))
  case atStart => exact ⟨0, by omega, rfl, by omega, Row.nil _ _, Below.refl _ _⟩
  case round =>
    obtain ⟨i, hJ, rfl, hi, HR, HB⟩ := hrel
    by_cases hiL : i < L.length
    · obtain ⟨ad, x, rfl, hx, hab, hac⟩ := HI.out.at_ (k := i) (by simpa using hiL)
      obtain ⟨x, hxx, rfl⟩ : ∃ p : Nat, L[i]? = some p ∧ x = (p : Int) := by
        rw [List.getElem?_map] at hx
        cases hs : L[i]? with
        | none => rw [hs] at hx; cases hx
        | some p => rw [hs] at hx; injection hx with hx; exact ⟨p, rfl, hx.symm⟩
      have cx := (HB.out.cell (p := ad.add i) (by rw [add_block]; exact hab)).trans hac
      have n1 := (HN1.out.below HB.out).cells.1
      have n2 := (HN2.out.below HB.out).cells.1
      have hxs : x ≤ 1000 := HX.out x (List.mem_of_getElem? hxx)
      have HXX := hide hxx
      have hTl : (L.take i).length = i := by rw [List.length_take]; omega
      clear hx hac hxx
      go_wp2_with fail
      refine wp_loop_rounds 2 ?_
      rw [rounds_succ]
      have HR2 := hide (HR.out.below (bel_o wr (.cells #[.int .i64 x] 3)))
      have HB2 := hide (HB.out.alloc HB.out.size (.cells #[.int .i64 x] 3))
      have hsz := HB.out.size
      go_wp2_with (at_builtin; refine wpList_append_own _ rfl _ _ 38 rfl w.heap.size 3 i0 (.int .i64 0) 1 8 U HO.out.1 HO.out.2.1 HO.out.2.2.1 HO.out.2.2.2 rfl (by decide) _ _ _ rfl HR2.out ⟨wr.heap.size, 0, none⟩ 1 1 [.int .i64 x] rfl rfl (one_new wr _ _) ?c2 ?c3 ?c4 ?c5 ?_)
      case c2 => intro u hu; simp at hu; subst hu; rfl
      case c3 => rw [hTl]; simp only [maxLen]; omega
      case c4 => rw [hTl]; omega
      case c5 => simp; omega
      intro v' w5 hown hg5 _
      have HF5 : Hid (Row w5 w.heap.size v' (L.take (i + 1))) := by
        unfold Hid Row
        rw [List.take_add_one, HXX.out]
        simp only [Option.toList_some, List.map_append, List.length_append, List.map_cons, List.map_nil, List.length_cons, List.length_nil, Nat.zero_add]
        rw [hTl, List.map_take]
        exact hown
      have B5 : Hid (Below w.heap.size w w5) := HB2.out.grown hg5 HB2.out.size (fun k hk => HR2.out.base k hk)
      have n3 := (HN2.out.below B5.out).cells.1
      have n4 := (HN1.out.below B5.out).cells.1
      have W1 : IntKind.i64.wrap ((x : Int) + st) = x + st := by rw [IntKind.wrap_i64]; omega
      clear hown hg5 HR2 HB2
      go_wp2_with fail
      rw [rounds_succ]
      go_wp2_with fail
      go_roundg (L.length - (i + 1))
      case measure => omega
      case rel => exact ⟨i + 1, rfl, by simp, by omega, HF5, B5⟩
    · obtain rfl : i = L.length := by omega
      rw [List.take_length] at HR
      go_wp2_with fail
      go_ret
      exact ⟨_, rfl, HR.out, HB.out⟩
end Go.Proofs.YtgocnjklpafabaaDoor
