/- The walks of frac.Node and of the answers' Walked. -/
import Derived.Test.YticgnjapgbjfiaaDoorTreeW
namespace Go.Proofs.YticgnjapgbjfiaaDoor
open Go.RowKit

/-- the text of a way -/
def IsWay (p : ByteArray) (l : List Bool) : Prop := p.size = l.length ∧ ∀ (i : Nat) (x : Bool) (h : i < p.size), l[i]? = some x → (p[i]'h).toNat = if x then 82 else 76
theorem way_wb (l : List Bool) : IsWay ⟨(wb l).toArray⟩ l := by
  refine ⟨?_, fun i x h hx => ?_⟩
  · show (wb l).toArray.size = l.length
    rw [List.size_toArray, wb_len]
  · have h1 : (wb l)[i]? = some (if x then 82 else 76) := by unfold wb; rw [List.getElem?_map, hx]; rfl
    have hi : i < (wb l).length := (List.getElem?_eq_some_iff.1 h1).1
    have h2 : (wb l)[i] = if x then 82 else 76 := (List.getElem?_eq_some_iff.1 h1).2
    show ((wb l).toArray[i]'(by simpa using hi)).toNat = _
    rw [List.getElem_toArray, h2]
    cases x <;> rfl
/-- a number's bound holds at a place of the tree -/
def Fits (m : Mid) : Prop := m.up ≤ 1000000000000000000 ∧ m.down ≤ 1000000000000000000
/-- each place up to the k-th step fits -/
def FitTo (l : List Bool) (k : Nat) : Prop := ∀ j, j ≤ k → Fits (Mid.one.go (l.take j))
theorem FitTo.zero (l : List Bool) : FitTo l 0 := fun j hj => by
  have : j = 0 := by omega
  subst this
  rw [List.take_zero]
  exact ⟨by decide, by decide⟩
theorem FitTo.next {l : List Bool} {k : Nat} (h : FitTo l k) (hf : Fits (Mid.one.go (l.take (k + 1)))) : FitTo l (k + 1) := fun j hj => by
  rcases Nat.lt_or_ge k j with h1 | h1
  · have : j = k + 1 := by omega
    subst this; exact hf
  · exact h j h1
theorem go_take {l : List Bool} {i : Nat} {x : Bool} (h : l[i]? = some x) : Mid.one.go (l.take (i + 1)) = (Mid.one.go (l.take i)).step x := by
  rw [List.take_add_one, h]
  exact Mid.go_snoc _ _ _

/-- the blocks of Node's two results -/
structure NdSt (w W : World) : Prop where
  y : W.heap[w.heap.size]? = some (.cells #[.int .i64 0, .int .i64 0] 49 (0, 0))
  f : FC W (w.heap.size + 1) 0 0
  b : Below w.heap.size w W
theorem NdSt.start (w : World) : NdSt w ((w.alloc (.cells #[.int .i64 0, .int .i64 0] 49)).alloc (.cells #[.int .i64 0, .int .i64 0] 24)) :=
  ⟨(FrSt.start w 0 0).x, (FrSt.start w 0 0).f, (FrSt.start w 0 0).b⟩
theorem NdSt.below {w W W' : World} (h : NdSt w W) (k : Below W.heap.size W W') : NdSt w W' :=
  ⟨(k.block _ (heap_lt h.y)).trans h.y, h.f.below k, h.b.trans (k.mono h.b.size)⟩
theorem blk2 {W : World} {g : Nat} {a b : Int} {T : TypeId} (h : W.heap[g]? = some (.cells #[.int .i64 a, .int .i64 b] T (0, 0))) : W.cell? ⟨g, 0, none⟩ = some (.int .i64 a) ∧ W.cell? ⟨g, 1, none⟩ = some (.int .i64 b) ∧ W.frozen? ⟨g, 0, none⟩ = false ∧ W.frozen? ⟨g, 1, none⟩ = false :=
  ⟨by simp [World.cell?, h], by simp [World.cell?, h], by simp [World.frozen?, h], by simp [World.frozen?, h]⟩
/-- both results are put -/
def nput (W : World) (g : Nat) (a b c d : Int) : World := (((W.setCell ⟨g, 0, none⟩ (.int .i64 a)).setCell ⟨g, 1, none⟩ (.int .i64 b)).setCell ⟨g + 1, 0, none⟩ (.int .i64 c)).setCell ⟨g + 1, 1, none⟩ (.int .i64 d)
theorem NdSt.put {w W : World} (h : NdSt w W) (a b c d : Int) : (nput W w.heap.size a b c d).cell? ⟨w.heap.size, 0, none⟩ = some (.int .i64 a) ∧ (nput W w.heap.size a b c d).cell? ⟨w.heap.size, 1, none⟩ = some (.int .i64 b) ∧ (nput W w.heap.size a b c d).cell? ⟨w.heap.size + 1, 0, none⟩ = some (.int .i64 c) ∧ (nput W w.heap.size a b c d).cell? ⟨w.heap.size + 1, 1, none⟩ = some (.int .i64 d) ∧ Below w.heap.size w (nput W w.heap.size a b c d) := by
  have hy := h.y
  have hf : W.heap[w.heap.size + 1]? = some (.cells #[.int .i64 0, .int .i64 0] 24 (0, 0)) := h.f
  refine ⟨?_, ?_, ?_, ?_, ?_⟩
  · simp [nput, World.cell?, World.setCell, Array.getElem?_modify, hy]
  · simp [nput, World.cell?, World.setCell, Array.getElem?_modify, hy]
  · simp [nput, World.cell?, World.setCell, Array.getElem?_modify, hf]
  · simp [nput, World.cell?, World.setCell, Array.getElem?_modify, hf]
  · exact below_fault (below_fault h.b (Nat.le_refl _)) (Nat.le_succ _)

/-- Node's word on the text of a way -/
def RetNode (w : World) (l : List Bool) : Ending → World → Prop := fun e w' => ((FitTo l l.length ∧ e = .returned (.tuple #[.agg #[.int .i64 ((node l).1 : Nat), .int .i64 ((node l).2 : Nat)], fv (0, 0)])) ∨ ∃ i : Nat, i < l.length ∧ FitTo l i ∧ ¬ Fits (Mid.one.go (l.take (i + 1))) ∧ e = .returned (.tuple #[.agg #[.int .i64 0, .int .i64 0], fv (9, i)])) ∧ Below w.heap.size w w'

set_option maxRecDepth 100000 in
set_option maxHeartbeats 6400000 in
theorem node_good (p : ByteArray) (l : List Bool) (w : World) (hp : IsWay p l) (hl : l.length ≤ 20000) : Calls Tryd.prog 43 #[.string p] w (RetNode w l) := by
  have HP1 := hide hp.1
  have HP2 := hide hp.2
  have hsz : p.size ≤ 20000 := by rw [HP1.out]; exact hl
  clear hp hl
  have S0 := hide (NdSt.start w)
  have q0 : decide ((20000 : Int) < (p.size : Int)) = false := by rw [decide_eq_false_iff_not]; omega
  have q0' : decide (20000 < p.size) = false := by rw [decide_eq_false_iff_not]; omega
  go_enter Tryd.func43, Tryd.ntmps43
  go_wp2_with fail
  go_loopg [17] p.size (fun J iv wr => ∃ i : Nat, J = p.size - i ∧ iv = .int .i64 i ∧ i ≤ p.size ∧ wr = (w.alloc (.cells #[.int .i64 0, .int .i64 0] 49)).alloc (.cells #[.int .i64 0, .int .i64 0] 24))
  case atStart => exact ⟨0, by omega, rfl, by omega, rfl⟩
  case round =>
    obtain ⟨i, hJ, rfl, hi, rfl⟩ := hrel
    by_cases hil : i < p.size
    · obtain ⟨x, hx⟩ : ∃ x, l[i]? = some x := ⟨l[i]'(by rw [← HP1.out]; exact hil), List.getElem?_eq_getElem (by rw [← HP1.out]; exact hil)⟩
      have e0 := HP2.out i x (by omega) hx
      have q1 : decide ((i : Int) < (p.size : Int)) = true := by rw [decide_eq_true_eq]; omega
      have s1 : (i : Int) < (p.size : Int) := by omega
      cases x
      · rw [if_neg (by decide)] at e0
        go_wp2_with fail
        go_roundg (p.size - (i + 1))
        case measure => omega
        case rel => exact ⟨i + 1, rfl, by simp, by omega, rfl⟩
      · rw [if_pos rfl] at e0
        go_wp2_with fail
        go_roundg (p.size - (i + 1))
        case measure => omega
        case rel => exact ⟨i + 1, rfl, by simp, by omega, rfl⟩
    · obtain rfl : i = p.size := by omega
      have q1 : decide ((p.size : Int) < (p.size : Int)) = false := by simp
      go_wp2_with fail
      go_loopg [5, 6, 7, 8, 36] p.size (fun J av bv cv dv iv wr => ∃ (i p1 q r s : Nat), J = p.size - i ∧ iv = .int .i64 i ∧ i ≤ p.size ∧ av = .int .i64 p1 ∧ bv = .int .i64 q ∧ cv = .int .i64 r ∧ dv = .int .i64 s ∧ Mid.one.go (l.take i) = ⟨p1, q, r, s⟩ ∧ Hid (FitTo l i) ∧ wr = (w.alloc (.cells #[.int .i64 0, .int .i64 0] 49)).alloc (.cells #[.int .i64 0, .int .i64 0] 24))
      case atStart => exact ⟨0, 0, 1, 1, 0, by omega, rfl, by omega, rfl, rfl, rfl, rfl, rfl, FitTo.zero l, rfl⟩
      case round =>
        have HS := S0
        obtain ⟨i, p', q, r, s, hJ, rfl, hi, rfl, rfl, rfl, rfl, hmid, HFT, rfl⟩ := hrel
        have hfit := HFT.out i (Nat.le_refl _)
        rw [hmid] at hfit
        unfold Fits Mid.up Mid.down at hfit
        have hfit : p' + r ≤ 1000000000000000000 ∧ q + s ≤ 1000000000000000000 := hfit
        by_cases hil : i < p.size
        · obtain ⟨x, hx⟩ : ∃ x, l[i]? = some x := ⟨l[i]'(by rw [← HP1.out]; exact hil), List.getElem?_eq_getElem (by rw [← HP1.out]; exact hil)⟩
          have q1 : decide ((i : Int) < (p.size : Int)) = true := by rw [decide_eq_true_eq]; omega
          have s1 : (i : Int) < (p.size : Int) := by omega
          cases x
          · have hx0 : l[i]? = some false := hx
            have e0 := HP2.out i false (by omega) hx0
            rw [if_neg (by decide)] at e0
            have hgt := go_take hx0
            have hst : (Mid.one.go (l.take i)).step false = ⟨p', q, p' + r, q + s⟩ := by rw [hmid]; rfl
            rw [hst] at hgt
            have HGT := hide hgt
            have VP : IntKind.i64.wrap ((p' : Int) + (r : Int)) = ((p' + r : Nat) : Int) := by rw [IntKind.wrap_i64]; omega
            have VQ : IntKind.i64.wrap ((q : Int) + (s : Int)) = ((q + s : Nat) : Int) := by rw [IntKind.wrap_i64]; omega
            obtain ⟨P, hP⟩ : ∃ P, p' + r = P := ⟨_, rfl⟩
            obtain ⟨Q, hQ⟩ : ∃ Q, q + s = Q := ⟨_, rfl⟩
            rw [hP] at VP HGT hfit
            rw [hQ] at VQ HGT hfit
            obtain ⟨hf1, hf2⟩ := hfit
            have VU : IntKind.i64.wrap ((p' : Int) + (P : Int)) = ((p' + P : Nat) : Int) := by rw [IntKind.wrap_i64]; omega
            have VD : IntKind.i64.wrap ((q : Int) + (Q : Int)) = ((q + Q : Nat) : Int) := by rw [IntKind.wrap_i64]; omega
            obtain ⟨X, hX⟩ : ∃ X, p' + P = X := ⟨_, rfl⟩
            obtain ⟨Y, hY⟩ : ∃ Y, q + Q = Y := ⟨_, rfl⟩
            rw [hX] at VU
            rw [hY] at VD
            have HUD : Hid ((Mid.one.go (l.take (i + 1))).up = X ∧ (Mid.one.go (l.take (i + 1))).down = Y) := by
              unfold Hid
              rw [HGT.out]
              exact ⟨hX, hY⟩
            have hmx : max (X : Int) (Y : Int) = ((max X Y : Nat) : Int) := by omega
            obtain ⟨M, hM⟩ : ∃ M, max X Y = M := ⟨_, rfl⟩
            rw [hM] at hmx
            have HMM := hide hM
            have HP := hide hP
            have HQ := hide hQ
            clear hst hgt hX hY hM hP hQ hx0
            by_cases hbig : 1000000000000000000 < M
            · have q3 : decide ((1000000000000000000 : Int) < (M : Int)) = true := by rw [decide_eq_true_eq]; omega
              have hnf : ¬ Fits (Mid.one.go (l.take (i + 1))) := fun h => by
                have h1 := h.1
                have h2 := h.2
                rw [HUD.out.1] at h1
                rw [HUD.out.2] at h2
                have := HMM.out
                omega
              have HNF := hide hnf
              have C := fun W => hide (ffault_any 9 (i : Int) W)
              clear hnf
              go_wp2_with fail
              refine (C _).out.mono ?_
              rintro e w1 ⟨rfl, hb⟩
              have S1 := hide (HS.out.below hb)
              have S1y := S1.out.y
              obtain ⟨d0, d1, f0, f1⟩ := blk2 S1y
              obtain ⟨d2, d3, f2, f3⟩ := S1.out.f.cells
              obtain ⟨p0, p1, p2, p3, p4⟩ := S1.out.put 0 0 9 (i : Int)
              have HPB := hide p4
              clear hb p4 S1y
              go_wp2_with fail
              exact bodyPost_ret (v := .tuple #[.agg #[.int .i64 0, .int .i64 0], fv (9, i)]) (by unfold nput at p0 p1 p2 p3; simp [results, Tryd.results43, go_sem, fv, p0, p1, p2, p3]) rfl ⟨.inr ⟨i, by rw [← HP1.out]; exact hil, HFT.out, HNF.out, rfl⟩, HPB.out⟩
            · have q3 : decide ((1000000000000000000 : Int) < (M : Int)) = false := by rw [decide_eq_false_iff_not]; omega
              have HFT2 : Hid (FitTo l (i + 1)) := HFT.out.next (by
                refine ⟨?_, ?_⟩
                · rw [HUD.out.1]; have := HMM.out; omega
                · rw [HUD.out.2]; have := HMM.out; omega)
              go_wp2_with fail
              go_roundg (p.size - (i + 1))
              case measure => omega
              case rel => exact ⟨i + 1, p', q, P, Q, rfl, by simp, by omega, rfl, rfl, rfl, rfl, HGT.out, HFT2, rfl⟩
          · have hx0 : l[i]? = some true := hx
            have e0 := HP2.out i true (by omega) hx0
            rw [if_pos rfl] at e0
            have hgt := go_take hx0
            have hst : (Mid.one.go (l.take i)).step true = ⟨p' + r, q + s, r, s⟩ := by rw [hmid]; rfl
            rw [hst] at hgt
            have HGT := hide hgt
            have VP : IntKind.i64.wrap ((p' : Int) + (r : Int)) = ((p' + r : Nat) : Int) := by rw [IntKind.wrap_i64]; omega
            have VQ : IntKind.i64.wrap ((q : Int) + (s : Int)) = ((q + s : Nat) : Int) := by rw [IntKind.wrap_i64]; omega
            obtain ⟨P, hP⟩ : ∃ P, p' + r = P := ⟨_, rfl⟩
            obtain ⟨Q, hQ⟩ : ∃ Q, q + s = Q := ⟨_, rfl⟩
            rw [hP] at VP HGT hfit
            rw [hQ] at VQ HGT hfit
            obtain ⟨hf1, hf2⟩ := hfit
            have VU : IntKind.i64.wrap ((P : Int) + (r : Int)) = ((P + r : Nat) : Int) := by rw [IntKind.wrap_i64]; omega
            have VD : IntKind.i64.wrap ((Q : Int) + (s : Int)) = ((Q + s : Nat) : Int) := by rw [IntKind.wrap_i64]; omega
            obtain ⟨X, hX⟩ : ∃ X, P + r = X := ⟨_, rfl⟩
            obtain ⟨Y, hY⟩ : ∃ Y, Q + s = Y := ⟨_, rfl⟩
            rw [hX] at VU
            rw [hY] at VD
            have HUD : Hid ((Mid.one.go (l.take (i + 1))).up = X ∧ (Mid.one.go (l.take (i + 1))).down = Y) := by
              unfold Hid
              rw [HGT.out]
              exact ⟨hX, hY⟩
            have hmx : max (X : Int) (Y : Int) = ((max X Y : Nat) : Int) := by omega
            obtain ⟨M, hM⟩ : ∃ M, max X Y = M := ⟨_, rfl⟩
            rw [hM] at hmx
            have HMM := hide hM
            have HP := hide hP
            have HQ := hide hQ
            clear hst hgt hX hY hM hP hQ hx0
            by_cases hbig : 1000000000000000000 < M
            · have q3 : decide ((1000000000000000000 : Int) < (M : Int)) = true := by rw [decide_eq_true_eq]; omega
              have hnf : ¬ Fits (Mid.one.go (l.take (i + 1))) := fun h => by
                have h1 := h.1
                have h2 := h.2
                rw [HUD.out.1] at h1
                rw [HUD.out.2] at h2
                have := HMM.out
                omega
              have HNF := hide hnf
              have C := fun W => hide (ffault_any 9 (i : Int) W)
              clear hnf
              go_wp2_with fail
              refine (C _).out.mono ?_
              rintro e w1 ⟨rfl, hb⟩
              have S1 := hide (HS.out.below hb)
              have S1y := S1.out.y
              obtain ⟨d0, d1, f0, f1⟩ := blk2 S1y
              obtain ⟨d2, d3, f2, f3⟩ := S1.out.f.cells
              obtain ⟨p0, p1, p2, p3, p4⟩ := S1.out.put 0 0 9 (i : Int)
              have HPB := hide p4
              clear hb p4 S1y
              go_wp2_with fail
              exact bodyPost_ret (v := .tuple #[.agg #[.int .i64 0, .int .i64 0], fv (9, i)]) (by unfold nput at p0 p1 p2 p3; simp [results, Tryd.results43, go_sem, fv, p0, p1, p2, p3]) rfl ⟨.inr ⟨i, by rw [← HP1.out]; exact hil, HFT.out, HNF.out, rfl⟩, HPB.out⟩
            · have q3 : decide ((1000000000000000000 : Int) < (M : Int)) = false := by rw [decide_eq_false_iff_not]; omega
              have HFT2 : Hid (FitTo l (i + 1)) := HFT.out.next (by
                refine ⟨?_, ?_⟩
                · rw [HUD.out.1]; have := HMM.out; omega
                · rw [HUD.out.2]; have := HMM.out; omega)
              go_wp2_with fail
              go_roundg (p.size - (i + 1))
              case measure => omega
              case rel => exact ⟨i + 1, P, Q, r, s, rfl, by simp, by omega, rfl, rfl, rfl, rfl, HGT.out, HFT2, rfl⟩
        · obtain rfl : i = p.size := by omega
          have q1 : decide ((p.size : Int) < (p.size : Int)) = false := by simp
          rw [List.take_of_length_le (by rw [HP1.out]; exact Nat.le_refl _)] at hmid
          have hn := one_node l
          rw [hmid] at hn
          unfold Mid.up Mid.down at hn
          have hn1 : p' + r = (node l).1 := hn.1
          have hn2 : q + s = (node l).2 := hn.2
          have VP : IntKind.i64.wrap ((p' : Int) + (r : Int)) = ((node l).1 : Int) := by rw [← hn1, IntKind.wrap_i64]; omega
          have VQ : IntKind.i64.wrap ((q : Int) + (s : Int)) = ((node l).2 : Int) := by rw [← hn2, IntKind.wrap_i64]; omega
          obtain ⟨N1, hN1⟩ : ∃ N, (node l).1 = N := ⟨_, rfl⟩
          obtain ⟨N2, hN2⟩ : ∃ N, (node l).2 = N := ⟨_, rfl⟩
          rw [hN1] at VP
          rw [hN2] at VQ
          have HE := hide (And.intro hN1 hN2)
          have S1y := HS.out.y
          obtain ⟨d0, d1, f0, f1⟩ := blk2 S1y
          obtain ⟨d2, d3, f2, f3⟩ := HS.out.f.cells
          have HPB := hide ((bel_f w (.cells #[.int .i64 N1, .int .i64 N2] 49)).alloc (bel_f w (.cells #[.int .i64 N1, .int .i64 N2] 49)).size (.cells #[.int .i64 0, .int .i64 0] 24))
          clear S1y hn hn1 hn2 hN1 hN2 hmid
          go_wp2_with fail
          exact bodyPost_ret (v := .tuple #[.agg #[.int .i64 N1, .int .i64 N2], fv (0, 0)]) (by simp [results, Tryd.results43, go_sem, fv]) rfl ⟨.inl ⟨by rw [← HP1.out]; exact HFT.out, by rw [HE.out.1, HE.out.2]⟩, HPB.out⟩

set_option maxRecDepth 100000 in
set_option maxHeartbeats 1600000 in
theorem node_long (p : ByteArray) (w : World) (hl : 20000 < p.size) : Calls Tryd.prog 43 #[.string p] w fun e w' => e = .returned (.tuple #[.agg #[.int .i64 0, .int .i64 0], fv (2, 0)]) ∧ Below w.heap.size w w' := by
  have S0 := hide (NdSt.start w)
  have q0 : decide ((20000 : Int) < (p.size : Int)) = true := by rw [decide_eq_true_eq]; omega
  have C := fun W => hide (ffault_any 2 0 W)
  go_enter Tryd.func43, Tryd.ntmps43
  go_wp2_with fail
  refine (C _).out.mono ?_
  rintro e w1 ⟨rfl, hb⟩
  have S1 := hide (S0.out.below hb)
  have S1y := S1.out.y
  obtain ⟨d0, d1, f0, f1⟩ := blk2 S1y
  obtain ⟨d2, d3, f2, f3⟩ := S1.out.f.cells
  obtain ⟨p0, p1, p2, p3, p4⟩ := S1.out.put 0 0 2 0
  have HPB := hide p4
  clear hb p4 S1y
  go_wp2_with fail
  exact bodyPost_ret (v := .tuple #[.agg #[.int .i64 0, .int .i64 0], fv (2, 0)]) (by unfold nput at p0 p1 p2 p3; simp [results, Tryd.results43, go_sem, fv, p0, p1, p2, p3]) rfl ⟨rfl, HPB.out⟩

/-- the first byte that is no step stands at i -/
def BadAt (p : ByteArray) (i : Nat) : Prop := (∃ h : i < p.size, (p[i]'h).toNat ≠ 76 ∧ (p[i]'h).toNat ≠ 82) ∧ ∀ (j : Nat) (h : j < p.size), j < i → (p[j]'h).toNat = 76 ∨ (p[j]'h).toNat = 82
theorem way_or_bad (p : ByteArray) : (∃ l, IsWay p l) ∨ ∃ i, BadAt p i := by
  have key : ∀ n, n ≤ p.size → (∀ (j : Nat) (h : j < p.size), j < n → (p[j]'h).toNat = 76 ∨ (p[j]'h).toNat = 82) ∨ ∃ i, BadAt p i := by
    intro n
    induction n with
    | zero => intro _; exact .inl fun j h hj => by omega
    | succ n ih =>
      intro hn
      rcases ih (by omega) with h1 | h1
      · by_cases h2 : (p[n]'(by omega)).toNat = 76 ∨ (p[n]'(by omega)).toNat = 82
        · refine .inl fun j h hj => ?_
          rcases Nat.lt_or_ge j n with h3 | h3
          · exact h1 j h h3
          · have : j = n := by omega
            subst this
            exact h2
        · exact .inr ⟨n, ⟨by omega, fun h => h2 (.inl h), fun h => h2 (.inr h)⟩, h1⟩
      · exact .inr h1
  rcases key p.size (Nat.le_refl _) with h | h
  · refine .inl ⟨(List.range p.size).map fun i => if hi : i < p.size then decide ((p[i]'hi).toNat = 82) else false, by simp, fun i x hi hx => ?_⟩
    rw [List.getElem?_map, List.getElem?_range hi] at hx
    simp [hi] at hx
    rcases h i hi hi with h1 | h1
    · rw [h1] at hx ⊢
      simp at hx
      subst hx
      rfl
    · rw [h1] at hx ⊢
      simp at hx
      subst hx
      rfl
  · exact .inr h
theorem way_eq {p : ByteArray} {l : List Bool} (h : IsWay p l) : p = ⟨(wb l).toArray⟩ := by
  obtain ⟨h1, h2⟩ := h
  apply ByteArray.ext
  apply Array.ext
  · show p.size = (wb l).toArray.size
    rw [List.size_toArray, wb_len]; exact h1
  · intro i hi1 hi2
    have hi : i < p.size := hi1
    have hil : i < l.length := by omega
    have h3 := h2 i l[i] hi (List.getElem?_eq_getElem hil)
    have h4 : (p[i]'hi) = p.data[i]'hi1 := rfl
    rw [← h4]
    show p[i] = (wb l).toArray[i]
    rw [List.getElem_toArray]
    have h5 : (wb l)[i]'(by rw [wb_len]; exact hil) = if l[i] then 82 else 76 := by simp [wb]
    rw [h5]
    apply UInt8.toNat_inj.1
    rw [h3]
    cases l[i] <;> rfl

set_option maxRecDepth 100000 in
set_option maxHeartbeats 1600000 in
theorem node_bad (p : ByteArray) (i0 : Nat) (w : World) (hl : p.size ≤ 20000) (hb : BadAt p i0) : Calls Tryd.prog 43 #[.string p] w fun e w' => e = .returned (.tuple #[.agg #[.int .i64 0, .int .i64 0], fv (1, i0)]) ∧ Below w.heap.size w w' := by
  obtain ⟨⟨hi0, hb1, hb2⟩, hb3⟩ := hb
  have S0 := hide (NdSt.start w)
  have q0 : decide ((20000 : Int) < (p.size : Int)) = false := by rw [decide_eq_false_iff_not]; omega
  have q0' : decide (20000 < p.size) = false := by rw [decide_eq_false_iff_not]; omega
  have C := fun W => hide (ffault_any 1 (i0 : Int) W)
  have HB3 := hide hb3
  have HB12 := hide (And.intro hb1 hb2)
  clear hb1 hb2 hb3
  go_enter Tryd.func43, Tryd.ntmps43
  go_wp2_with fail
  go_loopg [17] i0 (fun J iv wr => ∃ i : Nat, J = i0 - i ∧ iv = .int .i64 i ∧ i ≤ i0 ∧ wr = (w.alloc (.cells #[.int .i64 0, .int .i64 0] 49)).alloc (.cells #[.int .i64 0, .int .i64 0] 24))
  case atStart => exact ⟨0, by omega, rfl, by omega, rfl⟩
  case round =>
    obtain ⟨i, hJ, rfl, hi, rfl⟩ := hrel
    have q1 : decide ((i : Int) < (p.size : Int)) = true := by rw [decide_eq_true_eq]; omega
    have s1 : (i : Int) < (p.size : Int) := by omega
    by_cases hil : i < i0
    · rcases HB3.out i (by omega) hil with e0 | e0
      · go_wp2_with fail
        go_roundg (i0 - (i + 1))
        case measure => omega
        case rel => exact ⟨i + 1, rfl, by simp, by omega, rfl⟩
      · go_wp2_with fail
        go_roundg (i0 - (i + 1))
        case measure => omega
        case rel => exact ⟨i + 1, rfl, by simp, by omega, rfl⟩
    · obtain rfl : i = i0 := by omega
      obtain ⟨c, hc⟩ : ∃ c, (p[i]'hi0).toNat = c := ⟨_, rfl⟩
      have hc1 := HB12.out.1
      have hc2 := HB12.out.2
      rw [hc] at hc1 hc2
      have r1 : ((c : Int) != 76) = true := by simp; omega
      have r2 : ((c : Int) != 82) = true := by simp; omega
      have r3 : (c != 76) = true := by simpa using hc1
      have r4 : (c != 82) = true := by simpa using hc2
      clear hc1 hc2
      go_wp2_with fail
      refine (C _).out.mono ?_
      rintro e w1 ⟨rfl, hb⟩
      have S1 := hide (S0.out.below hb)
      have S1y := S1.out.y
      obtain ⟨d0, d1, f0, f1⟩ := blk2 S1y
      obtain ⟨d2, d3, f2, f3⟩ := S1.out.f.cells
      obtain ⟨p0, p1, p2, p3, p4⟩ := S1.out.put 0 0 1 (i : Int)
      have HPB := hide p4
      clear hb p4 S1y
      go_wp2_with fail
      exact bodyPost_ret (v := .tuple #[.agg #[.int .i64 0, .int .i64 0], fv (1, i)]) (by unfold nput at p0 p1 p2 p3; simp [results, Tryd.results43, go_sem, fv, p0, p1, p2, p3]) rfl ⟨rfl, HPB.out⟩
end Go.Proofs.YticgnjapgbjfiaaDoor
