/- The walk of curve.points: the first loop (roots of squares). -/
import Derived.Test.YtofjmnodfabohaaGreatDoorKCurvG
import Derived.Deep.AppendLies
import Derived.Deep.OwnRows
import Derived.Laws.OwnMore
import Derived.Below
namespace Go.Proofs.YtofjmnodfabohaaGreatDoor
open Go.RowKit
open CV

theorem own_belC {w w' : World} {base n size : Nat} {e : TypeId} {v : Value} {xs : List Value} (h : w.ownsRow base e size v n xs) (k : Below w.heap.size w w') : w'.ownsRow base e size v n xs := by
  obtain ⟨h1, h2⟩ := h
  refine ⟨h1, ?_⟩
  rcases h2 with h2 | ⟨g, cap, cur, e, hg, hh, hr⟩
  · exact .inl h2
  · exact .inr ⟨g, cap, cur, e, hg, (k.block g (heap_lt hh)).trans hh, hr⟩
theorem sinfoC : (Tryz.prog.info? 46).map (fun i => (i.zero, i.size, i.bytes)) = some (some (.slice none 0 0), 1, 24) := by kernel_rfl
theorem iinfoC : (Tryz.prog.info? 3).map (fun i => (i.zero, i.size, i.bytes)) = some (some (.int .i64 0), 1, 8) := by kernel_rfl
def nats (l : List Nat) : List Value := l.map fun y => .int .i64 (y : Nat)
theorem nats_app (l : List Nat) (y : Nat) : nats (l ++ [y]) = nats l ++ [.int .i64 (y : Nat)] := by simp [nats]
theorem nats_len (l : List Nat) : (nats l).length = l.length := by simp [nats]

/-- a row of rows of numbers -/
def RtM (W : World) (gR p : Nat) (f : Nat → List Nat) : Prop := ∃ vs : Array Value, vs.size = p ∧ KB W gR vs 46 ∧ (∀ i, i < p → ∃ v, vs[i]? = some v ∧ W.ownsRow (gR + 1) 3 1 v (f i).length (nats (f i))) ∧
  ∀ (i j : Nat) (u v : Value), i ≠ j → vs[i]? = some u → vs[j]? = some v → u.ownBlock = none ∨ u.ownBlock ≠ v.ownBlock
theorem RtM.below {W W' : World} {gR p : Nat} {f : Nat → List Nat} (h : RtM W gR p f) (k : Below W.heap.size W W') : RtM W' gR p f := by
  obtain ⟨vs, h1, h2, h3, h4⟩ := h
  exact ⟨vs, h1, h2.below k, fun i hi => by
    obtain ⟨v, hv, ho⟩ := h3 i hi
    exact ⟨v, hv, own_belC ho k⟩, h4⟩
theorem RtM.lt {W : World} {gR p : Nat} {f : Nat → List Nat} (h : RtM W gR p f) : gR < W.heap.size := by
  obtain ⟨vs, h1, h2, _⟩ := h
  exact h2.lt
theorem RtM.start (w : World) (p : Nat) : RtM (w.alloc (.cells (madeCells #[.slice none 0 0] p) 46)) w.heap.size p (fun _ => []) := by
  have hs : (madeCells #[.slice none 0 0] p).size = p := by simp [madeCells]
  have hg : ∀ (i : Nat) (v : Value), (madeCells #[.slice none 0 0] p)[i]? = some v → v = .slice none 0 0 := fun i v hv => by
    simp [madeCells, Array.getElem?_eq_some_iff] at hv
    obtain ⟨i', _, h1⟩ := hv
    rw [Nat.mod_one] at h1
    exact h1.symm
  refine ⟨_, hs, KB.made w _ _, fun i hi => ?_, fun i j u v _ hu _ => ?_⟩
  · obtain ⟨v, hv⟩ : ∃ v, (madeCells #[.slice none 0 0] p)[i]? = some v := ⟨_, Array.getElem?_eq_getElem (by rw [hs]; exact hi)⟩
    refine ⟨v, hv, ?_⟩
    rw [hg i v hv]
    exact World.ownsRow_nil _ _ _ _
  · left
    rw [hg i u hu]
    rfl
/-- one more number in row i -/
def upd (f : Nat → List Nat) (i y : Nat) : Nat → List Nat := fun j => if j = i then f i ++ [y] else f j
theorem RtM.at_ {W : World} {gR p : Nat} {f : Nat → List Nat} (h : RtM W gR p f) {i : Nat} (hi : i < p) :
    ∃ v, W.cell? ⟨gR, i, none⟩ = some v ∧ W.frozen? ⟨gR, i, none⟩ = false ∧ W.ownsRow (gR + 1) 3 1 v (f i).length (nats (f i)) ∧
      ∀ (W' W5 : World) (gg cap y : Nat), Below W.heap.size W W' → W'.grownBy W5 v.ownBlock → (v.ownBlock = some gg ∨ gg = W'.heap.size) → W5.ownsRow (gR + 1) 3 1 (.slice (some ⟨gg, 0, none⟩) ((f i).length + 1) cap) ((f i).length + 1) (nats (f i ++ [y])) →
        RtM (W5.setCell ⟨gR, i, none⟩ (.slice (some ⟨gg, 0, none⟩) ((f i).length + 1) cap)) gR p (upd f i y) := by
  have hlt := h.lt
  obtain ⟨vs, h1, h2, h3, h4⟩ := h
  obtain ⟨v, hv, ho⟩ := h3 i hi
  refine ⟨v, h2.cell hv, h2.frozen i, ho, fun W' W5 gg cap y hb hg hgg hn => ?_⟩
  have hvl := ho.lt
  have k1 : KB W5 gR vs 46 := (hg.block gR (Nat.lt_of_lt_of_le hlt hb.size) (fun e => by
    have := hvl gR e.symm
    omega)).trans (h2.below hb)
  refine ⟨vs.setIfInBounds i (.slice (some ⟨gg, 0, none⟩) ((f i).length + 1) cap), by simp [h1], k1.set i _, fun j hj => ?_, fun a b u u' hab hu hu' => ?_⟩
  · by_cases hji : j = i
    · subst hji
      refine ⟨.slice (some ⟨gg, 0, none⟩) ((f j).length + 1) cap, by rw [Array.getElem?_setIfInBounds_self, if_pos (by omega)], ?_⟩
      have : upd f j y j = f j ++ [y] := if_pos rfl
      rw [this, List.length_append, List.length_singleton]
      exact ownsRow_setCell_below hn (by show gR < gR + 1; omega) _
    · obtain ⟨vj, hvj, hoj⟩ := h3 j hj
      refine ⟨vj, by rw [Array.getElem?_setIfInBounds_ne (by omega)]; exact hvj, ?_⟩
      have : upd f i y j = f j := if_neg hji
      rw [this]
      exact ownsRow_setCell_below ((own_belC hoj hb).kept hg (h4 j i vj v hji hvj hv)) (by show gR < gR + 1; omega) _
  · have old : ∀ (c : Nat) (x : Value), c ≠ i → (vs.setIfInBounds i (.slice (some ⟨gg, 0, none⟩) ((f i).length + 1) cap))[c]? = some x → vs[c]? = some x ∧ (x.ownBlock = none ∨ x.ownBlock ≠ some gg) := fun c x hc hx => by
      rw [Array.getElem?_setIfInBounds_ne (by omega)] at hx
      refine ⟨hx, ?_⟩
      have hcp : c < p := by rw [← h1]; exact (Array.getElem?_eq_some_iff.1 hx).1
      rcases hgg with hgg | hgg
      · rw [← hgg]
        exact h4 c i x v hc hx hv
      · obtain ⟨x', hx', hox⟩ := h3 c hcp
        rw [hx] at hx'
        injection hx' with hx'
        subst hx'
        right
        intro e
        have := (hox.lt gg e).2
        have := hb.size
        omega
    have new : ∀ x, (vs.setIfInBounds i (.slice (some ⟨gg, 0, none⟩) ((f i).length + 1) cap))[i]? = some x → x.ownBlock = some gg := fun x hx => by
      rw [Array.getElem?_setIfInBounds_self, if_pos (by omega)] at hx
      injection hx with hx
      subst hx
      rfl
    by_cases ha : a = i
    · subst ha
      obtain ⟨_, e⟩ := old b u' (fun e => hab e.symm) hu'
      right
      rw [new u hu]
      rcases e with e | e
      · rw [e]; simp
      · exact fun e' => e e'.symm
    · obtain ⟨e1, e2⟩ := old a u ha hu
      by_cases hb' : b = i
      · subst hb'
        rw [new u' hu']
        exact e2
      · obtain ⟨e3, _⟩ := old b u' hb' hu'
        exact h4 a b u u' hab e1 e3

/-- the numbers below y whose square is v by p -/
def rootsL (p y v : Nat) : List Nat := (List.range y).filter fun z => decide (z * z % p = v)
theorem rootsL_succ (p y : Nat) : rootsL p (y + 1) = upd (rootsL p y) (y * y % p) y := by
  funext v
  unfold rootsL upd
  rw [List.range_succ, List.filter_append]
  by_cases h : v = y * y % p
  · rw [if_pos h, h]
    simp
  · rw [if_neg h]
    simp
    exact fun e => h e.symm
theorem rootsL_len (p y v : Nat) : (rootsL p y v).length ≤ y := by
  unfold rootsL
  exact Nat.le_trans (List.length_filter_le _ _) (by simp)

/-- points' memory in the first loop -/
structure Pt1 (w W : World) (p y : Nat) (a b : Int) : Prop where
  c : KB W w.heap.size #[.int .i64 (p : Nat), .int .i64 a, .int .i64 b] 36
  r : RtM W (w.heap.size + 1) p (rootsL p y)
  b : Below w.heap.size w W
theorem Pt1.below {w W W' : World} {p y : Nat} {a b : Int} (h : Pt1 w W p y a b) (k : Below W.heap.size W W') : Pt1 w W' p y a b := ⟨h.c.below k, h.r.below k, h.b.trans (k.mono h.b.size)⟩
theorem Pt1.start (w : World) (p : Nat) (a b : Int) : Pt1 w ((w.alloc (.cells #[.int .i64 (p : Nat), .int .i64 a, .int .i64 b] 36)).alloc (.cells (madeCells #[.slice none 0 0] p) 46)) p 0 a b := by
  have b1 := bel_x w (.cells #[.int .i64 (p : Nat), .int .i64 a, .int .i64 b] 36)
  have b2 := bel_x (w.alloc (.cells #[.int .i64 (p : Nat), .int .i64 a, .int .i64 b] 36)) (.cells (madeCells #[.slice none 0 0] p) 46)
  have r := RtM.start (w.alloc (.cells #[.int .i64 (p : Nat), .int .i64 a, .int .i64 b] 36)) p
  rw [World.size_alloc] at r
  exact ⟨(KB.made w _ _).below b2, r, b1.trans (b2.mono b1.size)⟩

/-- the points of a curve, in order -/
def rowP (p : Nat) (a b : Int) (x : Nat) : List CP := (rootsL p p (((x : Int) * x * x + a * x + b) % p).toNat).map fun y => ⟨(x : Nat), (y : Nat), false⟩
def ptsN (p : Nat) (a b : Int) (m : Nat) : List CP := farC :: (List.range m).flatMap (rowP p a b)
def ptsC (p : Nat) (a b : Int) : List CP := ptsN p a b p
def pcells (L : List CP) : List Value := L.flatMap fun P => [.int .i64 P.x, .int .i64 P.y, .bool P.far]
theorem pcells_app (L M : List CP) : pcells (L ++ M) = pcells L ++ pcells M := by simp [pcells]
theorem pcells_len (L : List CP) : (pcells L).length = L.length * 3 := by
  induction L with
  | nil => rfl
  | cons P L ih =>
    show ([_, _, _] ++ pcells L).length = _
    rw [List.length_append, ih]
    simp
    omega
/-- a row of points -/
def PRowC (w : World) (base : Nat) (v : Value) (L : List CP) : Prop := w.ownsRow base 33 3 v L.length (pcells L)
/-- what points answers -/
def RetPts (w : World) (p : Nat) (a b : Int) : Ending → World → Prop := fun e w' => ∃ v, e = .returned v ∧ PRowC w' w.heap.size v (ptsC p a b) ∧ Below w.heap.size w w'
theorem Pt1.step {w W W' W5 : World} {p y y' gg cap i n : Nat} {a b : Int} {v : Value} (h : Pt1 w W p y a b) (hb : Below W.heap.size W W') (hg : W'.grownBy W5 v.ownBlock) (hv : ∀ k, v.ownBlock = some k → w.heap.size + 1 + 1 ≤ k)
    (hr : RtM (W5.setCell ⟨w.heap.size + 1, i, none⟩ (.slice (some ⟨gg, 0, none⟩) n cap)) (w.heap.size + 1) p (rootsL p y')) : Pt1 w (W5.setCell ⟨w.heap.size + 1, i, none⟩ (.slice (some ⟨gg, 0, none⟩) n cap)) p y' a b := by
  have hc := h.c.below hb
  have hc5 : KB W5 w.heap.size #[.int .i64 (p : Nat), .int .i64 a, .int .i64 b] 36 := (hg.block _ hc.lt (fun e => by
    have := hv _ e.symm
    omega)).trans hc
  have hbs := h.b.size
  have hs := hb.size
  have h5 := (h.b.trans (hb.mono h.b.size)).grown hg (by omega) (fun k hk => by have := hv k hk; omega)
  exact ⟨hc5.far (by show w.heap.size ≠ w.heap.size + 1; omega) _, hr, h5.setCell (p := ⟨w.heap.size + 1, i, none⟩) (show w.heap.size ≤ w.heap.size + 1 by omega) _⟩
/-- a row's numbers, read -/
theorem nats_open {W : World} {base : Nat} {v : Value} {l : List Nat} (h : W.ownsRow base 3 1 v l.length (nats l)) : ∃ A c, v = .slice A l.length c ∧ ∀ (j z : Nat), l[j]? = some z → ∃ g, A = some ⟨g, 0, none⟩ ∧ g < W.heap.size ∧ W.cell? ⟨g, j, none⟩ = some (.int .i64 (z : Nat)) := by
  obtain ⟨h1, h2 | ⟨g, cap, cur, rfl, h3, h4, h5, h6, h7, h8⟩⟩ := h
  · obtain ⟨rfl, h2⟩ := h2
    refine ⟨none, 0, by rw [h2], fun j z hj => ?_⟩
    have := (List.getElem?_eq_some_iff.1 hj).1
    omega
  · refine ⟨_, cap, rfl, fun j z hj => ⟨g, rfl, heap_lt h4, ?_⟩⟩
    have hj2 : (nats l)[j]? = some (.int .i64 (z : Nat)) := by unfold nats; rw [List.getElem?_map, hj]; rfl
    rw [← h8, List.getElem?_take] at hj2
    split at hj2
    · rw [Array.getElem?_toList] at hj2
      simp [World.cell?, h4, hj2]
    · cases hj2
theorem ptinfo : (Tryz.prog.info? 33).map (fun i => (i.zero, i.size, i.bytes)) = some (some (.agg #[.int .i64 0, .int .i64 0, .bool false]), 3, 24) := by kernel_rfl
theorem three_newC (W : World) (a b c : Value) (T : TypeId) : ∀ (j : Nat) (u : Value), [a, b, c][j]? = some u → (W.alloc (.cells #[a, b, c] T)).cell? ((⟨W.heap.size, 0, none⟩ : Addr).add j) = some u :=
  World.news_of_block (cs := #[a, b, c]) (t := T) (fr := (0, 0)) (heap_alloc_new W _)
theorem ptsN_succ (p : Nat) (a b : Int) (m : Nat) : ptsN p a b (m + 1) = ptsN p a b m ++ rowP p a b m := by
  unfold ptsN
  rw [List.range_succ, List.flatMap_append]
  simp
theorem rowP_len (p : Nat) (a b : Int) (x : Nat) : (rowP p a b x).length ≤ p := by
  unfold rowP
  rw [List.length_map]
  exact rootsL_len _ _ _
theorem ptsN_len (p : Nat) (a b : Int) : ∀ m, (ptsN p a b m).length ≤ 1 + m * p
  | 0 => by simp [ptsN]
  | m + 1 => by
    rw [ptsN_succ, List.length_append, Nat.succ_mul]
    have := ptsN_len p a b m
    have := rowP_len p a b m
    omega
theorem PRowC.below {w w' : World} {base : Nat} {v : Value} {L : List CP} (h : PRowC w base v L) (k : Below w.heap.size w w') : PRowC w' base v L := own_belC h k
theorem PRowC.start (W : World) : PRowC (W.alloc (.cells #[.int .i64 0, .int .i64 0, .bool true] 33)) W.heap.size (.slice (some ⟨W.heap.size, 0, none⟩) 1 1) [farC] :=
  ⟨rfl, .inr ⟨W.heap.size, 1, #[.int .i64 0, .int .i64 0, .bool true], rfl, Nat.le_refl _, heap_alloc_new W _, by decide, by decide, rfl, rfl⟩⟩
theorem PRowC.form {w : World} {base : Nat} {v : Value} {L : List CP} (h : PRowC w base v L) : ∃ A c, v = .slice A L.length c := by
  obtain ⟨h1, h2 | ⟨g, cap, cur, rfl, _⟩⟩ := h
  · obtain ⟨rfl, h2⟩ := h2
    exact ⟨none, 0, by rw [h2]⟩
  · exact ⟨_, cap, rfl⟩
end Go.Proofs.YtofjmnodfabohaaGreatDoor
