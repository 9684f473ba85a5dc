/- The walks of cert.Check and of the answers' CertParts. -/
import Derived.Test.YtlchmaiflcnaoaaDoorKCertC
import Derived.Maps.AppendAt
import Derived.WalkSmall
import Derived.Laws.OwnMore
import Derived.Lib.OwnKind
namespace Go.Proofs.YtlchmaiflcnaoaaDoor
open Go.RowKit

set_option maxRecDepth 100000 in
set_option maxHeartbeats 1600000 in
theorem certCheck_any (W0 : World) (B : Nat) (t : Tree) (s : Value) (hs : CAt W0 B t s) (w : World) (hB : B ≤ w.heap.size) (hW : Below B W0 w) :
    Calls Tryd.prog 6 #[.agg #[.int .i64 t.n, .int .i64 t.r, s]] w (RetFault w (lookT t 0).1) := by
  obtain ⟨A, cap, rfl, hn, hr, hl, _⟩ := hs.open_
  obtain ⟨N, hN⟩ : ∃ N, t.l.length = N := ⟨_, rfl⟩
  rw [hN] at hs
  rw [hN]
  have CL := hide (certLook_any W0 B t _ hs 0 (by omega))
  obtain ⟨⟨⟨fc, fa⟩, k3⟩, hF⟩ : ∃ F, lookT t 0 = F := ⟨_, rfl⟩
  rw [hF] at CL
  rw [hF]
  unfold RetLk at CL
  obtain ⟨n, hn'⟩ : ∃ n, t.n = n := ⟨_, rfl⟩
  obtain ⟨r, hr'⟩ : ∃ r, t.r = r := ⟨_, rfl⟩
  rw [hn', hr'] at CL
  rw [hn', hr']
  have B3 := hide ((bel_o w (.cells #[.int .i64 n, .int .i64 r, .slice A N cap] 24)).trans (((bel_o (w.alloc (.cells #[.int .i64 n, .int .i64 r, .slice A N cap] 24)) (.cells #[.int .i64 0, .int .i64 0] 28)).trans ((bel_o _ (.cells #[.int .i64 0] 37)).mono (by simp))).mono (by simp)))
  have E3 : Hid (FC (((w.alloc (.cells #[.int .i64 n, .int .i64 r, .slice A N cap] 24)).alloc (.cells #[.int .i64 0, .int .i64 0] 28)).alloc (.cells #[.int .i64 0] 37)) (w.heap.size + 1) 0 0) := hide (by
    have := (FC.made (w.alloc (.cells #[.int .i64 n, .int .i64 r, .slice A N cap] 24)) 0 0).below (bel_o _ (.cells #[.int .i64 0] 37))
    rwa [World.size_alloc] at this)
  have K3 : Hid (KAt (((w.alloc (.cells #[.int .i64 n, .int .i64 r, .slice A N cap] 24)).alloc (.cells #[.int .i64 0, .int .i64 0] 28)).alloc (.cells #[.int .i64 0] 37)) (w.heap.size + 1 + 1) 0) := hide (by
    have : ∀ W : World, KAt (W.alloc (.cells #[.int .i64 0] 37)) W.heap.size 0 := fun W => by
      show (W.heap.push _)[W.heap.size]? = _
      simp
    have := this ((w.alloc (.cells #[.int .i64 n, .int .i64 r, .slice A N cap] 24)).alloc (.cells #[.int .i64 0, .int .i64 0] 28))
    rwa [World.size_alloc, World.size_alloc] at this)
  have C := hide (CL.out _ (w.heap.size + 1 + 1) (by omega) (hW.trans (B3.out.mono hB)) K3.out)
  clear hs hB hW hn hr hl hN hF hn' hr' CL
  go_enter Tryd.func6, Tryd.ntmps6
  go_wp2_with fail
  refine C.out.mono ?_
  rintro e w1 ⟨rfl, hg, _⟩
  simp only [fv]
  have E4 := hide ((hg.block _ E3.out.lt (fun e => by injection e with e; omega)).trans E3.out)
  have E4 : Hid (FC w1 (w.heap.size + 1) 0 0) := E4
  have B4 := hide (B3.out.grown hg (by simp; omega) (fun k e => by injection e with e; omega))
  clear hg C B3 E3 K3
  obtain ⟨e0, e1, e2, e3⟩ := E4.out.cells
  go_wp2_with fail
  obtain ⟨G0, G1, _, _⟩ := ((E4.out.set0 fc).set1 fa).cells
  exact bodyPost_ret (v := .agg #[.int .i64 fc, .int .i64 fa]) (by simp [results, Tryd.results6, go_sem, G0, G1]) rfl ⟨rfl, (B4.out.setCell (p := ⟨w.heap.size + 1, 0, none⟩) (Nat.le_succ _) (.int .i64 fc)).setCell (p := ⟨w.heap.size + 1, 1, none⟩) (Nat.le_succ _) (.int .i64 fa)⟩

/-- a certificate in a list's memory -/
def encC (p : Tree × Value) : List Value := [.int .i64 p.1.n, .int .i64 p.1.r, p.2]
theorem flatC_len (l : List (Tree × Value)) : (l.flatMap encC).length = l.length * 3 := by
  induction l with
  | nil => rfl
  | cons a l ih => rw [List.flatMap_cons, List.length_append, ih, List.length_cons]; simp only [encC, List.length_cons, List.length_nil]; omega
theorem flatC_get : ∀ (l : List (Tree × Value)) (i j : Nat) (p : Tree × Value), l[i]? = some p → j < 3 → (l.flatMap encC)[i * 3 + j]? = (encC p)[j]?
  | a :: l, 0, j, p, h, hj => by
    simp at h
    subst h
    rw [List.flatMap_cons, Nat.zero_mul, Nat.zero_add, List.getElem?_append_left (by simp [encC]; omega)]
  | a :: l, i + 1, j, p, h, hj => by
    rw [List.flatMap_cons, List.getElem?_append_right (by simp [encC]; omega)]
    rw [show (i + 1) * 3 + j - (encC a).length = i * 3 + j by simp [encC]; omega]
    exact flatC_get l i j p (by simpa using h) hj
theorem cinfo : (Tryd.prog.info? 24).map (fun i => (i.zero, i.size, i.bytes)) = some (some (.agg #[.int .i64 0, .int .i64 0, .slice none 0 0]), 3, 40) := by kernel_rfl
/-- an own slice of certificates -/
def CO (w : World) (base : Nat) (v : Value) (L : List (Tree × Value)) : Prop := w.ownsRow base 24 3 v L.length (L.flatMap encC)
theorem CO.nil (w : World) (base : Nat) : CO w base (.slice none 0 0) [] := ⟨rfl, .inl ⟨rfl, rfl⟩⟩
theorem CO.below {w w' : World} {base : Nat} {v : Value} {L : List (Tree × Value)} (h : CO w base v L) (k : Below w.heap.size w w') : CO w' base v L := by
  refine ⟨h.1, ?_⟩
  rcases h.2 with h2 | ⟨g, cap, cur, e, hg, hh, hr⟩
  · exact .inl h2
  · exact .inr ⟨g, cap, cur, e, hg, (k.block g (heap_lt hh)).trans hh, hr⟩
theorem CO.own {w : World} {base : Nat} {v : Value} {L : List (Tree × Value)} (h : CO w base v L) : ∀ k, v.ownBlock = some k → base ≤ k ∧ k < w.heap.size := h.lt
theorem CO.grow {w : World} {base : Nat} {v : Value} {L : List (Tree × Value)} {p : Tree × Value} (h : w.ownsRow base 24 3 v (L.length + 1) (L.flatMap encC ++ encC p)) : CO w base v (L ++ [p]) := by
  unfold CO
  rw [List.length_append, List.flatMap_append]
  simpa using h
theorem CO.form {w : World} {base : Nat} {v : Value} {L : List (Tree × Value)} (h : CO w base v L) : ∃ A c, v = .slice A L.length c ∧ L.length ≤ maxLen := by
  rcases h.2 with ⟨rfl, h0⟩ | ⟨g, cap, cur, rfl, _, _, hc, hm, _⟩
  · exact ⟨none, 0, by rw [h0], by rw [h0]; exact Nat.zero_le _⟩
  · exact ⟨_, cap, rfl, Nat.le_trans hc hm⟩
theorem CO.at_ {w : World} {base : Nat} {v : Value} {L : List (Tree × Value)} (h : CO w base v L) {i : Nat} {p : Tree × Value} (hp : L[i]? = some p) : ∃ g c, v = .slice (some ⟨g, 0, none⟩) L.length c ∧ L.length ≤ c ∧ g < w.heap.size ∧ base ≤ g ∧
    w.cell? ⟨g, i * 3, none⟩ = some (.int .i64 p.1.n) ∧ w.cell? ⟨g, i * 3 + 1, none⟩ = some (.int .i64 p.1.r) ∧ w.cell? ⟨g, i * 3 + 2, none⟩ = some p.2 := by
  have hi := (List.getElem?_eq_some_iff.1 hp).1
  rcases h.2 with ⟨rfl, h0⟩ | ⟨g, cap, cur, rfl, hb, hh, hc, hm, hs, ht⟩
  · omega
  · have cell : ∀ j, j < 3 → w.cell? ⟨g, i * 3 + j, none⟩ = (encC p)[j]? := fun j hj => by
      rw [← flatC_get L i j p hp hj, ← ht, List.getElem?_take_of_lt (by omega)]
      simp [World.cell?, hh]
    exact ⟨g, cap, rfl, hc, heap_lt hh, hb, cell 0 (by omega), cell 1 (by omega), cell 2 (by omega)⟩
theorem CO.pop {w : World} {base g c : Nat} {L : List (Tree × Value)} {p : Tree × Value} (h : CO w base (.slice (some ⟨g, 0, none⟩) (L ++ [p]).length c) (L ++ [p])) : CO w base (.slice (some ⟨g, 0, none⟩) L.length c) L := by
  unfold CO at h
  rw [List.length_append, List.flatMap_append] at h
  exact ownsRow_pop (flatC_len L) h
/-- two slices of different memory -/
def ApartV (v u : Value) : Prop := v.ownBlock = none ∨ v.ownBlock ≠ u.ownBlock
theorem CO.kept {w w' : World} {base : Nat} {v u : Value} {L : List (Tree × Value)} (h : CO w base v L) (hg : w.grownBy w' u.ownBlock) (ha : ApartV v u) : CO w' base v L := World.ownsRow.kept h hg ha
theorem ApartV.new {w : World} {base : Nat} {v u u' : Value} {L : List (Tree × Value)} (ha : ApartV v u) (h : CO w base v L) (hu : u'.ownBlock = u.ownBlock ∨ u'.ownBlock = some w.heap.size) : ApartV v u' := by
  unfold ApartV at ha ⊢
  rcases hu with hu | hu
  · rw [hu]; exact ha
  · rw [hu]
    right
    intro e
    have := (h.own _ e).2
    omega
theorem ApartV.symm {v u : Value} (ha : ApartV v u) : ApartV u v := by
  unfold ApartV at ha ⊢
  rcases ha with ha | ha
  · cases h : u.ownBlock
    · exact .inl rfl
    · right; rw [ha]; simp
  · exact .inr (Ne.symm ha)
theorem cert_new (W : World) (p : Tree × Value) (T : TypeId) : ∀ (j : Nat) (u : Value), (encC p)[j]? = some u → (W.alloc (.cells #[.int .i64 p.1.n, .int .i64 p.1.r, p.2] T)).cell? ((⟨W.heap.size, 0, none⟩ : Addr).add j) = some u := by
  intro j u h
  match j, h with
  | 0, h =>
    simp [encC] at h
    subst h
    simp [Addr.add]
  | 1, h =>
    simp [encC] at h
    subst h
    simp [Addr.add]
  | 2, h =>
    simp [encC] at h
    subst h
    simp [Addr.add]
  | j + 3, h => simp [encC] at h

/-- the parts of a certificate, with their slices -/
theorem CAt.pairs {w : World} {B : Nat} {t : Tree} {s : Value} (h : CAt w B t s) : ∃ A cap, ∃ cs : List (Tree × Value), s = .slice A t.l.length cap ∧ cs.map Prod.fst = t.l ∧ ∀ (i : Nat) (p : Tree × Value), cs[i]? = some p → ∃ a, A = some a ∧ a.block < B ∧ w.cell? (a.add (i * 3)) = some (.int .i64 p.1.n) ∧ w.cell? ⟨(a.add (i * 3)).block, (a.add (i * 3)).off + 1, none⟩ = some (.int .i64 p.1.r) ∧ w.cell? ⟨(a.add (i * 3)).block, (a.add (i * 3)).off + 2, none⟩ = some p.2 ∧ CAt w B p.1 p.2 := by
  cases h with
  | mk n r l A a cap sf hn hr hl hA hb hs =>
    refine ⟨A, cap, l.zipIdx.map (fun x => (x.1, sf x.2)), rfl, ?_, fun i p hp => ?_⟩
    · rw [List.map_map]
      show l.zipIdx.map Prod.fst = l
      simp
    · rw [List.getElem?_map, List.getElem?_zipIdx] at hp
      cases hx : l[i]? with
      | none => rw [hx] at hp; simp at hp
      | some x =>
        rw [hx] at hp
        simp at hp
        subst hp
        obtain ⟨h0, h1, h2, h3⟩ := hb i x hx
        exact ⟨a, hA (fun e => by rw [e] at hx; simp at hx), h0, h1, h2, h3, hs i x hx⟩
theorem CAt.form {w : World} {B : Nat} {t : Tree} {s : Value} (h : CAt w B t s) : ∃ A n c, s = .slice A n c := by
  obtain ⟨A, c, rfl, _⟩ := h.open_
  exact ⟨A, _, c, rfl⟩

theorem pres_app (a b : List Tree) : pres (a ++ b) = pres a ++ pres b := by
  induction a with
  | nil => simp [pres]
  | cons t a ih => rw [List.cons_append, pres, pres, ih, List.append_assoc]
theorem pre_eq (t : Tree) : pre t = t :: pres t.l := by cases t; rw [pre]; rfl
theorem deepT_false {t : Tree} {d : Nat} (h : deepT t d = false) : t.l.length ≤ 1100 ∧ ∀ x ∈ t.l, deepT x (d + 1) = false := by
  rw [deepT_eq] at h
  split at h
  · cases h
  · rename_i h1
    refine ⟨by omega, ?_⟩
    generalize t.l = l at h
    induction l with
    | nil => intro x hx; cases hx
    | cons y l ih =>
      rw [deepTs] at h
      split at h
      · cases h
      · rename_i h2
        intro x hx
        rcases List.mem_cons.1 hx with rfl | hx
        · simpa using h2
        · exact ih h x hx
end Go.Proofs.YtlchmaiflcnaoaaDoor
