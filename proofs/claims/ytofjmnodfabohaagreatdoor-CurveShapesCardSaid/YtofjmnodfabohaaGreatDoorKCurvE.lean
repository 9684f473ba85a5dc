/- The walk of curve.look. -/
import Derived.Test.YtofjmnodfabohaaGreatDoorKCurvD
namespace Go.Proofs.YtofjmnodfabohaaGreatDoor
open Go.RowKit
open CV

/-- the fault of points: the first that is not on the curve -/
def offP (p a b : Int) : Nat → List CP → Int × Int
  | _, [] => (0, 0)
  | k, P :: L => if decide (okC p.toNat a b P) = true then offP p a b (k + 1) L else (10, 3 + (k : Int))
/-- look's fault -/
noncomputable def lookC (p a b : Int) (L : List CP) : Int × Int := if (chkC p a b).1 ≠ 0 then chkC p a b else offP p a b 0 L
theorem offP_ok {p a b : Int} : ∀ {L : List CP} {k : Nat}, (∀ P ∈ L, okC p.toNat a b P) → offP p a b k L = (0, 0)
  | [], _, _ => rfl
  | P :: L, k, h => by
    rw [offP, if_pos (by simpa using h P (by simp))]
    exact offP_ok fun Q hQ => h Q (by simp [hQ])
theorem offP_zero {p a b : Int} : ∀ {L : List CP} {k : Nat}, (offP p a b k L).1 = 0 → ∀ P ∈ L, okC p.toNat a b P
  | [], _, _, P, hP => by simp at hP
  | Q :: L, k, h, P, hP => by
    rw [offP] at h
    split at h
    · rename_i hq
      rcases List.mem_cons.1 hP with rfl | hP
      · simpa using hq
      · exact offP_zero h P hP
    · simp at h
theorem offP_step {p a b : Int} {L : List CP} {j : Nat} {P : CP} (hj : L[j]? = some P) : offP p a b j (L.drop j) = if decide (okC p.toNat a b P) = true then offP p a b (j + 1) (L.drop (j + 1)) else (10, 3 + (j : Int)) := by
  obtain ⟨hk, rfl⟩ := List.getElem?_eq_some_iff.1 hj
  rw [List.drop_eq_getElem_cons hk, offP]

/-- points in memory -/
def PtS (w : World) (v : Value) (L : List CP) : Prop := (L = [] ∧ v = .slice none 0 0) ∨ ∃ g c, v = .slice (some ⟨g, 0, none⟩) L.length c ∧ g < w.heap.size ∧
  ∀ (j : Nat) (P : CP), L[j]? = some P → w.cell? ⟨g, j * 3, none⟩ = some (.int .i64 P.x) ∧ w.cell? ⟨g, j * 3 + 1, none⟩ = some (.int .i64 P.y) ∧ w.cell? ⟨g, j * 3 + 2, none⟩ = some (.bool P.far)
theorem PtS.open_ {w : World} {v : Value} {L : List CP} (h : PtS w v L) : ∃ A c, v = .slice A L.length c ∧ ∀ (j : Nat) (P : CP), L[j]? = some P → ∃ g, A = some ⟨g, 0, none⟩ ∧ g < w.heap.size ∧ w.cell? ⟨g, j * 3, none⟩ = some (.int .i64 P.x) ∧ w.cell? ⟨g, j * 3 + 1, none⟩ = some (.int .i64 P.y) ∧ w.cell? ⟨g, j * 3 + 2, none⟩ = some (.bool P.far) := by
  rcases h with ⟨rfl, rfl⟩ | ⟨g, c, rfl, h1, h2⟩
  · exact ⟨none, 0, rfl, fun j P hj => by simp at hj⟩
  · exact ⟨_, c, rfl, fun j P hj => ⟨g, rfl, h1, h2 j P hj⟩⟩
theorem PtS.one {w : World} (P : CP) : PtS (w.alloc (.cells #[.int .i64 P.x, .int .i64 P.y, .bool P.far] 33)) (.slice (some ⟨w.heap.size, 0, none⟩) 1 1) [P] := by
  refine .inr ⟨w.heap.size, 1, rfl, by simp, fun j Q hj => ?_⟩
  match j, hj with
  | 0, hj =>
    injection hj with hj
    subst hj
    have h := KB.made w #[.int .i64 P.x, .int .i64 P.y, .bool P.far] 33
    exact ⟨h.cell rfl, h.cell rfl, h.cell rfl⟩
theorem PtS.two {w : World} (P Q : CP) : PtS (w.alloc (.cells #[.int .i64 P.x, .int .i64 P.y, .bool P.far, .int .i64 Q.x, .int .i64 Q.y, .bool Q.far] 33)) (.slice (some ⟨w.heap.size, 0, none⟩) 2 2) [P, Q] := by
  have h := KB.made w #[.int .i64 P.x, .int .i64 P.y, .bool P.far, .int .i64 Q.x, .int .i64 Q.y, .bool Q.far] 33
  refine .inr ⟨w.heap.size, 2, rfl, by simp, fun j R hj => ?_⟩
  match j, hj with
  | 0, hj =>
    injection hj with hj
    subst hj
    exact ⟨h.cell rfl, h.cell rfl, h.cell rfl⟩
  | 1, hj =>
    injection hj with hj
    subst hj
    exact ⟨h.cell rfl, h.cell rfl, h.cell rfl⟩

/-- what look answers -/
def RetCurve (w : World) (p a b : Int) (F : Int × Int) : Ending → World → Prop := fun e w' => e = .returned (.tuple #[if F.1 = 0 then cvv p a b else cvv 0 0 0, fv F]) ∧ Below w.heap.size w w'

/-- look's memory: its answers' cells -/
structure LkM (w W : World) (g : Nat) (p a b : Int) (v : Value) (L : List CP) : Prop where
  c : KB W w.heap.size #[.int .i64 0, .int .i64 0, .int .i64 0] 36
  f : FC W (w.heap.size + 1) 0 0
  k : KB W g #[.int .i64 p, .int .i64 a, .int .i64 b] 36
  s : PtS W v L
  b : Below w.heap.size w W
theorem PtS.below {w w' : World} {v : Value} {L : List CP} (h : PtS w v L) (k : Below w.heap.size w w') : PtS w' v L := by
  rcases h with h | ⟨g, c, h1, h2, h3⟩
  · exact .inl h
  · exact .inr ⟨g, c, h1, Nat.lt_of_lt_of_le h2 k.size, fun j P hj => by
      obtain ⟨a1, a2, a3⟩ := h3 j P hj
      exact ⟨(k.cell (p := ⟨g, _, none⟩) h2).trans a1, (k.cell (p := ⟨g, _, none⟩) h2).trans a2, (k.cell (p := ⟨g, _, none⟩) h2).trans a3⟩⟩
theorem LkM.below {w W W' : World} {g : Nat} {p a b : Int} {v : Value} {L : List CP} (h : LkM w W g p a b v L) (hb : Below W.heap.size W W') : LkM w W' g p a b v L :=
  ⟨h.c.below hb, h.f.below hb, h.k.below hb, h.s.below hb, h.b.trans (hb.mono h.b.size)⟩

/-- the answers' cells, written -/
theorem lk_put {w W : World} {v0 v1 v2 : Value} {a b : Int} (C : KB W w.heap.size #[v0, v1, v2] 36) (F : FC W (w.heap.size + 1) a b) (B : Below w.heap.size w W) (x y z c k : Int) :
    KB ((((((W.setCell ⟨w.heap.size, 0, none⟩ (.int .i64 x)).setCell ⟨w.heap.size, 1, none⟩ (.int .i64 y)).setCell ⟨w.heap.size, 2, none⟩ (.int .i64 z)).setCell ⟨w.heap.size + 1, 0, none⟩ (.int .i64 c)).setCell ⟨w.heap.size + 1, 1, none⟩ (.int .i64 k))) w.heap.size #[.int .i64 x, .int .i64 y, .int .i64 z] 36 ∧
    FC ((((((W.setCell ⟨w.heap.size, 0, none⟩ (.int .i64 x)).setCell ⟨w.heap.size, 1, none⟩ (.int .i64 y)).setCell ⟨w.heap.size, 2, none⟩ (.int .i64 z)).setCell ⟨w.heap.size + 1, 0, none⟩ (.int .i64 c)).setCell ⟨w.heap.size + 1, 1, none⟩ (.int .i64 k))) (w.heap.size + 1) c k ∧
    Below w.heap.size w ((((((W.setCell ⟨w.heap.size, 0, none⟩ (.int .i64 x)).setCell ⟨w.heap.size, 1, none⟩ (.int .i64 y)).setCell ⟨w.heap.size, 2, none⟩ (.int .i64 z)).setCell ⟨w.heap.size + 1, 0, none⟩ (.int .i64 c)).setCell ⟨w.heap.size + 1, 1, none⟩ (.int .i64 k))) := by
  have h1 := ((C.set 0 (.int .i64 x)).set 1 (.int .i64 y)).set 2 (.int .i64 z)
  have h2 : FC (((W.setCell ⟨w.heap.size, 0, none⟩ (.int .i64 x)).setCell ⟨w.heap.size, 1, none⟩ (.int .i64 y)).setCell ⟨w.heap.size, 2, none⟩ (.int .i64 z)) (w.heap.size + 1) a b :=
    ((Below.heap_setCell _ ⟨w.heap.size, 2, none⟩ _ _ (by show w.heap.size + 1 ≠ w.heap.size; omega)).trans ((Below.heap_setCell _ ⟨w.heap.size, 1, none⟩ _ _ (by show w.heap.size + 1 ≠ w.heap.size; omega)).trans ((Below.heap_setCell _ ⟨w.heap.size, 0, none⟩ _ _ (by show w.heap.size + 1 ≠ w.heap.size; omega)).trans F)))
  refine ⟨(h1.far (p := ⟨w.heap.size + 1, 0, none⟩) (by show w.heap.size ≠ w.heap.size + 1; omega) _).far (p := ⟨w.heap.size + 1, 1, none⟩) (by show w.heap.size ≠ w.heap.size + 1; omega) _, (h2.set0 c).set1 k, ?_⟩
  exact below_fault (((B.setCell (p := ⟨w.heap.size, 0, none⟩) (Nat.le_refl _) _).setCell (p := ⟨w.heap.size, 1, none⟩) (Nat.le_refl _) _).setCell (p := ⟨w.heap.size, 2, none⟩) (Nat.le_refl _) _) (by omega)

set_option maxRecDepth 100000 in
set_option maxHeartbeats 3200000 in
theorem look_bad (p a b : Int) (v : Value) (L : List CP) (w : World) (hT : TabW w) (hs : PtS w v L) (c k : Int) (hc : chkC p a b = (c, k)) (hc0 : c ≠ 0) :
    Calls Tryz.prog 9 #[.int .i64 p, .int .i64 a, .int .i64 b, v] w (RetCurve w p a b (c, k)) := by
  have B0 := hide (show Below w.heap.size w ((w.alloc (.cells #[.int .i64 0, .int .i64 0, .int .i64 0] 36)).alloc (.cells #[.int .i64 0, .int .i64 0] 23)) from below_new (bel_x _ _))
  have CC := hide (check_any p a b ((w.alloc (.cells #[.int .i64 0, .int .i64 0, .int .i64 0] 36)).alloc (.cells #[.int .i64 0, .int .i64 0] 23)) (hT.below B0.out))
  rw [hc] at CC
  simp only [fv] at CC
  have HE : Hid ((if (c, k).1 = 0 then cvv p a b else cvv 0 0 0) = cvv 0 0 0) := hide (if_neg hc0)
  have q1 : (c != 0) = true := by simpa using hc0
  obtain ⟨A, cp, rfl, _⟩ := hs.open_
  clear hs hT hc hc0
  go_enter Tryz.func9, Tryz.ntmps9
  go_wp2_with fail
  refine CC.out.mono ?_
  rintro e w1 ⟨rfl, hb⟩
  have HB1 := hide (B0.out.trans (hb.mono B0.out.size))
  have F0 := FC.fresh (w.alloc (.cells #[.int .i64 0, .int .i64 0, .int .i64 0] 36))
  have C0 := (KB.made w #[.int .i64 0, .int .i64 0, .int .i64 0] 36).below (bel_x _ (.cells #[.int .i64 0, .int .i64 0] 23))
  rw [World.size_alloc] at F0
  have F1 := hide ((F0.below hb).below (bel_x w1 (.cells #[.int .i64 c, .int .i64 k] 23)))
  have C1 := hide ((C0.below hb).below (bel_x w1 (.cells #[.int .i64 c, .int .i64 k] 23)))
  have G1 := hide (FC.made w1 c k)
  have HB2 := hide (HB1.out.trans ((bel_x w1 (.cells #[.int .i64 c, .int .i64 k] 23)).mono HB1.out.size))
  have hlt : w.heap.size + 1 < w1.heap.size := (F0.below hb).lt
  clear hb F0 C0 CC
  obtain ⟨W2, hW2⟩ : ∃ Z, w1.alloc (.cells #[.int .i64 c, .int .i64 k] 23) = Z := ⟨_, rfl⟩
  obtain ⟨g, hg⟩ : ∃ g, w1.heap.size = g := ⟨_, rfl⟩
  rw [hW2] at F1 C1 G1 HB2
  rw [hg] at G1 hlt
  obtain ⟨h0, h1, _, _⟩ := G1.out.cells
  obtain ⟨d0, d1, f0, f1⟩ := F1.out.cells
  obtain ⟨e0, e1, e2⟩ := C1.out.three
  have z0 := C1.out.frozen 0
  have z1 := C1.out.frozen 1
  have z2 := C1.out.frozen 2
  go_wp2_with fail
  (try rw [hW2])
  (try rw [hg])
  clear hW2 hg HB1 B0
  go_region_with (fail)
  all_goals
    obtain ⟨r1, r2, r3⟩ := lk_put C1.out F1.out HB2.out 0 0 0 c k
    have HB4 := hide (below_drewN r3 1)
    obtain ⟨W5, hW5⟩ : ∃ Z, ((((((W2.setCell ⟨w.heap.size, 0, none⟩ (.int .i64 0)).setCell ⟨w.heap.size, 1, none⟩ (.int .i64 0)).setCell ⟨w.heap.size, 2, none⟩ (.int .i64 0)).setCell ⟨w.heap.size + 1, 0, none⟩ (.int .i64 c)).setCell ⟨w.heap.size + 1, 1, none⟩ (.int .i64 k))).drew = Z := ⟨_, rfl⟩
    have r1 := r1.below (below_drewN (Below.refl _ _) 1)
    have r2 := r2.below (below_drewN (Below.refl _ _) 1)
    rw [hW5]
    have HR1 : Hid (KB W5 w.heap.size #[.int .i64 0, .int .i64 0, .int .i64 0] 36) := hide (by rw [← hW5]; exact r1)
    have HR2 : Hid (FC W5 (w.heap.size + 1) c k) := hide (by rw [← hW5]; exact r2)
    have HR3 : Hid (Below w.heap.size w W5) := hide (by rw [← hW5]; exact HB4.out)
    clear r1 r2 r3 hW5 d0 d1 f0 f1 e0 e1 e2 h0 h1 z0 z1 z2 HB4 C1 F1 G1 HB2
    obtain ⟨p0, p1, _, _⟩ := HR2.out.cells
    obtain ⟨s0, s1, s2⟩ := HR1.out.three
    go_wp2_with fail
    exact bodyPost_ret (v := .tuple #[.agg #[.int .i64 0, .int .i64 0, .int .i64 0], fv (c, k)]) (by simp [results, Tryz.results9, go_sem, fv, p0, p1, s0, s1, s2]) rfl ⟨by rw [HE.out]; rfl, HR3.out⟩

set_option maxRecDepth 100000 in
set_option maxHeartbeats 3200000 in
theorem look_ok (p a b : Int) (v : Value) (L : List CP) (w : World) (hT : TabW w) (hs : PtS w v L) (hc : OkCv p a b) (hl : L.length ≤ 1000) :
    Calls Tryz.prog 9 #[.int .i64 p, .int .i64 a, .int .i64 b, v] w (RetCurve w p a b (offP p a b 0 L)) := by
  have B0 := hide (show Below w.heap.size w ((w.alloc (.cells #[.int .i64 0, .int .i64 0, .int .i64 0] 36)).alloc (.cells #[.int .i64 0, .int .i64 0] 23)) from below_new (bel_x _ _))
  have CC := hide (check_any p a b ((w.alloc (.cells #[.int .i64 0, .int .i64 0, .int .i64 0] 36)).alloc (.cells #[.int .i64 0, .int .i64 0] 23)) (hT.below B0.out))
  rw [hc.chk] at CC
  simp only [fv] at CC
  have CO := fun P W => hide (on_any p a b P W hc)
  have CF := fun n W => hide (cfault_any 10 n W)
  unfold cvv ptv at CO
  obtain ⟨A, cp, hv, hat⟩ := hs.open_
  have HV := hide hs
  rw [hv] at HV
  subst hv
  have HL := hide hl
  obtain ⟨m, hm⟩ : ∃ m, L.length = m := ⟨_, rfl⟩
  have HM' := hide hm
  rw [hm] at HV hl ⊢
  clear hs hT hc hat hm
  go_enter Tryz.func9, Tryz.ntmps9
  go_wp2_with fail
  refine CC.out.mono ?_
  rintro e w1 ⟨rfl, hb⟩
  have HM : Hid (LkM w ((w1.alloc (.cells #[.int .i64 0, .int .i64 0] 23)).alloc (.cells #[.int .i64 p, .int .i64 a, .int .i64 b] 36)) (w1.heap.size + 1) p a b (.slice A m cp) L) := by
    have F0 := FC.fresh (w.alloc (.cells #[.int .i64 0, .int .i64 0, .int .i64 0] 36))
    have C0 := (KB.made w #[.int .i64 0, .int .i64 0, .int .i64 0] 36).below (bel_x _ (.cells #[.int .i64 0, .int .i64 0] 23))
    rw [World.size_alloc] at F0
    have k1 := bel_x w1 (.cells #[.int .i64 0, .int .i64 0] 23)
    have k2 := bel_x (w1.alloc (.cells #[.int .i64 0, .int .i64 0] 23)) (.cells #[.int .i64 p, .int .i64 a, .int .i64 b] 36)
    have k3 := KB.made (w1.alloc (.cells #[.int .i64 0, .int .i64 0] 23)) #[.int .i64 p, .int .i64 a, .int .i64 b] 36
    rw [World.size_alloc] at k3
    have hb1 := B0.out.trans (hb.mono B0.out.size)
    have hb2 := hb1.trans (k1.mono hb1.size)
    have hb3 := hb2.trans (k2.mono hb2.size)
    exact hide ⟨(((C0.below hb).below k1).below k2), (((F0.below hb).below k1).below k2), k3, HV.out.below hb3, hb3⟩
  clear hb CC B0
  go_wp2_with fail
  obtain ⟨W2, hW2⟩ : ∃ Z, (w1.alloc (.cells #[.int .i64 0, .int .i64 0] 23)).alloc (.cells #[.int .i64 p, .int .i64 a, .int .i64 b] 36) = Z := ⟨_, rfl⟩
  obtain ⟨g, hg⟩ : ∃ g, w1.heap.size = g := ⟨_, rfl⟩
  rw [hW2, hg] at HM
  (try rw [hW2])
  (try rw [hg])
  clear hW2 hg
  go_loopw [29] (fun jv wr => ∃ j : Nat, jv = .int .i64 j ∧ j ≤ m ∧ Hid (LkM w wr (g + 1) p a b (.slice A m cp) L) ∧ Hid (offP p a b 0 L = offP p a b j (L.drop j))) (fun jv _ => 1001 - (intOf jv).toNat)
  case atStart => exact ⟨0, rfl, by omega, HM, hide rfl⟩
  case round =>
    clear HM
    obtain ⟨j, rfl, hj, HM, HO⟩ := hrel
    by_cases hjm : j < m
    · obtain ⟨P, hP⟩ : ∃ P, L[j]? = some P := ⟨_, List.getElem?_eq_getElem (by have := HM'.out; omega)⟩
      have HO2 := HO.out
      rw [offP_step hP] at HO2
      have HO3 := hide HO2
      obtain ⟨A', c', e', hat⟩ := HM.out.s.open_
      injection e' with e1 e2 e3
      subst e1 e3
      obtain ⟨gs, hgs, _, a1, a2, a3⟩ := hat j P hP
      subst hgs
      obtain ⟨k1, k2, k3⟩ := HM.out.k.three
      have klt := HM.out.k.lt
      have CP1 := fun W => CO P W
      obtain ⟨B, hB⟩ : ∃ B, decide (okC p.toNat a b P) = B := ⟨_, rfl⟩
      rw [hB] at HO3
      rw [hB] at CP1
      have q1 : (j : Int) < (m : Int) := by omega
      have w3 : IntKind.i64.wrap (3 + (j : Int)) = 3 + (j : Int) := by rw [IntKind.wrap_i64]; omega
      clear hat HO2 e2 HO CO hP hB
      go_wp2_with fail
      refine (CP1 _).out.mono ?_
      rintro e w4 ⟨rfl, hb⟩
      have HM2 := hide ((HM.out.below (bel_x _ (.cells #[.int .i64 P.x, .int .i64 P.y, .bool P.far] 33))).below hb)
      clear hb HM a1 a2 a3 k1 k2 k3
      cases B
      · clear CP1
        go_wp2_with fail
        refine (CF _ _).out.mono ?_
        rintro e w5 ⟨rfl, hb⟩
        have HM3 := hide (HM2.out.below hb)
        clear hb HM2
        obtain ⟨r1, r2, r3⟩ := lk_put HM3.out.c HM3.out.f HM3.out.b 0 0 0 10 (3 + (j : Int))
        have HR1 := hide r1
        have HR2 := hide r2
        have HR3 := hide r3
        obtain ⟨d0, d1, f0, f1⟩ := HM3.out.f.cells
        obtain ⟨e0, e1, e2⟩ := HM3.out.c.three
        have z0 := HM3.out.c.frozen 0
        have z1 := HM3.out.c.frozen 1
        have z2 := HM3.out.c.frozen 2
        obtain ⟨p0, p1, _, _⟩ := HR2.out.cells
        obtain ⟨s0, s1, s2⟩ := HR1.out.three
        clear r1 r2 r3
        go_wp2_with fail
        exact bodyPost_ret (v := .tuple #[.agg #[.int .i64 0, .int .i64 0, .int .i64 0], fv (10, 3 + (j : Int))]) (by simp [results, Tryz.results9, go_sem, fv, p0, p1, s0, s1, s2]) rfl ⟨by rw [HO3.out, if_neg (by simp), if_neg (by simp)]; rfl, HR3.out⟩
      · have HO4 : Hid (offP p a b 0 L = offP p a b (j + 1) (L.drop (j + 1))) := hide (by rw [HO3.out, if_pos rfl])
        clear CP1 HO3
        go_wp2_with fail
        go_roundw
        case rel => exact ⟨j + 1, by go_num, by omega, HM2, HO4⟩
        case measure => simp [intOf]; omega
    · obtain rfl : j = m := by omega
      have HE : Hid (offP p a b 0 L = (0, 0)) := hide (by rw [HO.out, ← HM'.out, List.drop_length]; rfl)
      obtain ⟨k1, k2, k3⟩ := HM.out.k.three
      obtain ⟨r1, r2, r3⟩ := lk_put HM.out.c HM.out.f HM.out.b p a b 0 0
      have HR1 := hide r1
      have HR2 := hide r2
      have HR3 := hide r3
      obtain ⟨d0, d1, f0, f1⟩ := HM.out.f.cells
      obtain ⟨e0, e1, e2⟩ := HM.out.c.three
      have z0 := HM.out.c.frozen 0
      have z1 := HM.out.c.frozen 1
      have z2 := HM.out.c.frozen 2
      obtain ⟨p0, p1, _, _⟩ := HR2.out.cells
      obtain ⟨s0, s1, s2⟩ := HR1.out.three
      clear r1 r2 r3 CO CF
      go_wp2_with fail
      exact bodyPost_ret (v := .tuple #[.agg #[.int .i64 p, .int .i64 a, .int .i64 b], fv (0, 0)]) (by simp [results, Tryz.results9, go_sem, fv, p0, p1, s0, s1, s2]) rfl ⟨by rw [HE.out]; rfl, HR3.out⟩

theorem clook_any (p a b : Int) (v : Value) (L : List CP) (w : World) (hT : TabW w) (hs : PtS w v L) (hl : L.length ≤ 1000) :
    Calls Tryz.prog 9 #[.int .i64 p, .int .i64 a, .int .i64 b, v] w (RetCurve w p a b (lookC p a b L)) := by
  rcases chk_cases p a b with h | ⟨c, k, h, hc⟩
  · unfold lookC
    rw [h.chk, if_neg (by simp)]
    exact look_ok p a b v L w hT hs h hl
  · unfold lookC
    rw [h, if_pos hc]
    exact look_bad p a b v L w hT hs c k h hc
end Go.Proofs.YtofjmnodfabohaaGreatDoor
