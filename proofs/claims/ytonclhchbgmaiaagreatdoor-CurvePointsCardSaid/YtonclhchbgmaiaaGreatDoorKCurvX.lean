/- The walk of the law's offCurve. -/
import Derived.Test.YtonclhchbgmaiaaGreatDoorKCurvW
namespace Go.Proofs.YtonclhchbgmaiaaGreatDoor
open Go.RowKit
open CV

/-- offCurve's memory -/
structure OfM (w W : World) (g : Nat) (v : Value) (L : List CP) (c k : Int) : Prop where
  f : FC W w.heap.size 0 0
  r : FC W g c k
  s : PtS W v L
  b : Below w.heap.size w W
theorem OfM.below {w W W' : World} {g : Nat} {v : Value} {L : List CP} {c k : Int} (h : OfM w W g v L c k) (hb : Below W.heap.size W W') : OfM w W' g v L c k :=
  ⟨h.f.below hb, h.r.below hb, h.s.below hb, h.b.trans (hb.mono h.b.size)⟩
theorem OfM.put {w W : World} {g : Nat} {v : Value} {L : List CP} {c k : Int} (h : OfM w W g v L c k) (h0 : PtS w v L) (hg : w.heap.size < g) (c' k' : Int) :
    OfM w ((W.setCell ⟨g, 0, none⟩ (.int .i64 c')).setCell ⟨g, 1, none⟩ (.int .i64 k')) g v L c' k' := by
  have b1 := h.b.setCell (p := ⟨g, 0, none⟩) (by show w.heap.size ≤ g; omega) (.int .i64 c')
  have b2 := b1.setCell (p := ⟨g, 1, none⟩) (by show w.heap.size ≤ g; omega) (.int .i64 k')
  refine ⟨?_, (h.r.set0 c').set1 k', h0.below b2, b2⟩
  exact (Below.heap_setCell _ ⟨g, 1, none⟩ _ _ (by show w.heap.size ≠ g; omega)).trans ((Below.heap_setCell _ ⟨g, 0, none⟩ _ _ (by show w.heap.size ≠ g; omega)).trans h.f)

/-- what offCurve answers -/
def RetOff (w : World) (F : Int × Int) : Ending → World → Prop := fun e w' => e = .returned (fv F) ∧ Below w.heap.size w w'

set_option maxRecDepth 100000 in
set_option maxHeartbeats 3200000 in
theorem off_bad (p a b : Int) (v : Value) (L : List CP) (w : World) (hs : PtS w v L) (c k : Int) (hck : chkC p a b = (c, k)) (hc : c ≠ 0) :
    Calls Tryz.prog 13 #[.int .i64 p, .int .i64 a, .int .i64 b, v] w (RetOff w (c, k)) := by
  have CC := fun W => hide (rcf_any p a b W)
  obtain ⟨A, cp, hv, _⟩ := hs.open_
  subst hv
  have hcb : (c == 0) = false := by simpa using hc
  rw [hck] at CC
  simp only [fv] at CC
  clear hs hck hc
  go_enter Tryz.func13, Tryz.ntmps13
  go_wp2_with fail
  refine (CC _).out.mono ?_
  rintro e w1 ⟨rfl, hb⟩
  have F0 := (FC.fresh w).below hb
  have hlt := F0.lt
  have HF := hide (F0.below (bel_x w1 (.cells #[.int .i64 c, .int .i64 k] 23)))
  have HG := hide (FC.made w1 c k)
  have HB := hide ((below_new hb).trans ((bel_x w1 (.cells #[.int .i64 c, .int .i64 k] 23)).mono (below_new hb).size))
  obtain ⟨W2, hW2⟩ : ∃ Z, w1.alloc (.cells #[.int .i64 c, .int .i64 k] 23) = Z := ⟨_, rfl⟩
  obtain ⟨g, hg⟩ : ∃ Z, w1.heap.size = Z := ⟨_, rfl⟩
  rw [hW2] at HF HG HB
  rw [hg] at HG hlt
  obtain ⟨h0, h1, _, _⟩ := HG.out.cells
  obtain ⟨d0, d1, f0, f1⟩ := HF.out.cells
  clear hb F0 CC
  go_wp2_with fail
  (try rw [hW2])
  (try rw [hg])
  clear hW2 hg
  obtain ⟨p0, p1⟩ := HF.out.put c k
  have HB2 : Hid (Below w.heap.size w ((W2.setCell ⟨w.heap.size, 0, none⟩ (.int .i64 c)).setCell ⟨w.heap.size, 1, none⟩ (.int .i64 k))) := hide (below_fault HB.out (Nat.le_refl _))
  clear HB HF HG
  obtain ⟨m, hm⟩ : ∃ m, L.length = m := ⟨_, rfl⟩
  rw [hm]
  clear hm
  go_loopw [10] (fun jv wr => jv = .int .i64 0 ∧ wr = W2) (fun _ _ => 1)
  case atStart => exact ⟨rfl, rfl⟩
  case round =>
    obtain ⟨rfl, rfl⟩ := hrel
    by_cases hjm : 0 < m
    · have q1 : (0 : Int) < (m : Int) := by omega
      go_wp2_with fail
      exact bodyPost_ret (v := .agg #[.int .i64 c, .int .i64 k]) (by simp [results, Tryz.results13, go_sem, p0, p1]) rfl ⟨rfl, HB2.out⟩
    · obtain rfl : m = 0 := by omega
      go_wp2_with fail
      exact bodyPost_ret (v := .agg #[.int .i64 c, .int .i64 k]) (by simp [results, Tryz.results13, go_sem, p0, p1]) rfl ⟨rfl, HB2.out⟩

set_option maxRecDepth 100000 in
set_option maxHeartbeats 3200000 in
theorem off_ok (p a b : Int) (v : Value) (L : List CP) (w : World) (hs : PtS w v L) (hok : OkCv p a b) (hl : L.length ≤ 1000) :
    Calls Tryz.prog 13 #[.int .i64 p, .int .i64 a, .int .i64 b, v] w (RetOff w (offP p a b 0 L)) := by
  have CC := fun W => hide (rcf_any p a b W)
  have CO := fun P W => hide (rOn_any p a b P W hok)
  rw [hok.chk] at CC
  simp only [fv] at CC
  have CF := fun n W => hide (refF_any 10 n W)
  unfold ptv at CO
  obtain ⟨A, cp, hv, _⟩ := hs.open_
  have HV := hide hs
  rw [hv] at HV
  subst hv
  obtain ⟨m, hm⟩ : ∃ m, L.length = m := ⟨_, rfl⟩
  have HM' := hide hm
  rw [hm] at HV hl ⊢
  clear hs hm hok
  go_enter Tryz.func13, Tryz.ntmps13
  go_wp2_with fail
  refine (CC _).out.mono ?_
  rintro e w1 ⟨rfl, hb⟩
  have F0 := (FC.fresh w).below hb
  have hlt := F0.lt
  have HM : Hid (OfM w (w1.alloc (.cells #[.int .i64 0, .int .i64 0] 23)) w1.heap.size (.slice A m cp) L 0 0) := by
    have HB := (below_new hb).trans ((bel_x w1 (.cells #[.int .i64 0, .int .i64 0] 23)).mono (below_new hb).size)
    exact hide ⟨F0.below (bel_x w1 (.cells #[.int .i64 0, .int .i64 0] 23)), FC.made w1 0 0, HV.out.below HB, HB⟩
  obtain ⟨W2, hW2⟩ : ∃ Z, w1.alloc (.cells #[.int .i64 0, .int .i64 0] 23) = Z := ⟨_, rfl⟩
  obtain ⟨g, hg⟩ : ∃ Z, w1.heap.size = Z := ⟨_, rfl⟩
  rw [hW2, hg] at HM
  rw [hg] at hlt
  have HW2 := hide hW2
  clear hb F0 CC hW2
  go_wp2_with fail
  (try rw [HW2.out])
  (try rw [hg])
  clear HW2 hg
  have HLT := hide hlt
  clear hlt
  go_loopw [10] (fun jv wr => ∃ (j : Nat) (c k : Int), jv = .int .i64 j ∧ j ≤ m ∧ Hid (OfM w wr g (.slice A m cp) L c k) ∧ Hid ((c = 0 ∧ k = 0 ∧ offP p a b 0 L = offP p a b j (L.drop j)) ∨ (c = 10 ∧ offP p a b 0 L = (c, k)))) (fun jv _ => 1001 - (intOf jv).toNat)
  case atStart => exact ⟨0, 0, 0, rfl, by omega, HM, hide (.inl ⟨rfl, rfl, rfl⟩)⟩
  case round =>
    clear HM
    obtain ⟨j, c, k, rfl, hj, HM, HO⟩ := hrel
    rcases HO.out with ⟨rfl, rfl, HO1⟩ | ⟨rfl, HO1⟩
    · by_cases hjm : j < m
      · obtain ⟨P, hP⟩ : ∃ P, L[j]? = some P := ⟨_, List.getElem?_eq_getElem (by have := HM'.out; omega)⟩
        have HO2 := HO1
        rw [offP_step hP] at HO2
        have HO3 := hide HO2
        obtain ⟨A', c', e', hat⟩ := HM.out.s.open_
        injection e' with e1 e2 e3
        subst e1 e3
        obtain ⟨gs, hgs, _, a1, a2, a3⟩ := hat j P hP
        subst hgs
        obtain ⟨h0, h1, h2, h3⟩ := HM.out.r.cells
        have CP1 := fun W => CO P W
        obtain ⟨B, hB⟩ : ∃ B, decide (okC p.toNat a b P) = B := ⟨_, rfl⟩
        rw [hB] at HO3
        rw [hB] at CP1
        have q1 : (j : Int) < (m : Int) := by omega
        have w3 : IntKind.i64.wrap (3 + (j : Int)) = 3 + (j : Int) := by rw [IntKind.wrap_i64]; omega
        clear hat HO2 e2 HO CO hP hB HO1
        go_wp2_with fail
        refine (CP1 _).out.mono ?_
        rintro e w4 ⟨rfl, hb⟩
        have HM2 := hide (HM.out.below hb)
        clear hb HM a1 a2 a3 h0 h1 h2 h3
        cases B
        · clear CP1
          go_wp2_with fail
          refine (CF _ _).out.mono ?_
          rintro e w5 ⟨rfl, hb⟩
          have HM3 := hide (HM2.out.below hb)
          clear hb HM2
          have HM4 := hide (HM3.out.put HV.out HLT.out 10 (3 + (j : Int)))
          obtain ⟨h0, h1, f0, f1⟩ := HM3.out.r.cells
          obtain ⟨W6, hW6⟩ : ∃ Z, (w5.setCell ⟨g, 0, none⟩ (.int .i64 10)).setCell ⟨g, 1, none⟩ (.int .i64 (3 + (j : Int))) = Z := ⟨_, rfl⟩
          rw [hW6] at HM4
          go_wp2_with fail
          (try rw [hW6])
          clear hW6 h0 h1 f0 f1 HM3
          have HO4 : Hid (offP p a b 0 L = (10, 3 + (j : Int))) := hide (by rw [HO3.out, if_neg (by simp)])
          go_roundw
          case rel => exact ⟨j + 1, 10, 3 + (j : Int), by go_num, by omega, HM4, hide (.inr ⟨rfl, HO4.out⟩)⟩
          case measure => simp [intOf]; omega
        · have HO4 : Hid (offP p a b 0 L = offP p a b (j + 1) (L.drop (j + 1))) := hide (by rw [HO3.out, if_pos rfl])
          clear CP1 HO3
          go_wp2_with fail
          go_roundw
          case rel => exact ⟨j + 1, 0, 0, by go_num, by omega, HM2, hide (.inl ⟨rfl, rfl, HO4.out⟩)⟩
          case measure => simp [intOf]; omega
      · obtain rfl : j = m := by omega
        have HE : Hid (offP p a b 0 L = (0, 0)) := hide (by rw [HO1, ← HM'.out, List.drop_length]; rfl)
        clear HO HO1
        obtain ⟨h0, h1, h2, h3⟩ := HM.out.r.cells
        obtain ⟨d0, d1, f0, f1⟩ := HM.out.f.cells
        obtain ⟨p0, p1⟩ := HM.out.f.put 0 0
        have HB2 : Hid (Below w.heap.size w ((wr.setCell ⟨w.heap.size, 0, none⟩ (.int .i64 0)).setCell ⟨w.heap.size, 1, none⟩ (.int .i64 0))) := hide (below_fault HM.out.b (Nat.le_refl _))
        clear CO CF HM
        go_wp2_with fail
        exact bodyPost_ret (v := .agg #[.int .i64 0, .int .i64 0]) (by simp [results, Tryz.results13, go_sem, p0, p1]) rfl ⟨by rw [HE.out]; rfl, HB2.out⟩
    · have HE : Hid (offP p a b 0 L = (10, k)) := hide HO1
      obtain ⟨h0, h1, h2, h3⟩ := HM.out.r.cells
      obtain ⟨d0, d1, f0, f1⟩ := HM.out.f.cells
      obtain ⟨p0, p1⟩ := HM.out.f.put 10 k
      have HB2 : Hid (Below w.heap.size w ((wr.setCell ⟨w.heap.size, 0, none⟩ (.int .i64 10)).setCell ⟨w.heap.size, 1, none⟩ (.int .i64 k))) := hide (below_fault HM.out.b (Nat.le_refl _))
      clear CO CF HM HO HO1
      by_cases hjm : j < m
      · have q1 : (j : Int) < (m : Int) := by omega
        go_wp2_with fail
        exact bodyPost_ret (v := .agg #[.int .i64 10, .int .i64 k]) (by simp [results, Tryz.results13, go_sem, p0, p1]) rfl ⟨by rw [HE.out]; rfl, HB2.out⟩
      · obtain rfl : j = m := by omega
        go_wp2_with fail
        exact bodyPost_ret (v := .agg #[.int .i64 10, .int .i64 k]) (by simp [results, Tryz.results13, go_sem, p0, p1]) rfl ⟨by rw [HE.out]; rfl, HB2.out⟩

theorem offCurve_any (p a b : Int) (v : Value) (L : List CP) (w : World) (hs : PtS w v L) (hl : L.length ≤ 1000) :
    Calls Tryz.prog 13 #[.int .i64 p, .int .i64 a, .int .i64 b, v] w (RetOff w (lookC p a b L)) := by
  rcases chk_cases p a b with h | ⟨c, k, h, hc⟩
  · unfold lookC
    rw [h.chk, if_neg (by simp)]
    exact off_ok p a b v L w hs h hl
  · unfold lookC
    rw [h, if_pos hc]
    exact off_bad p a b v L w hs c k h hc
end Go.Proofs.YtonclhchbgmaiaaGreatDoor
