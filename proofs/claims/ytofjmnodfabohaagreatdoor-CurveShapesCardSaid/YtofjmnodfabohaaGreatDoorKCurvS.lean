/- The walks of curve.Shape (of a curve) and of curveBegun. -/
import Derived.Test.YtofjmnodfabohaaGreatDoorKCurvO
import Derived.Test.YtofjmnodfabohaaGreatDoorKCurvL
namespace Go.Proofs.YtofjmnodfabohaaGreatDoor
open Go.RowKit
open CV

/-- Shape's memory -/
structure ShM (w W : World) (g : Nat) (p a b : Int) : Prop where
  f : FC W w.heap.size 0 0
  c : KB W g #[.int .i64 p, .int .i64 a, .int .i64 b] 36
  n : w.heap.size < g
  b : Below w.heap.size w W
theorem ShM.below {w W W' : World} {g : Nat} {p a b : Int} (h : ShM w W g p a b) (k : Below W.heap.size W W') : ShM w W' g p a b := ⟨h.f.below k, h.c.below k, h.n, h.b.trans (k.mono h.b.size)⟩
theorem ShM.same {w W : World} {g : Nat} {p a b : Int} (h : ShM w W g p a b) : ShM w ((W.setCell ⟨w.heap.size, 0, none⟩ (.int .i64 0)).setCell ⟨w.heap.size, 1, none⟩ (.int .i64 0)) g p a b := by
  have := h.n
  exact ⟨(h.f.set0 0).set1 0, (h.c.far (by show g ≠ w.heap.size; omega) _).far (by show g ≠ w.heap.size; omega) _, h.n, below_fault h.b (Nat.le_refl _)⟩
/-- points, read -/
theorem pts_open {W : World} {base : Nat} {v : Value} {L : List CP} (h : PRowC W base v L) : PtS W v L := by
  obtain ⟨h1, h2 | ⟨g, cap, cur, rfl, h3, h4, h5, h6, h7, h8⟩⟩ := h
  · obtain ⟨rfl, h2⟩ := h2
    exact .inl ⟨List.length_eq_zero_iff.1 h2, rfl⟩
  · refine .inr ⟨g, cap, rfl, heap_lt h4, fun j P hj => ?_⟩
    have hcell : ∀ (i : Nat) (u : Value), (pcells L)[i]? = some u → W.cell? ⟨g, i, none⟩ = some u := fun i u hu => by
      rw [← h8, List.getElem?_take] at hu
      split at hu
      · rw [Array.getElem?_toList] at hu
        simp [World.cell?, h4, hu]
      · cases hu
    have hat : ∀ (L : List CP) (j : Nat), L[j]? = some P → (pcells L)[j * 3]? = some (.int .i64 P.x) ∧ (pcells L)[j * 3 + 1]? = some (.int .i64 P.y) ∧ (pcells L)[j * 3 + 2]? = some (.bool P.far) := by
      intro L
      induction L with
      | nil => intro j hj; simp at hj
      | cons Q L ih =>
        intro j hj
        have hp : pcells (Q :: L) = .int .i64 Q.x :: .int .i64 Q.y :: .bool Q.far :: pcells L := rfl
        rw [hp]
        match j, hj with
        | 0, hj =>
          injection hj with hj
          subst hj
          exact ⟨rfl, rfl, rfl⟩
        | j + 1, hj =>
          have := ih j hj
          rw [show (j + 1) * 3 = j * 3 + 3 by omega]
          exact this
    obtain ⟨k1, k2, k3⟩ := hat L j hj
    exact ⟨hcell _ _ k1, hcell _ _ k2, hcell _ _ k3⟩
/-- the greatest order so far -/
def MaxI (p : Nat) (a b : Int) (j m : Nat) : Prop := ((j = 0 ∧ m = 0) ∨ ∃ P ∈ (ptsC p a b).take j, IsOrd (addC p a) farC P m) ∧ ∀ P ∈ (ptsC p a b).take j, ∀ k, IsOrd (addC p a) farC P k → k ≤ m
theorem MaxI.next {p : Nat} {a b : Int} {j m n : Nat} {P : CP} (h : MaxI p a b j m) (hP : (ptsC p a b)[j]? = some P) (hn : IsOrd (addC p a) farC P n) : MaxI p a b (j + 1) (max m n) := by
  obtain ⟨h1, h2⟩ := h
  have ht : (ptsC p a b).take (j + 1) = (ptsC p a b).take j ++ [P] := by rw [List.take_add_one, hP]; rfl
  unfold MaxI
  rw [ht]
  refine ⟨.inr ?_, fun Q hQ k hk => ?_⟩
  · by_cases hmn : m ≤ n
    · exact ⟨P, by simp, by rw [Nat.max_eq_right hmn]; exact hn⟩
    · rcases h1 with ⟨_, h1⟩ | ⟨Q, hQ, hm⟩
      · omega
      · exact ⟨Q, by simp [hQ], by rw [Nat.max_eq_left (by omega)]; exact hm⟩
  · rcases List.mem_append.1 hQ with hQ | hQ
    · have := h2 Q hQ k hk
      omega
    · rw [List.mem_singleton] at hQ
      subst hQ
      have := hk.one hn
      omega
/-- what Shape answers of a curve -/
def RetShape (w : World) (p : Nat) (a b : Int) : Ending → World → Prop := fun e w' => ∃ m : Nat, MaxOrd p a b m ∧ 1 ≤ m ∧ e = .returned (.tuple #[.int .i64 (((ptsC p a b).length / m : Nat) : Int), .int .i64 (m : Int), fv (0, 0)]) ∧ Below w.heap.size w w'

set_option maxRecDepth 100000 in
set_option maxHeartbeats 6400000 in
theorem shape_any (p : Nat) (a b : Int) (w : World) (h : OkCv p a b) (hT : TabW w) :
    Calls Tryz.prog 4 #[.int .i64 (p : Int), .int .i64 a, .int .i64 b] w (RetShape w p a b) := by
  have CL := fun W (hW : TabW W) => hide (clook_any p a b (.slice none 0 0) [] W hW (.inl ⟨rfl, rfl⟩) (by simp))
  have hlk : lookC p a b [] = (0, 0) := by unfold lookC; rw [h.chk, if_neg (by simp)]; rfl
  rw [hlk] at CL
  have CPT := fun W => hide (points_any p a b W h)
  have h0 : 0 < p := by have := h.p1; omega
  have hlen : (ptsC p a b).length ≤ 5000000 := by
    have k1 := pts_len p a b
    have k2 : p * p ≤ 2000 * 2000 := Nat.mul_le_mul (by have := h.p2; omega) (by have := h.p2; omega)
    omega
  have CO := fun (P : CP) (hP : okC p a b P) W (hW : TabW W) => hide (corder_any p a b (ptsC p a b).length P W h hP (pts_pos p a b) (by omega) (pts_whole h hP) hW)
  have HCO := hide CO
  have HT := hide (hT.alloc (.cells #[.int .i64 0, .int .i64 0] 23))
  have HTW := hide hT
  have HLEN := hide hlen
  have HPOS := hide (pts_pos p a b)
  have HMEM := hide (fun (P : CP) => mem_pts h0 (a := a) (b := b) (P := P))
  unfold cvv at CPT
  clear h hT hlk CO hlen h0
  go_enter Tryz.func4, Tryz.ntmps4
  go_wp2_with fail
  refine (CL _ HT.out).out.mono ?_
  rintro e w1 ⟨rfl, hb⟩
  have HM : Hid (ShM w (w1.alloc (.cells #[.int .i64 (p : Int), .int .i64 a, .int .i64 b] 36)) w1.heap.size p a b) := by
    have F0 := (FC.fresh w).below hb
    have k1 := bel_x w1 (.cells #[.int .i64 (p : Int), .int .i64 a, .int .i64 b] 36)
    exact hide ⟨F0.below k1, KB.made w1 _ _, F0.lt, (below_new hb).trans (k1.mono (below_new hb).size)⟩
  clear hb CL
  rw [if_pos rfl]
  unfold cvv fv
  obtain ⟨d0, d1, f0, f1⟩ := HM.out.f.cells
  go_upto_region 2 with (fail)
  obtain ⟨W2, hW2⟩ : ∃ Z, (((w1.alloc (.cells #[.int .i64 (p : Int), .int .i64 a, .int .i64 b] 36)).setCell ⟨w.heap.size, 0, none⟩ (.int .i64 0)).setCell ⟨w.heap.size, 1, none⟩ (.int .i64 0)) = Z := ⟨_, rfl⟩
  obtain ⟨g, hg⟩ : ∃ Z, w1.heap.size = Z := ⟨_, rfl⟩
  have HM2 := hide HM.out.same
  rw [hW2, hg] at HM2
  rw [hW2]
  (try rw [hg])
  clear hW2 hg HM d0 d1 f0 f1 HT
  obtain ⟨d0, d1, _, _⟩ := HM2.out.f.cells
  obtain ⟨c0, c1, c2⟩ := HM2.out.c.three
  go_wp2_with fail
  refine (CPT _).out.mono ?_
  rintro e W3 ⟨v, rfl, hrow, hb⟩
  have HM3 := hide (HM2.out.below hb)
  have HS := hide (pts_open hrow)
  obtain ⟨A, cp, rfl⟩ := hrow.form
  clear hrow hb HM2 c0 c1 c2 d0 d1 CPT
  obtain ⟨n, hn⟩ : ∃ n, (ptsC p a b).length = n := ⟨_, rfl⟩
  have HNN := hide hn
  rw [hn] at HCO HLEN HPOS HS ⊢
  clear hn
  go_wp2_with fail
  go_loopw [28, 7] (fun jv mv wr => ∃ (j m : Nat) (mi : Int), jv = .int .i64 j ∧ mv = .int .i64 mi ∧ j ≤ n ∧ Hid (mi = (m : Int)) ∧ Hid (MaxI p a b j m) ∧ Hid (Below W3.heap.size W3 wr)) (fun jv _ _ => n - (intOf jv).toNat)
  case atStart => exact ⟨0, 0, 0, rfl, rfl, by omega, hide rfl, hide ⟨.inl ⟨rfl, rfl⟩, fun P hP => by simp at hP⟩, hide (Below.refl _ _)⟩
  case round =>
    obtain ⟨j, m, mi, rfl, rfl, hj, HMI, HI, HB⟩ := hrel
    have HMW := hide (HM3.out.below HB.out)
    obtain ⟨c0, c1, c2⟩ := HMW.out.c.three
    by_cases hjn : j < n
    · obtain ⟨P, hP⟩ : ∃ P, (ptsC p a b)[j]? = some P := ⟨_, List.getElem?_eq_getElem (by rw [HNN.out]; exact hjn)⟩
      have HPJ := hide hP
      obtain ⟨A', c', e', hat⟩ := (HS.out.below HB.out).open_
      rw [HNN.out] at e'
      injection e' with e1 e2 e3
      subst e1 e3
      obtain ⟨gs, hgs, hgl, a1, a2, a3⟩ := hat j P hP
      subst hgs
      have hgw := HMW.out.c.lt
      have q1 : (j : Int) < (n : Int) := by omega
      have hok := (HMEM.out P).1 (List.mem_of_getElem? hP)
      have hbl := (HMW.out.b).trans ((bel_x wr (.cells #[.int .i64 P.x, .int .i64 P.y, .bool P.far] 33)).mono HMW.out.b.size)
      have CO := hide (HCO.out P hok (wr.alloc (.cells #[.int .i64 P.x, .int .i64 P.y, .bool P.far] 33)) (HTW.out.below hbl)).out
      have HB2 := hide (HB.out.trans ((bel_x wr (.cells #[.int .i64 P.x, .int .i64 P.y, .bool P.far] 33)).mono HB.out.size))
      have HJN := hide hjn
      have HJ5 : j ≤ 5000000 := by have := HLEN.out; omega
      unfold cvv ptv at CO
      clear hP hat hok hbl e2 hjn hj HB HMW
      go_wp2_with fail
      refine CO.out.mono ?_
      rintro e w5 ⟨k, rfl, hk, hb⟩
      have HB5 := hide (HB2.out.trans (hb.mono HB2.out.size))
      have HI5 := hide (HI.out.next HPJ.out hk)
      have hmx : ((max m k : Nat) : Int) = max mi (k : Int) := by rw [HMI.out]; omega
      have HMX := hide hmx
      clear hb hk hmx a1 a2 a3 c0 c1 c2 HI HB2 CO
      obtain ⟨ki, hki⟩ : ∃ v : Int, (k : Int) = v := ⟨_, rfl⟩
      rw [hki] at HMX ⊢
      clear hki
      rcases (by omega : (mi ≤ ki ∧ max mi ki = ki) ∨ (ki < mi ∧ max mi ki = mi)) with ⟨h1, h2⟩ | ⟨h1, h2⟩
      all_goals
        have HM5 : Hid (max mi ki = ((max m k : Nat) : Int)) := hide HMX.out.symm
        rw [h2] at HM5
        go_wp2_with fail
        go_roundw
        case rel => exact ⟨j + 1, max m k, _, by go_num, rfl, by have := HJN.out; omega, HM5, HI5, HB5⟩
        case measure => have := HJN.out; simp [intOf]; omega
    · have hje : j = n := by omega
      have HI2 := HI.out
      rw [hje] at HI2
      have hmo : MaxOrd p a b m ∧ 1 ≤ m := by
        obtain ⟨k1, k2⟩ := HI2
        rw [← HNN.out, List.take_length] at k1 k2
        rcases k1 with ⟨k1, _⟩ | ⟨P, hP, hm⟩
        · have := HPOS.out
          have := HNN.out
          omega
        · exact ⟨⟨⟨P, hP, hm⟩, k2⟩, hm.1⟩
      have HMO := hide hmo
      have hm1 := hmo.2
      have hmi : mi ≠ 0 := by have := HMI.out; omega
      have hmd : decide (mi = 0) = false := by simpa using hmi
      have hln := HLEN.out
      have hdl := Nat.div_le_self n m
      obtain ⟨d, hd⟩ : ∃ d, n / m = d := ⟨_, rfl⟩
      obtain ⟨qi, hqi⟩ : ∃ v : Int, (d : Int) = v := ⟨_, rfl⟩
      have hq : (n : Int).tdiv mi = qi := by rw [HMI.out, ← hqi, ← hd]; rfl
      rw [hd] at hdl
      have wq : IntKind.i64.wrap qi = qi := by rw [IntKind.wrap_i64]; omega
      have HQI := hide (And.intro hd hqi)
      have K := fun (W : World) (h : ShM w W g p a b) => hide (show (W.cell? ⟨w.heap.size, 0, none⟩ = some (.int .i64 0) ∧ W.cell? ⟨w.heap.size, 1, none⟩ = some (.int .i64 0) ∧ W.frozen? ⟨w.heap.size, 0, none⟩ = false ∧ W.frozen? ⟨w.heap.size, 1, none⟩ = false) ∧ Hid (ShM w W g p a b) from ⟨h.f.cells, hide h⟩)
      obtain ⟨⟨d0, d1, f0, f1⟩, _⟩ := (K _ HMW.out).out
      clear HI2 hmo hm1 hln hdl hd hqi HI HB c0 c1 c2 hj
      go_wp2_with fail
      go_region_held3 (fun W => (W.cell? ⟨w.heap.size, 0, none⟩ = some (.int .i64 0) ∧ W.cell? ⟨w.heap.size, 1, none⟩ = some (.int .i64 0) ∧ W.frozen? ⟨w.heap.size, 0, none⟩ = false ∧ W.frozen? ⟨w.heap.size, 1, none⟩ = false) ∧ Hid (ShM w W g p a b)) (first | exact (K _ (HMW.out.below (below_drewN (Below.refl _ _) 1))).out | exact (K _ HMW.out.same).out | exact (K _ (HMW.out.same.below (below_drewN (Below.refl _ _) 1))).out | exact (K _ (HMW.out.below (below_drewN (Below.refl _ _) 1)).same).out) (fail)
      all_goals
        have HE := hide (HMW.out.same.below (below_drewN (Below.refl _ _) 1))
        obtain ⟨W7, hW7⟩ : ∃ Z, (((wr.setCell ⟨w.heap.size, 0, none⟩ (.int .i64 0)).setCell ⟨w.heap.size, 1, none⟩ (.int .i64 0)).drew) = Z := ⟨_, rfl⟩
        rw [hW7]
        have HE2 : Hid (ShM w W7 g p a b) := hide (by rw [← hW7]; exact HE.out)
        clear hW7 HE K d0 d1 f0 f1 HMW
        obtain ⟨p0, p1, _, _⟩ := HE2.out.f.cells
        go_wp2_with fail
        exact bodyPost_ret (v := .tuple #[.int .i64 qi, .int .i64 mi, fv (0, 0)]) (by simp [results, Tryz.results4, go_sem, fv, p0, p1]) rfl ⟨m, HMO.out.1, HMO.out.2, by rw [HNN.out, HQI.out.1, HQI.out.2, HMI.out], HE2.out.b⟩

set_option maxRecDepth 100000 in
set_option maxHeartbeats 1600000 in
theorem curveBegun_any (w : World) (hT : TabW w) :
    Calls Tryz.prog 6 #[] w fun e w' => e = .returned (.bool true) ∧ Below w.heap.size w w' := by
  have o1 : OkCv 5 1 1 := ⟨by omega, by omega, prB_true (pr_chk (by omega) (by decide +kernel)), by omega, by omega, by omega, by omega, by decide⟩
  have o2 : OkCv 7 0 2 := ⟨by omega, by omega, prB_true (pr_chk (by omega) (by decide +kernel)), by omega, by omega, by omega, by omega, by decide⟩
  have C1 := hide (shape_any 5 1 1 w o1 hT)
  have C2 := fun W (hW : TabW W) => hide (shape_any 7 0 2 W o2 hW)
  have HT := hide hT
  have HO1 := hide o1
  clear hT o1 o2
  go_enter Tryz.func6, Tryz.ntmps6
  go_wp2_with fail
  refine C1.out.mono ?_
  rintro e w1 ⟨m, hm, _, rfl, hb⟩
  obtain ⟨hl, rfl⟩ := max_511 hm HO1.out
  rw [hl, show (((9 / 9 : Nat)) : Int) = 1 from rfl, show (((9 : Nat)) : Int) = 9 from rfl]
  unfold fv
  have F1 := hide (FC.made w1 0 0)
  have HB1 := hide (hb.trans ((bel_x w1 (.cells #[.int .i64 0, .int .i64 0] 23)).mono hb.size))
  have HT1 := hide (HT.out.below HB1.out)
  clear hm hb hl
  go_wp2_with fail
  refine (C2 _ HT1.out).out.mono ?_
  rintro e w2 ⟨m, hm, _, rfl, hb⟩
  obtain ⟨hl, rfl⟩ := max_702 hm
  rw [hl, show (((9 / 3 : Nat)) : Int) = 3 from rfl]
  unfold fv
  have F2 := (F1.out.below hb).below (bel_x w2 (.cells #[.int .i64 0, .int .i64 0] 23))
  have F3 := FC.made w2 0 0
  have HB2 := hide ((HB1.out.trans (hb.mono HB1.out.size)).trans ((bel_x w2 (.cells #[.int .i64 0, .int .i64 0] 23)).mono (HB1.out.trans (hb.mono HB1.out.size)).size))
  obtain ⟨a0, a1, _, _⟩ := F2.cells
  obtain ⟨b0, b1, _, _⟩ := F3.cells
  clear hm hb hl
  go_wp2_with fail
  go_ret
  exact ⟨rfl, HB2.out⟩
end Go.Proofs.YtofjmnodfabohaaGreatDoor
