/- The walk of curve.points. -/
import Derived.Test.YtofjmnodfabohaaGreatDoorKCurvP
import Derived.Deep.LoopGhost
import Derived.Deep.RegionLaw
import Derived.Deep.Onto
namespace Go.Proofs.YtofjmnodfabohaaGreatDoor
open Go.RowKit
open CV

theorem info_partsC {P : Program} {e : TypeId} {z : Value} {size bytes : Nat} (h : (P.info? e).map (fun i => (i.zero, i.size, i.bytes)) = some (some z, size, bytes)) : ∃ i, P.info? e = some i ∧ i.zero = some z ∧ i.size = size ∧ i.bytes = bytes := by
  obtain ⟨i, hi, hzz⟩ := Option.map_eq_some_iff.1 h
  simp only [Prod.mk.injEq] at hzz
  exact ⟨i, hi, hzz.1, hzz.2.1, hzz.2.2⟩

set_option maxRecDepth 100000 in
set_option maxHeartbeats 6400000 in
theorem points_any (p : Nat) (a b : Int) (w : World) (h : OkCv p a b) :
    Calls Tryz.prog 10 #[cvv p a b] w (RetPts w p a b) := by
  have hmk := run_make_row' (P := Tryz.prog) 45 46 (.slice none 0 0) 24 Tryz.underlying45 sinfoC rfl .i64 .i64 p (by have := h.p2; omega) (by have := h.p2; omega)
  have CAT := fun (x : Nat) (hx : x < p) W => hide (at_any p a b x W h (by omega))
  have HCAT := hide CAT
  have hp1 := h.p1
  have hp2 := h.p2
  have H1 := hide (Pt1.start w p a b)
  have HOK := hide h
  obtain ⟨i0, e1, e2, e3, e4⟩ := info_partsC iinfoC
  have HI := hide (And.intro e1 (And.intro e2 (And.intro e3 e4)))
  clear h CAT e1 e2 e3 e4
  unfold cvv
  go_enter Tryz.func10, Tryz.ntmps10
  go_upto_region 2 with (fail)
  obtain ⟨W1, hW1⟩ : ∃ Z, ((w.alloc (.cells #[.int .i64 (p : Nat), .int .i64 a, .int .i64 b] 36)).alloc (.cells (madeCells #[.slice none 0 0] p) 46)) = Z := ⟨_, rfl⟩
  rw [hW1] at H1 ⊢
  clear hW1 hmk
  obtain ⟨c0, c1, c2⟩ := H1.out.c.three
  go_wp2_with fail
  clear c0 c1 c2
  go_loopw [14] (fun yv wr => ∃ y : Nat, yv = .int .i64 y ∧ y ≤ p ∧ Hid (Pt1 w wr p y a b)) (fun yv _ => p - (intOf yv).toNat)
  case atStart => exact ⟨0, rfl, by omega, H1⟩
  case round =>
    clear H1
    obtain ⟨y, rfl, hy, H1⟩ := hrel
    by_cases hyp : y < p
    · obtain ⟨c0, c1, c2⟩ := H1.out.c.three
      have hip : y * y % p < p := Nat.mod_lt _ (by omega)
      obtain ⟨rv, r0, r1, r2, r3⟩ := H1.out.r.at_ hip
      have HS := hide (rootsL_succ p y)
      have e0 := mul_le2 (x := (y : Int)) (y := (y : Int)) (p := 2000) (q := 2000) (by omega) (by omega) (by omega) (by omega)
      have w1 : IntKind.i64.wrap ((y : Int) * (y : Int)) = (y : Int) * (y : Int) := by rw [IntKind.wrap_i64]; omega
      have hr : ((y : Int) * (y : Int)).tmod (p : Int) = ((y * y % p : Nat) : Int) := by rw [tmod_emod e0.1]; simp
      have hl := rootsL_len p y (y * y % p)
      obtain ⟨i, hi⟩ : ∃ i, y * y % p = i := ⟨_, rfl⟩
      rw [hi] at hip r0 r1 r2 r3 HS hr hl
      obtain ⟨F, hF⟩ : ∃ F, rootsL p y i = F := ⟨_, rfl⟩
      rw [hF] at r2 r3 hl
      have HR3 := hide r3
      have HR2 := hide r2
      have I1 : (0 : Int) ≤ (i : Int) := by omega
      have I2 : (i : Int) < (p : Int) := by omega
      have I3 : (i : Int) ≤ (p : Int) := by omega
      have U := Tryz.underlying46
      have hp0 : (p : Int) ≠ 0 := by omega
      have hp0' : p ≠ 0 := by omega
      have HL : Hid (F.length ≤ 2000) := hide (by omega)
      have HNE : Hid (some (w.heap.size + 1) ≠ rv.ownBlock) := hide (fun e => by have := (HR2.out.lt _ e.symm).1; omega)
      have HRV : Hid (∀ k, rv.ownBlock = some k → w.heap.size + 1 + 1 ≤ k) := hide (fun k hk => (HR2.out.lt k hk).1)
      have HNE2 : Hid (some w.heap.size ≠ rv.ownBlock) := hide (fun e => by have := (HR2.out.lt _ e.symm).1; omega)
      have HCC := hide c0
      have HC0 := hide r0
      have HZ0 := hide r1
      have hgl : w.heap.size + 1 < wr.heap.size := H1.out.r.lt
      have hgc : w.heap.size < wr.heap.size := by omega
      have KB1 := hide (below_drewN (bel_x wr (.cells #[.int .i64 (y : Nat)] 3)) 1)
      have HYP := hide hyp
      have q1 : decide ((y : Int) < (p : Int)) = true := by rw [decide_eq_true_eq]; omega
      have q2 : decide (y < p) = true := by rw [decide_eq_true_eq]; omega
      have wy : IntKind.i64.wrap ((y : Int) + 1) = (y : Int) + 1 := by rw [IntKind.wrap_i64]; omega
      have c0' : (wr.alloc (.cells #[.int .i64 (y : Nat)] 3)).drew.cell? ⟨w.heap.size, 0, none⟩ = some (.int .i64 (p : Nat)) := (KB1.out.cell (p := ⟨w.heap.size, 0, none⟩) hgc).trans c0
      have r0' : (wr.alloc (.cells #[.int .i64 (y : Nat)] 3)).drew.cell? ⟨w.heap.size + 1, i, none⟩ = some rv := (KB1.out.cell (p := ⟨w.heap.size + 1, i, none⟩) hgl).trans r0
      clear r2 r3 hl hi hF e0 hyp hy
      go_wp2_with fail
      go_region_law ((refine step_append_lies _ (by rfl) _ _ _ (by rfl) (w.heap.size + 1 + 1) 3 i0 _ 1 8 U HI.out.1 HI.out.2.1 HI.out.2.2.1 HI.out.2.2.2 rfl (by omega) rv F.length (nats F) (by rfl) (own_belC HR2.out (below_drewN (bel_x wr (.cells #[.int .i64 (y : Nat)] 3)) 1)) ⟨wr.heap.size, 0, none⟩ 1 1 [.int .i64 (y : Nat)] (by rfl) (by rfl) (World.news_of_block (cs := #[.int .i64 (y : Nat)]) (t := 3) (fr := (0, 0)) (heap_alloc_new wr _)) (by simp [Value.oneCell']) (by omega) (by have := HL.out; simp only [maxLen]; omega) (by have := HL.out; omega) (by have := H1.out.r.lt; simp; omega) (wr.heap.size + 1) (by simp) ?_; intro gg cap w5 hown1 hgrow hat hlt; have c5 := (hgrow.cell_far ⟨w.heap.size + 1, i, none⟩ (by simp; omega) HNE.out).trans ((KB1.out.cell (p := ⟨w.heap.size + 1, i, none⟩) hgl).trans HC0.out); have d5 := (hgrow.cell_far ⟨w.heap.size, 0, none⟩ (by simp; omega) HNE2.out).trans ((KB1.out.cell (p := ⟨w.heap.size, 0, none⟩) hgc).trans HCC.out); have z5 := (hgrow.frozen_far ⟨w.heap.size + 1, i, none⟩ (by simp; omega) HNE.out).trans ((World.frozen?_of_block (KB1.out.block _ hgl)).trans HZ0.out)))
      all_goals
        have HN := hide (Pt1.step (y' := y + 1) H1.out KB1.out hgrow HRV.out (by rw [HS.out]; exact HR3.out _ _ _ _ _ KB1.out hgrow (hat.imp_right fun e => e.trans (World.size_alloc ..).symm) (by rw [nats_app]; exact hown1)))
        clear H1 hown1 hgrow hat hlt c5 z5 d5 c0' r0' HR3 HR2 HCC HC0 HZ0 HNE HNE2 KB1 hgl hgc c0 c1 c2 r0 r1 HCAT
        go_wp2_with fail
        go_roundw
        case rel => exact ⟨y + 1, by go_num, by have := HYP.out; omega, HN⟩
        case measure => have := HYP.out; simp [intOf]; omega
    · have hyp2 : y = p := by omega
      rw [hyp2] at H1
      have q1 : decide ((y : Int) < (p : Int)) = false := by rw [decide_eq_false_iff_not]; omega
      have q2 : decide (y < p) = false := by rw [decide_eq_false_iff_not]; omega
      obtain ⟨W2, rfl⟩ : ∃ Z, Z = wr := ⟨_, rfl⟩
      obtain ⟨c0, c1, c2⟩ := H1.out.c.three
      have hgc : w.heap.size < W2.heap.size := H1.out.c.lt
      obtain ⟨i1, e1, e2, e3, e4⟩ := info_partsC ptinfo
      have HJ := hide (And.intro e1 (And.intro e2 (And.intro e3 e4)))
      have HP0 := hide (PRowC.start W2)
      have HB0 := hide (bel_x W2 (.cells #[.int .i64 0, .int .i64 0, .bool true] 33))
      clear hy hyp hyp2 HI e1 e2 e3 e4
      go_wp2_with fail
      clear c0 c1 c2 q1 q2
      go_loopw [42, 5] (fun xv ov wq => ∃ x : Nat, xv = .int .i64 x ∧ x ≤ p ∧ Hid (PRowC wq W2.heap.size ov (ptsN p a b x)) ∧ Hid (Below W2.heap.size W2 wq)) (fun xv _ _ => p - (intOf xv).toNat)
      case atStart => exact ⟨0, rfl, by omega, HP0, HB0⟩
      case round =>
        clear HP0 HB0
        obtain ⟨x, rfl, hx, HP, HB⟩ := hrel
        by_cases hxp : x < p
        · obtain ⟨c0, c1, c2⟩ := (H1.out.c.below HB.out).three
          have CA := HCAT.out x hxp
          unfold cvv at CA
          have hv0 := Int.emod_nonneg ((x : Int) * x * x + a * x + b) (show (p : Int) ≠ 0 by omega)
          have hv1 := Int.emod_lt_of_pos ((x : Int) * x * x + a * x + b) (show 0 < (p : Int) by omega)
          have HRP := hide (show rowP p a b x = (rootsL p p (((x : Int) * x * x + a * x + b) % p).toNat).map (fun y => (⟨(x : Nat), (y : Nat), false⟩ : CP)) from rfl)
          obtain ⟨v, hv⟩ : ∃ v : Nat, ((x : Int) * x * x + a * x + b) % (p : Int) = (v : Int) := ⟨_, (Int.toNat_of_nonneg hv0).symm⟩
          rw [hv] at CA hv1 HRP
          rw [show ((v : Nat) : Int).toNat = v from rfl] at HRP
          obtain ⟨rv, r0, _, r2, _⟩ := H1.out.r.at_ (show v < p by omega)
          obtain ⟨F, hF⟩ : ∃ F, rootsL p p v = F := ⟨_, rfl⟩
          have hFl := rootsL_len p p v
          rw [hF] at HRP r2 hFl
          obtain ⟨A, cp, rfl, hat⟩ := nats_open r2
          have HAT := hide hat
          have hgr : w.heap.size + 1 < W2.heap.size := H1.out.r.lt
          have HR0 := hide r0
          have HXP := hide hxp
          have I1 : (0 : Int) ≤ (v : Int) := by omega
          have I2 : (v : Int) < (p : Int) := by omega
          have HFL := hide hFl
          have q1 : decide ((x : Int) < (p : Int)) = true := by rw [decide_eq_true_eq]; omega
          have q2 : decide (x < p) = true := by rw [decide_eq_true_eq]; omega
          clear hv0 hv1 hv hF hFl r2 hat r0 hx hxp
          go_wp2_with fail
          refine (CA _).out.mono ?_
          rintro e w6 ⟨rfl, hb⟩
          have HP6 := hide (HP.out.below hb)
          have HB6 := hide (HB.out.trans (hb.mono HB.out.size))
          have r6 : w6.cell? ⟨w.heap.size + 1, v, none⟩ = some (.slice A F.length cp) := (HB6.out.cell (p := ⟨w.heap.size + 1, v, none⟩) hgr).trans HR0.out
          clear hb HP HB c0 c1 c2 CA
          go_wp2_with fail
          clear r6 q1 q2
          go_loopw [52, 5] (fun jv ov wz => ∃ j : Nat, jv = .int .i64 j ∧ j ≤ F.length ∧ Hid (PRowC wz W2.heap.size ov (ptsN p a b x ++ (F.take j).map fun y => (⟨(x : Nat), (y : Nat), false⟩ : CP))) ∧ Hid (Below W2.heap.size W2 wz)) (fun jv _ _ => F.length - (intOf jv).toNat)
          case atStart => exact ⟨0, rfl, by omega, hide (by simpa using HP6.out), HB6⟩
          case round =>
            clear HP6 HB6
            obtain ⟨j, rfl, hj, HP, HB⟩ := hrel
            by_cases hjF : j < F.length
            · obtain ⟨y, hy⟩ : ∃ y, F[j]? = some y := ⟨_, List.getElem?_eq_getElem hjF⟩
              obtain ⟨gh, rfl, hgl, hcell⟩ := HAT.out j y hy
              have cy := (HB.out.cell (p := ⟨gh, j, none⟩) hgl).trans hcell
              have HTK : Hid ((F.take (j + 1)).map (fun y => (⟨(x : Nat), (y : Nat), false⟩ : CP)) = (F.take j).map (fun y => (⟨(x : Nat), (y : Nat), false⟩ : CP)) ++ [⟨(x : Nat), (y : Nat), false⟩]) := hide (by rw [List.take_add_one, hy]; simp)
              have HLN : Hid ((ptsN p a b x ++ (F.take j).map fun y => (⟨(x : Nat), (y : Nat), false⟩ : CP)).length ≤ 10000000) := hide (by
                rw [List.length_append, List.length_map, List.length_take]
                have k1 := ptsN_len p a b x
                have k2 : x * p ≤ 2000 * 2000 := Nat.mul_le_mul (by have := HXP.out; omega) (by omega)
                have := HFL.out
                omega)
              obtain ⟨L, hL⟩ : ∃ L, ptsN p a b x ++ (F.take j).map (fun y => (⟨(x : Nat), (y : Nat), false⟩ : CP)) = L := ⟨_, rfl⟩
              have HLL := hide hL
              rw [hL] at HP HLN
              have HPX : Hid (PRowC (wr.alloc (.cells #[.int .i64 (x : Nat), .int .i64 (y : Nat), .bool false] 33)) W2.heap.size u5 L) := HP.out.below (bel_x _ _)
              have q1 : (j : Int) < (F.length : Int) := by omega
              have HJF := hide hjF
              have U := Tryz.underlying28
              clear hy hcell hL hjF hj
              go_wp2_with (at_builtin; refine wpList_append_own _ rfl _ _ 28 rfl W2.heap.size 33 i1 (.agg #[.int .i64 0, .int .i64 0, .bool false]) 3 24 U HJ.out.1 HJ.out.2.1 HJ.out.2.2.1 HJ.out.2.2.2 rfl (by decide) u5 _ _ rfl HPX.out ⟨wr.heap.size, 0, none⟩ 1 1 [.int .i64 (x : Nat), .int .i64 (y : Nat), .bool false] rfl rfl (three_newC _ _ _ _ _) ?c2 ?c3 ?c4 ?c5 ?_)
              case c2 => intro u hu; simp at hu; rcases hu with rfl | rfl | rfl <;> rfl
              case c3 => have := HLN.out; simp only [maxLen]; omega
              case c4 => have := HLN.out; omega
              case c5 => have := HB.out.size; simp; omega
              intro v' w8 hown hg _
              have HP8 : Hid (PRowC w8 W2.heap.size v' (ptsN p a b x ++ (F.take (j + 1)).map fun y => (⟨(x : Nat), (y : Nat), false⟩ : CP))) := hide (by
                rw [HTK.out, ← List.append_assoc, HLL.out]
                unfold PRowC
                rw [pcells_app, List.length_append]
                exact hown)
              have HB8 : Hid (Below W2.heap.size W2 w8) := hide ((HB.out.trans ((bel_x wr (.cells #[.int .i64 (x : Nat), .int .i64 (y : Nat), .bool false] 33)).mono HB.out.size)).grown hg (by have := HB.out.size; simp; omega) (fun k hk => (HPX.out.lt k hk).1))
              clear hown hg HP HB HPX cy
              have jb : j ≤ 5000 := by have := HJF.out; have := HFL.out; omega
              go_wp2_with fail
              go_roundw
              case rel => exact ⟨j + 1, by go_num, by have := HJF.out; omega, HP8, HB8⟩
              case measure => have := HJF.out; simp [intOf]; omega
            · have hje : j = F.length := by omega
              have HP9 : Hid (PRowC wr W2.heap.size u5 (ptsN p a b (x + 1))) := hide (by
                rw [ptsN_succ, HRP.out]
                have := HP.out
                rwa [hje, List.take_length] at this)
              clear HP
              have xb : x ≤ 5000 := by have := HXP.out; omega
              go_wp2_with fail
              go_roundw
              case rel => exact ⟨x + 1, by go_num, by have := HXP.out; omega, HP9, HB⟩
              case measure => have := HXP.out; simp [intOf]; omega
        · have hxe : x = p := by omega
          have q1 : decide ((x : Int) < (p : Int)) = false := by rw [decide_eq_false_iff_not]; omega
          have q2 : decide (x < p) = false := by rw [decide_eq_false_iff_not]; omega
          have HPE : Hid (PRowC wr w.heap.size u5 (ptsC p a b)) := hide (by
            have := HP.out
            rw [hxe] at this
            exact World.ownsRow.mono this (by omega))
          have HBE := hide (H1.out.b.trans (HB.out.mono H1.out.b.size))
          clear hxe hxp hx HP HB
          go_wp2_with fail
          go_ret
          exact ⟨u5, rfl, HPE.out, HBE.out⟩
end Go.Proofs.YtofjmnodfabohaaGreatDoor
