/- The walk of the document's CurvePoints, for p up to 60. -/
import Derived.Test.YtonclhchbgmaiaaGreatDoorKHasE
namespace Go.Proofs.YtonclhchbgmaiaaGreatDoor
open Go.RowKit
open CV

/-- a row's points up to y -/
def rowY (p : Nat) (a b : Int) (x y : Nat) : List CP := (rootsL p y (((x : Int) * x * x + a * x + b) % p).toNat).map fun y => ⟨(x : Nat), (y : Nat), false⟩
theorem rowY_len (p : Nat) (a b : Int) (x y : Nat) : (rowY p a b x y).length ≤ y := by
  unfold rowY
  rw [List.length_map]
  exact rootsL_len _ _ _
theorem rowY_yes {p : Nat} {a b : Int} {x y : Nat} (h : okC p a b ⟨(x : Nat), (y : Nat), false⟩) : rowY p a b x (y + 1) = rowY p a b x y ++ [⟨(x : Nat), (y : Nat), false⟩] := by
  obtain ⟨_, _, h3⟩ := h.near rfl
  have hv : (((x : Int) * x * x + a * x + b) % p).toNat = y * y % p := by
    have h4 : (y : Int) * (y : Int) % p = ((x : Int) * x * x + a * x + b) % p := h3
    rw [← h4, ← Int.natCast_mul, ← Int.natCast_emod]
    rfl
  unfold rowY
  rw [rootsL_succ, hv]
  unfold upd
  rw [if_pos rfl, List.map_append]
  rfl
theorem rowY_no {p : Nat} {a b : Int} {x y : Nat} (hx : x < p) (hy : y < p) (h : ¬ okC p a b ⟨(x : Nat), (y : Nat), false⟩) : rowY p a b x (y + 1) = rowY p a b x y := by
  have hv : (((x : Int) * x * x + a * x + b) % p).toNat ≠ y * y % p := by
    intro e
    apply h
    unfold okC
    rw [if_neg (by simp)]
    refine ⟨⟨by show (0 : Int) ≤ (x : Int); omega, by show (x : Int) < p; omega⟩, ⟨by show (0 : Int) ≤ (y : Int); omega, by show (y : Int) < p; omega⟩, ?_⟩
    show (y : Int) * (y : Int) % p = ((x : Int) * x * x + a * x + b) % p
    have h0 := Int.emod_nonneg ((x : Int) * x * x + a * x + b) (show (p : Int) ≠ 0 by omega)
    rw [← Int.natCast_mul, ← Int.natCast_emod, ← e, Int.toNat_of_nonneg h0]
  unfold rowY
  rw [rootsL_succ]
  unfold upd
  rw [if_neg hv]

set_option maxRecDepth 100000 in
set_option maxHeartbeats 6400000 in
theorem rpts_any (p : Nat) (a b : Int) (w : World) (h : OkCv p a b) (hp60 : p ≤ 60) :
    Calls Tryz.prog 11 #[.int .i64 (p : Int), .int .i64 a, .int .i64 b] w (RetPts w p a b) := by
  have CON := hide (fun (P : CP) W => rOn_any (p : Int) a b P W h)
  have H1 := hide (PRowC.start w)
  have HB1 := hide (bel_x w (.cells #[.int .i64 0, .int .i64 0, .bool true] 30))
  obtain ⟨i1, e1, e2, e3, e4⟩ := info_partsC ptinfo
  have HJ := hide (And.intro e1 (And.intro e2 (And.intro e3 e4)))
  have hp0 : 0 < p := by have := h.p1; omega
  have HP0 := hide hp0
  clear h e1 e2 e3 e4 hp0
  go_enter Tryz.func11, Tryz.ntmps11
  go_wp2_with fail
  go_loopw [8, 7] (fun xv ov wr => ∃ x : Nat, xv = .int .i64 x ∧ x ≤ p ∧ Hid (PRowC wr w.heap.size ov (ptsN p a b x)) ∧ Hid (Below w.heap.size w wr)) (fun xv _ _ => p - (intOf xv).toNat)
  case atStart => exact ⟨0, rfl, by omega, H1, HB1⟩
  case round =>
    clear H1 HB1
    obtain ⟨x, rfl, hx, HP, HB⟩ := hrel
    by_cases hxp : x < p
    · have HXP := hide hxp
      have q1 : decide ((x : Int) < (p : Int)) = true := by rw [decide_eq_true_eq]; omega
      have q2 : decide (x < p) = true := by rw [decide_eq_true_eq]; omega
      have HPY : Hid (PRowC wr w.heap.size u7 (ptsN p a b x ++ rowY p a b x 0)) := hide (by have := HP.out; rwa [show ptsN p a b x ++ rowY p a b x 0 = ptsN p a b x by simp [rowY, rootsL]])
      clear hxp hx HP
      go_wp2_with fail
      clear q1 q2
      go_loopw [9, 7] (fun yv ov wz => ∃ y : Nat, yv = .int .i64 y ∧ y ≤ p ∧ Hid (PRowC wz w.heap.size ov (ptsN p a b x ++ rowY p a b x y)) ∧ Hid (Below w.heap.size w wz)) (fun yv _ _ => p - (intOf yv).toNat)
      case atStart => exact ⟨0, rfl, by omega, HPY, HB⟩
      case round =>
        clear HPY HB
        obtain ⟨y, rfl, hy, HP, HB⟩ := hrel
        by_cases hyp : y < p
        · have HYP := hide hyp
          have q1 : decide ((y : Int) < (p : Int)) = true := by rw [decide_eq_true_eq]; omega
          have q2 : decide (y < p) = true := by rw [decide_eq_true_eq]; omega
          have KQ := hide (KB.made wr #[.int .i64 (x : Nat), .int .i64 (y : Nat), .bool false] 30)
          have HPX : Hid (PRowC (wr.alloc (.cells #[.int .i64 (x : Nat), .int .i64 (y : Nat), .bool false] 30)) w.heap.size u7 (ptsN p a b x ++ rowY p a b x y)) := HP.out.below (bel_x _ _)
          have HBX := hide (HB.out.trans ((bel_x wr (.cells #[.int .i64 (x : Nat), .int .i64 (y : Nat), .bool false] 30)).mono HB.out.size))
          have C1 := hide (CON.out ⟨(x : Nat), (y : Nat), false⟩ (wr.alloc (.cells #[.int .i64 (x : Nat), .int .i64 (y : Nat), .bool false] 30)))
          unfold ptv at C1
          have hgl : wr.heap.size < (wr.alloc (.cells #[.int .i64 (x : Nat), .int .i64 (y : Nat), .bool false] 30)).heap.size := by simp
          obtain ⟨c0, c1, c2⟩ := KQ.out.three
          clear hyp hy HP
          go_wp2_with fail
          refine C1.out.mono ?_
          rintro e w5 ⟨rfl, hb⟩
          have HPY := hide (HPX.out.below hb)
          have HBY := hide (HBX.out.trans (hb.mono HBX.out.size))
          have KQ2 := hide (KQ.out.below hb)
          have HGL := hide hgl
          clear hb HPX HBX KQ C1 hgl c0 c1 c2
          obtain ⟨c0, c1, c2⟩ := KQ2.out.three
          obtain ⟨g, hg⟩ : ∃ g, wr.heap.size = g := ⟨_, rfl⟩
          rw [hg] at c0 c1 c2 KQ2
          (try rw [hg])
          have HG : Hid (w.heap.size ≤ g) := hide (by rw [← hg]; exact HB.out.size)
          clear hg HGL
          by_cases hok : okC p a b ⟨(x : Nat), (y : Nat), false⟩
          · have HR := hide (rowY_yes hok)
            have d1 : decide (okC (p : Int).toNat a b ⟨(x : Nat), (y : Nat), false⟩) = true := decide_eq_true hok
            rw [d1]
            have HLN : Hid ((ptsN p a b x ++ rowY p a b x y).length ≤ 10000) := hide (by
              rw [List.length_append]
              have k1 := ptsN_len p a b x
              have k2 : x * p ≤ 60 * 60 := Nat.mul_le_mul (by have := HXP.out; omega) (by omega)
              have k3 := rowY_len p a b x y
              have := HYP.out
              omega)
            obtain ⟨L, hL⟩ : ∃ L, ptsN p a b x ++ rowY p a b x y = L := ⟨_, rfl⟩
            have HLL := hide hL
            rw [hL] at HPY HLN
            have HPX : Hid (PRowC (w5.alloc (.cells #[.int .i64 (x : Nat), .int .i64 (y : Nat), .bool false] 30)) w.heap.size u7 L) := HPY.out.below (bel_x _ _)
            have U := Tryz.underlying25
            clear hok d1 hL
            go_wp2_with (at_builtin; refine wpList_append_own _ rfl _ _ 25 rfl w.heap.size 30 i1 (.agg #[.int .i64 0, .int .i64 0, .bool false]) 3 24 U HJ.out.1 HJ.out.2.1 HJ.out.2.2.1 HJ.out.2.2.2 rfl (by decide) u7 _ _ rfl HPX.out ⟨w5.heap.size, 0, none⟩ 1 1 [.int .i64 (x : Nat), .int .i64 (y : Nat), .bool false] rfl rfl (three_newC _ _ _ _ _) ?c2 ?c3 ?c4 ?c5 ?_)
            case c2 => intro u hu; simp at hu; rcases hu with rfl | rfl | rfl <;> rfl
            case c3 => have := HLN.out; simp only [maxLen]; omega
            case c4 => have := HLN.out; omega
            case c5 => have := HBY.out.size; simp; omega
            intro v' w8 hown hg _
            have HP8 : Hid (PRowC w8 w.heap.size v' (ptsN p a b x ++ rowY p a b x (y + 1))) := hide (by
              rw [HR.out, ← List.append_assoc, HLL.out]
              unfold PRowC
              rw [pcells_app, List.length_append]
              exact hown)
            have HB8 : Hid (Below w.heap.size w w8) := hide ((HBY.out.trans ((bel_x w5 (.cells #[.int .i64 (x : Nat), .int .i64 (y : Nat), .bool false] 30)).mono HBY.out.size)).grown hg (by have := HBY.out.size; simp; omega) (fun k hk => (HPX.out.lt k hk).1))
            clear hown hg HPY HBY HPX c0 c1 c2 KQ2 HB
            have jb : y ≤ 5000 := by have := HYP.out; omega
            go_wp2_with fail
            go_roundw
            case rel => exact ⟨y + 1, by go_num, by have := HYP.out; omega, HP8, HB8⟩
            case measure => have := HYP.out; simp [intOf]; omega
          · have HR := hide (rowY_no HXP.out HYP.out hok)
            have d1 : decide (okC (p : Int).toNat a b ⟨(x : Nat), (y : Nat), false⟩) = false := decide_eq_false hok
            rw [d1]
            have HP8 : Hid (PRowC w5 w.heap.size u7 (ptsN p a b x ++ rowY p a b x (y + 1))) := hide (by rw [HR.out]; exact HPY.out)
            clear hok d1 HPY c0 c1 c2 KQ2 HB
            have jb : y ≤ 5000 := by have := HYP.out; omega
            go_wp2_with fail
            go_roundw
            case rel => exact ⟨y + 1, by go_num, by have := HYP.out; omega, HP8, HBY⟩
            case measure => have := HYP.out; simp [intOf]; omega
        · have hye : y = p := by omega
          have q1 : decide ((y : Int) < (p : Int)) = false := by rw [decide_eq_false_iff_not]; omega
          have q2 : decide (y < p) = false := by rw [decide_eq_false_iff_not]; omega
          have HP9 : Hid (PRowC wr w.heap.size u7 (ptsN p a b (x + 1))) := hide (by
            rw [ptsN_succ]
            have := HP.out
            rwa [hye] at this)
          have xb : x ≤ 5000 := by have := HXP.out; omega
          clear hye hyp hy HP
          go_wp2_with fail
          go_roundw
          case rel => exact ⟨x + 1, by go_num, by have := HXP.out; omega, HP9, HB⟩
          case measure => have := HXP.out; simp [intOf]; omega
    · have hxe : x = p := by omega
      have q1 : decide ((x : Int) < (p : Int)) = false := by rw [decide_eq_false_iff_not]; omega
      have q2 : decide (x < p) = false := by rw [decide_eq_false_iff_not]; omega
      have HPE : Hid (PRowC wr w.heap.size u7 (ptsC p a b)) := hide (by
        have := HP.out
        rwa [hxe] at this)
      clear hxe hxp hx HP
      go_wp2_with fail
      go_ret
      exact ⟨u7, rfl, HPE.out, HB.out⟩
end Go.Proofs.YtonclhchbgmaiaaGreatDoor
