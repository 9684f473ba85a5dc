/- The walk of the reference's FracFault. -/
import Derived.Test.YtojehmmkdkfkjaaGreatDoorKPathW
import Derived.Test.YtojehmmkdkfkjaaGreatDoorK0
import Derived.Deep.LoopGhost
namespace Go.Proofs.YtojehmmkdkfkjaaGreatDoor
open Go.RowKit

set_option maxRecDepth 100000 in
set_option maxHeartbeats 3200000 in
theorem fracFault_any (a b : Int) (w : World) :
    Calls Tryz.prog 5 #[.agg #[.int .i64 a, .int .i64 b]] w (RetFault w (fracF a b)) := by
  have S0 := hide (FrSt.start w a b)
  have C3 := fun W => hide (refF_any 3 0 W)
  have C6 := fun W => hide (refF_any 6 0 W)
  have Ca := fun W => hide (number_any a W)
  have Cb := fun W => hide (number_any b W)
  cases hoa : okB a
  · have HR : Hid (fracF a b = (3, 0)) := by unfold Hid fracF; rw [if_pos (.inl hoa)]
    rw [hoa] at Ca
    obtain ⟨k0, k1, hlt⟩ := S0.out.cells
    clear hoa
    go_enter Tryz.func5, Tryz.ntmps5
    go_wp2_with fail
    refine (Ca _).out.mono ?_
    rintro e w1 ⟨rfl, rfl⟩
    go_wp2_with fail
    refine (C3 _).out.mono ?_
    rintro e w2 ⟨rfl, hb⟩
    have S2 := hide (S0.out.below hb)
    obtain ⟨d0, d1, f0, f1⟩ := S2.out.f.cells
    obtain ⟨p0, p1, p2⟩ := S2.out.put 3 0
    have HP := hide p2
    clear hb p2
    go_wp2_with fail
    exact bodyPost_ret (v := fv (3, 0)) (by simp [results, Tryz.results5, go_sem, fv, p0, p1]) rfl ⟨by rw [HR.out], HP.out⟩
  · rw [hoa] at Ca
    cases hob : okB b
    · have HR : Hid (fracF a b = (3, 0)) := by unfold Hid fracF; rw [if_pos (.inr hob)]
      rw [hob] at Cb
      obtain ⟨k0, k1, hlt⟩ := S0.out.cells
      clear hoa hob
      go_enter Tryz.func5, Tryz.ntmps5
      go_wp2_with fail
      refine (Ca _).out.mono ?_
      rintro e w1 ⟨rfl, rfl⟩
      go_wp2_with fail
      refine (Cb _).out.mono ?_
      rintro e w1 ⟨rfl, rfl⟩
      go_wp2_with fail
      refine (C3 _).out.mono ?_
      rintro e w2 ⟨rfl, hb⟩
      have S2 := hide (S0.out.below hb)
      obtain ⟨d0, d1, f0, f1⟩ := S2.out.f.cells
      obtain ⟨p0, p1, p2⟩ := S2.out.put 3 0
      have HP := hide p2
      clear hb p2
      go_wp2_with fail
      exact bodyPost_ret (v := fv (3, 0)) (by simp [results, Tryz.results5, go_sem, fv, p0, p1]) rfl ⟨by rw [HR.out], HP.out⟩
    · rw [hob] at Cb
      have la := ok_lims hoa
      have lb := ok_lims hob
      by_cases hb1 : b < 1
      · have HR : Hid (fracF a b = (6, 0)) := by unfold Hid fracF; rw [if_neg (by rw [hoa, hob]; simp), if_pos (.inl hb1)]
        have q1 : decide (b < 1) = true := by simpa using hb1
        obtain ⟨k0, k1, hlt⟩ := S0.out.cells
        clear hoa hob la lb
        go_enter Tryz.func5, Tryz.ntmps5
        go_wp2_with fail
        refine (Ca _).out.mono ?_
        rintro e w1 ⟨rfl, rfl⟩
        go_wp2_with fail
        refine (Cb _).out.mono ?_
        rintro e w1 ⟨rfl, rfl⟩
        go_wp2_with fail
        refine (C6 _).out.mono ?_
        rintro e w2 ⟨rfl, hb⟩
        have S2 := hide (S0.out.below hb)
        obtain ⟨d0, d1, f0, f1⟩ := S2.out.f.cells
        obtain ⟨p0, p1, p2⟩ := S2.out.put 6 0
        have HP := hide p2
        clear hb p2
        go_wp2_with fail
        exact bodyPost_ret (v := fv (6, 0)) (by simp [results, Tryz.results5, go_sem, fv, p0, p1]) rfl ⟨by rw [HR.out], HP.out⟩
      · have q1 : decide (b < 1) = false := by simpa using hb1
        have CG := fun W => hide (refGcd_any a b W (by omega) (by omega) (by omega) (by omega))
        by_cases hg : Int.gcd a b = 1
        · have HR : Hid (fracF a b = (0, 0)) := by unfold Hid fracF; rw [if_neg (by rw [hoa, hob]; simp), if_neg (by omega)]
          rw [hg] at CG
          obtain ⟨k0, k1, hlt⟩ := S0.out.cells
          obtain ⟨d0, d1, f0, f1⟩ := S0.out.f.cells
          obtain ⟨p0, p1, p2⟩ := S0.out.put 0 0
          have HP := hide p2
          clear hoa hob la lb hb1 hg p2
          go_enter Tryz.func5, Tryz.ntmps5
          go_wp2_with fail
          refine (Ca _).out.mono ?_
          rintro e w1 ⟨rfl, rfl⟩
          go_wp2_with fail
          refine (Cb _).out.mono ?_
          rintro e w1 ⟨rfl, rfl⟩
          go_wp2_with fail
          refine (CG _).out.mono ?_
          rintro e w1 ⟨rfl, rfl⟩
          go_wp2_with fail
          exact bodyPost_ret (v := fv (0, 0)) (by simp [results, Tryz.results5, go_sem, fv]) rfl ⟨by rw [HR.out], S0.out.b⟩
        · have HR : Hid (fracF a b = (6, 0)) := by unfold Hid fracF; rw [if_neg (by rw [hoa, hob]; simp), if_pos (.inr hg)]
          obtain ⟨G, hG⟩ : ∃ G : Nat, Int.gcd a b = G := ⟨_, rfl⟩
          rw [hG] at CG hg
          have q2 : ((G : Int) != 1) = true := by simp; omega
          obtain ⟨k0, k1, hlt⟩ := S0.out.cells
          clear hoa hob la lb hb1 hG
          go_enter Tryz.func5, Tryz.ntmps5
          go_wp2_with fail
          refine (Ca _).out.mono ?_
          rintro e w1 ⟨rfl, rfl⟩
          go_wp2_with fail
          refine (Cb _).out.mono ?_
          rintro e w1 ⟨rfl, rfl⟩
          go_wp2_with fail
          refine (CG _).out.mono ?_
          rintro e w1 ⟨rfl, rfl⟩
          go_wp2_with fail
          refine (C6 _).out.mono ?_
          rintro e w2 ⟨rfl, hb⟩
          have S2 := hide (S0.out.below hb)
          obtain ⟨d0, d1, f0, f1⟩ := S2.out.f.cells
          obtain ⟨p0, p1, p2⟩ := S2.out.put 6 0
          have HP := hide p2
          clear hb p2
          go_wp2_with fail
          exact bodyPost_ret (v := fv (6, 0)) (by simp [results, Tryz.results5, go_sem, fv, p0, p1]) rfl ⟨by rw [HR.out], HP.out⟩
end Go.Proofs.YtojehmmkdkfkjaaGreatDoor
