/- The walks of the answers' FracFault and Steps. -/
import Derived.Test.YticgnjapgbjfiaaDoorPathW
import Derived.Test.YticgnjapgbjfiaaDoorOwn
import Derived.Deep.LoopGhost
namespace Go.Proofs.YticgnjapgbjfiaaDoor
open Go.RowKit

set_option maxRecDepth 100000 in
set_option maxHeartbeats 3200000 in
theorem fracFault_any (a b : Int) (w : World) :
    Calls Tryd.prog 33 #[.agg #[.int .i64 a, .int .i64 b]] w (RetFault w (fracF a b)) := by
  have S0 := hide (FrSt.start w a b)
  have C3 := fun W => hide (refF_any 3 0 W)
  have C6 := fun W => hide (refF_any 6 0 W)
  have Ca := fun W => hide (number_any a W)
  have Cb := fun W => hide (number_any b W)
  cases hoa : okB a
  · have HR : Hid (fracF a b = (3, 0)) := by unfold Hid fracF; rw [if_pos (.inl hoa)]
    rw [hoa] at Ca
    obtain ⟨k0, k1, hlt⟩ := S0.out.cells
    clear hoa
    go_enter Tryd.func33, Tryd.ntmps33
    go_wp2_with fail
    refine (Ca _).out.mono ?_
    rintro e w1 ⟨rfl, rfl⟩
    go_wp2_with fail
    refine (C3 _).out.mono ?_
    rintro e w2 ⟨rfl, hb⟩
    have S2 := hide (S0.out.below hb)
    obtain ⟨d0, d1, f0, f1⟩ := S2.out.f.cells
    obtain ⟨p0, p1, p2⟩ := S2.out.put 3 0
    have HP := hide p2
    clear hb p2
    go_wp2_with fail
    exact bodyPost_ret (v := fv (3, 0)) (by simp [results, Tryd.results33, go_sem, fv, p0, p1]) rfl ⟨by rw [HR.out], HP.out⟩
  · rw [hoa] at Ca
    cases hob : okB b
    · have HR : Hid (fracF a b = (3, 0)) := by unfold Hid fracF; rw [if_pos (.inr hob)]
      rw [hob] at Cb
      obtain ⟨k0, k1, hlt⟩ := S0.out.cells
      clear hoa hob
      go_enter Tryd.func33, Tryd.ntmps33
      go_wp2_with fail
      refine (Ca _).out.mono ?_
      rintro e w1 ⟨rfl, rfl⟩
      go_wp2_with fail
      refine (Cb _).out.mono ?_
      rintro e w1 ⟨rfl, rfl⟩
      go_wp2_with fail
      refine (C3 _).out.mono ?_
      rintro e w2 ⟨rfl, hb⟩
      have S2 := hide (S0.out.below hb)
      obtain ⟨d0, d1, f0, f1⟩ := S2.out.f.cells
      obtain ⟨p0, p1, p2⟩ := S2.out.put 3 0
      have HP := hide p2
      clear hb p2
      go_wp2_with fail
      exact bodyPost_ret (v := fv (3, 0)) (by simp [results, Tryd.results33, go_sem, fv, p0, p1]) rfl ⟨by rw [HR.out], HP.out⟩
    · rw [hob] at Cb
      have la := ok_lims hoa
      have lb := ok_lims hob
      by_cases hb1 : b < 1
      · have HR : Hid (fracF a b = (6, 0)) := by unfold Hid fracF; rw [if_neg (by rw [hoa, hob]; simp), if_pos (.inl hb1)]
        have q1 : decide (b < 1) = true := by simpa using hb1
        obtain ⟨k0, k1, hlt⟩ := S0.out.cells
        clear hoa hob la lb
        go_enter Tryd.func33, Tryd.ntmps33
        go_wp2_with fail
        refine (Ca _).out.mono ?_
        rintro e w1 ⟨rfl, rfl⟩
        go_wp2_with fail
        refine (Cb _).out.mono ?_
        rintro e w1 ⟨rfl, rfl⟩
        go_wp2_with fail
        refine (C6 _).out.mono ?_
        rintro e w2 ⟨rfl, hb⟩
        have S2 := hide (S0.out.below hb)
        obtain ⟨d0, d1, f0, f1⟩ := S2.out.f.cells
        obtain ⟨p0, p1, p2⟩ := S2.out.put 6 0
        have HP := hide p2
        clear hb p2
        go_wp2_with fail
        exact bodyPost_ret (v := fv (6, 0)) (by simp [results, Tryd.results33, go_sem, fv, p0, p1]) rfl ⟨by rw [HR.out], HP.out⟩
      · have q1 : decide (b < 1) = false := by simpa using hb1
        have CG := fun W => hide (refGcd_any a b W (by omega) (by omega) (by omega) (by omega))
        by_cases hg : Int.gcd a b = 1
        · have HR : Hid (fracF a b = (0, 0)) := by unfold Hid fracF; rw [if_neg (by rw [hoa, hob]; simp), if_neg (by omega)]
          rw [hg] at CG
          obtain ⟨k0, k1, hlt⟩ := S0.out.cells
          obtain ⟨d0, d1, f0, f1⟩ := S0.out.f.cells
          obtain ⟨p0, p1, p2⟩ := S0.out.put 0 0
          have HP := hide p2
          clear hoa hob la lb hb1 hg p2
          go_enter Tryd.func33, Tryd.ntmps33
          go_wp2_with fail
          refine (Ca _).out.mono ?_
          rintro e w1 ⟨rfl, rfl⟩
          go_wp2_with fail
          refine (Cb _).out.mono ?_
          rintro e w1 ⟨rfl, rfl⟩
          go_wp2_with fail
          refine (CG _).out.mono ?_
          rintro e w1 ⟨rfl, rfl⟩
          go_wp2_with fail
          exact bodyPost_ret (v := fv (0, 0)) (by simp [results, Tryd.results33, go_sem, fv]) rfl ⟨by rw [HR.out], S0.out.b⟩
        · have HR : Hid (fracF a b = (6, 0)) := by unfold Hid fracF; rw [if_neg (by rw [hoa, hob]; simp), if_pos (.inr hg)]
          obtain ⟨G, hG⟩ : ∃ G : Nat, Int.gcd a b = G := ⟨_, rfl⟩
          rw [hG] at CG hg
          have q2 : ((G : Int) != 1) = true := by simp; omega
          obtain ⟨k0, k1, hlt⟩ := S0.out.cells
          clear hoa hob la lb hb1 hG
          go_enter Tryd.func33, Tryd.ntmps33
          go_wp2_with fail
          refine (Ca _).out.mono ?_
          rintro e w1 ⟨rfl, rfl⟩
          go_wp2_with fail
          refine (Cb _).out.mono ?_
          rintro e w1 ⟨rfl, rfl⟩
          go_wp2_with fail
          refine (CG _).out.mono ?_
          rintro e w1 ⟨rfl, rfl⟩
          go_wp2_with fail
          refine (C6 _).out.mono ?_
          rintro e w2 ⟨rfl, hb⟩
          have S2 := hide (S0.out.below hb)
          obtain ⟨d0, d1, f0, f1⟩ := S2.out.f.cells
          obtain ⟨p0, p1, p2⟩ := S2.out.put 6 0
          have HP := hide p2
          clear hb p2
          go_wp2_with fail
          exact bodyPost_ret (v := fv (6, 0)) (by simp [results, Tryd.results33, go_sem, fv, p0, p1]) rfl ⟨by rw [HR.out], HP.out⟩

theorem quots_le : ∀ (f a b : Nat), quots f a b ≤ a + b := by
  intro f
  induction f with
  | zero => intro a b; simp [quots]
  | succ f ih =>
    intro a b
    rw [quots]
    split
    · omega
    · rename_i h
      have h1 := ih b (a % b)
      have h2 := Nat.div_add_mod a b
      have h3 : a / b ≤ b * (a / b) := Nat.le_mul_of_pos_left _ (by omega)
      omega
theorem quot_le (a b : Nat) : quot a b ≤ a + b := quots_le _ a b
theorem big18 {z : Int} (h : z.natAbs ≤ 10000000000000000000) : z.natAbs < lim := lim_256 (by omega)

set_option maxRecDepth 100000 in
set_option maxHeartbeats 3200000 in
theorem steps_any (A0 B0 : Nat) (w : World) (hA0 : A0 ≤ 1000000000000000000) (hB0 : B0 ≤ 1000000000000000000) :
    Calls Tryd.prog 39 #[.agg #[.int .i64 A0, .int .i64 B0]] w (RetNew w ((quot A0 B0 : Int) - 1)) := by
  have hx := heap_alloc_new w (.cells #[.int .i64 A0, .int .i64 B0] 49)
  have HX := hide hx
  have HB0 := hide (bel_f w (.cells #[.int .i64 A0, .int .i64 B0] 49))
  obtain ⟨W0, hW0⟩ : ∃ W, w.alloc (.cells #[.int .i64 A0, .int .i64 B0] 49) = W := ⟨_, rfl⟩
  have hsz : w.heap.size < W0.heap.size := by rw [← hW0]; simp
  rw [hW0] at HX HB0
  have O0 := hide (Own.start W0)
  have HQ := hide (quot_le A0 B0)
  clear hx
  go_enter Tryd.func39, Tryd.ntmps39
  go_wp2_with fail
  refine (b_own O0.out (-1) (by omega) (by omega)).mono ?_
  rintro e w1 ⟨g, rfl, O⟩
  have O1 := hide O
  have hx1 := (O.bel.block _ hsz).trans HX.out
  have c0 : w1.cell? ⟨w.heap.size, 0, none⟩ = some (.int .i64 A0) := by simp [World.cell?, hx1]
  have c1 : w1.cell? ⟨w.heap.size, 1, none⟩ = some (.int .i64 B0) := by simp [World.cell?, hx1]
  clear O hx1 O0 hW0
  go_wp2_with fail
  go_loopg [4, 5] B0 (fun J x y wr => ∃ A B S : Nat, J = B ∧ x = .int .i64 A ∧ y = .int .i64 B ∧ A ≤ 1000000000000000000 ∧ B ≤ 1000000000000000000 ∧ Hid (S + quot A B = quot A0 B0) ∧ Hid (Own W0 wr [(g, (S : Int) - 1)]))
  case atStart => exact ⟨A0, B0, 0, rfl, rfl, rfl, hA0, hB0, by unfold Hid; omega, O1.out⟩
  case round =>
    clear O1 c0 c1
    obtain ⟨A, B, S, hJ, rfl, rfl, hA, hB, HS, HO⟩ := hrel
    by_cases hB1 : B = 0
    · subst hB1
      have he : (S : Int) = (quot A0 B0 : Int) := by have := HS.out; rw [quot_zero] at this; omega
      have HI := HO.out.at_ 0 g _ rfl
      rw [he] at HI
      have HI2 := hide HI
      have HBB := hide (HB0.out.trans (HO.out.bel.mono HB0.out.size))
      have hgl := HO.out.lo 0 g _ rfl
      clear HI he
      go_wp2_with fail
      go_ret
      exact ⟨g, rfl, by omega, HI2.out, HBB.out⟩
    · have hq := quot_step (a := A) hB1
      have HS2 : Hid (S + A / B + quot B (A % B) = quot A0 B0) := by have := HS.out; unfold Hid; omega
      have hmod := Nat.mod_lt A (y := B) (by omega)
      have hdA : A / B ≤ A := Nat.div_le_self _ _
      have e1 : (A : Int).tdiv (B : Int) = ((A / B : Nat) : Int) := by rw [Int.tdiv_eq_ediv_of_nonneg (by omega), Int.natCast_ediv]
      have e2 : (A : Int) / (B : Int) = ((A / B : Nat) : Int) := (Int.natCast_ediv A B).symm
      have e3 : (A : Int).tmod (B : Int) = ((A % B : Nat) : Int) := by rw [Int.tmod_eq_emod_of_nonneg (by omega), Int.natCast_emod]
      have e4 : (A : Int) % (B : Int) = ((A % B : Nat) : Int) := (Int.natCast_emod A B).symm
      have hSle : S + A / B ≤ 2000000000000000000 := by have := HS2.out; have := HQ.out; omega
      obtain ⟨q, hqe⟩ : ∃ q, A / B = q := ⟨_, rfl⟩
      obtain ⟨r, hre⟩ : ∃ r, A % B = r := ⟨_, rfl⟩
      rw [hqe] at HS2 hdA e1 e2 hSle
      rw [hre] at HS2 hmod e3 e4
      have V1 : IntKind.i64.wrap (q : Int) = (q : Int) := by rw [IntKind.wrap_i64]; omega
      have V2 : IntKind.i64.wrap (r : Int) = (r : Int) := by rw [IntKind.wrap_i64]; omega
      have q1 : decide ((0 : Int) < (B : Int)) = true := by rw [decide_eq_true_eq]; omega
      have HL : Hid (((S : Int) - 1).natAbs < lim ∧ ((q : Int)).natAbs < lim ∧ ((S : Int) - 1 + (q : Int)).natAbs < lim) := ⟨big18 (by omega), big18 (by omega), big18 (by omega)⟩
      clear hq hqe hre
      go_wp2_with fail
      refine (b_own HO.out (q : Int) (by omega) (by omega)).mono ?_
      rintro e w2 ⟨g2, rfl, O⟩
      have O2 := hide O
      clear O
      go_wp2_with fail
      refine (add_own O2.out 1 1 0 rfl rfl rfl HL.out.1 HL.out.2.1 HL.out.2.2).mono ?_
      rintro e w3 ⟨rfl, O⟩
      simp only [List.set] at O
      have O3 : Hid (Own W0 w3 [(g, ((S + q : Nat) : Int) - 1)]) := by
        have h := O.sub [1] (K := [(g, (S : Int) - 1 + (q : Int))]) rfl (by decide)
        rw [show ((S + q : Nat) : Int) - 1 = (S : Int) - 1 + (q : Int) from by omega]
        exact h
      clear O
      go_wp2_with fail
      go_quiet (fail)
      go_wp2_with fail
      go_roundg r
      case measure => omega
      case rel => exact ⟨B, r, S + q, rfl, rfl, rfl, by omega, by omega, HS2, O3.out.drewN _⟩
end Go.Proofs.YticgnjapgbjfiaaDoor
