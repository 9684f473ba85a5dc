/- equation.Legendre: the walk of the search. -/
import Derived.Test.YtlchmaiflcnaoaaKLgdN
import Derived.Deep.LoopGhost
import Derived.StillTailTactics
namespace Go.Proofs.Ytlchmaiflcnaoaa
open Go.RowKit

/-- what Legendre answers when no number and no square stands against it -/
def RetLg (w : World) (a b c : Int) : Ending → World → Prop := fun e w' => ∃ x y z : Nat, ∃ f, e = .returned (.tuple #[.int .i64 (x : Int), .int .i64 (y : Int), .int .i64 (z : Int), fv f]) ∧
  ((f = (0, 0) ∧ a * x * x + b * y * y + c * z * z = 0 ∧ Nat.gcd x (Nat.gcd y z) = 1 ∧ x ≤ 1500000 ∧ y ≤ 1500000 ∧ z ≤ 1500000) ∨ (f = (5, 0) ∧ x = 0 ∧ y = 0 ∧ z = 0 ∧ ¬ HZ a b c)) ∧ Below w.heap.size w w'

set_option maxRecDepth 100000 in
set_option maxHeartbeats 6400000 in
theorem legendre_main (a b c : Int) (w : World) (h : Lg3 a b c) (hlow : ∀ q, 2 ≤ q → q ≤ 1000 → ¬ (a * b * c).natAbs % (q * q) = 0) :
    Calls Try.prog 23 #[.int .i64 a, .int .i64 b, .int .i64 c] w (RetLg w a b c) := by
  have hmf : ∀ (fn : Fn) (first cap : Array Value) (w : World), (Instr.makeFunc fn first cap).run Try.prog w = .ok (.func fn first cap) w := fun _ _ _ _ => rfl
  obtain ⟨v1, v2, v3, v4⟩ := h.prod
  have CF5 := fun W => hide (efault_any 5 0 W)
  have CA := fun W => hide (eabs_any (a * b * c) W (by omega))
  obtain ⟨N, hN⟩ : ∃ N, (a * b * c).natAbs = N := ⟨_, rfl⟩
  rw [hN] at CA hlow v3 v4
  have HN := hide hN
  have HL := hide hlow
  have H3 := hide h
  have HV := hide (And.intro v3 v4)
  obtain ⟨⟨t1, t2, t3⟩, ⟨t4, t5⟩, ⟨t6, t7⟩, t8, t9⟩ := h.tests
  clear hlow h hN v3 v4
  go_enter Try.func23, Try.ntmps23
  go_wp2_with fail
  refine wp_loop_rounds 4 ?_
  rw [rounds_succ]
  go_wp2_with fail
  rw [rounds_succ]
  go_wp2_with fail
  rw [rounds_succ]
  go_wp2_with fail
  rw [rounds_succ]
  go_wp2_with fail
  refine (CA _).out.mono ?_
  rintro e w1 ⟨rfl, rfl⟩
  clear v1 v2 t1 t2 t3 t4 t5 t6 t7 t8 t9 CA
  go_wp2_with fail
  go_loop [14] (fun x => ∃ n : Nat, x = .int .i64 n ∧ 2 ≤ n ∧ n ≤ 1001) (fun x => 1001 - (intOf x).toNat)
  case atStart => exact ⟨2, rfl, by omega, by omega⟩
  case round =>
    obtain ⟨n, rfl, hn2, hnp⟩ := hrel
    have e0 := Nat.mul_le_mul hnp hnp
    have e1 : ((n * n : Nat) : Int) = (n : Int) * n := by simp
    have e3 := Nat.mul_le_mul hn2 hn2
    have w1 : IntKind.i64.wrap ((n : Int) * (n : Int)) = ((n * n : Nat) : Int) := by rw [IntKind.wrap_i64]; omega
    obtain ⟨M, hM⟩ : ∃ M, n * n = M := ⟨_, rfl⟩
    rw [hM] at w1 e3
    obtain ⟨r, hr⟩ : ∃ r, N % M = r := ⟨_, rfl⟩
    have w2 : ((N : Nat) : Int).tmod ((M : Nat) : Int) = (r : Int) := by rw [← hr]; rfl
    have hMn : M ≤ 1002001 := by omega
    clear e0 e1
    by_cases hn1 : (n : Int) ≤ 1000
    · have h0 : r ≠ 0 := by
        have := HL.out n hn2 (by omega)
        rwa [hM, hr] at this
      have h1 : ((r : Int) == 0) = false := by simpa using h0
      have hnp2 : n ≤ 1000 := by omega
      clear hM hr hnp
      go_wp2_with fail
      go_round
      case rel => exact ⟨n + 1, by go_num, by omega, by omega⟩
      case measure => simp [intOf]; omega
    · clear hM hr w1 w2 e3 hMn
      go_wp2_with fail
      go_loopw [16, 68] (fun kv jv wr => ∃ k j : Nat, kv = .int .i64 k ∧ jv = .int .i64 j ∧ k < 3 ∧ j ≤ 3 ∧ Hid (LgL w wr a b c N)) (fun _ jv _ => 3 - (intOf jv).toNat)
      case atStart => exact ⟨0, 0, rfl, rfl, by omega, by omega, hide (LgL.start w a b c N)⟩
      case round =>
        obtain ⟨k, j, rfl, rfl, hk, hj, HM⟩ := hrel
        obtain ⟨c1, c2⟩ := HM.out.m.cells
        have ck := HM.out.m.at hk
        obtain ⟨k0, k1, k2⟩ := tri_small H3.out hk
        by_cases hj3 : j < 3
        · have cj := HM.out.m.at hj3
          obtain ⟨j0, j1, j2⟩ := tri_small H3.out hj3
          have CJ := fun W => hide (eabs_any (tri a b c j) W (by omega))
          have CK := fun W => hide (eabs_any (tri a b c k) W (by omega))
          have q1 : (j : Int) < 3 := by omega
          have q2 : (k : Int) < 3 := by omega
          clear j0 j1 j2 k0 k1 k2 hj
          go_wp2_with fail
          go_quiet ((go_at_call 54; first | exact Calls.quiet_of_same (CJ _).out | exact Calls.quiet_of_same (CK _).out))
          go_wp2_with fail
          · exact ⟨⟨j, j + 1, rfl, by simp, by omega, by omega, hide (HM.out.drw nq)⟩, by simp [intOf]; omega⟩
          · exact ⟨⟨k, j + 1, rfl, by simp, by omega, by omega, hide (HM.out.drw nq)⟩, by simp [intOf]; omega⟩
        · obtain rfl : j = 3 := by omega
          have r1 : IntKind.i64.wrap ((k : Int) + 1) = ((k + 1 : Nat) : Int) := by rw [IntKind.wrap_i64]; omega
          have r2 : IntKind.i64.wrap ((k : Int) + 2) = ((k + 2 : Nat) : Int) := by rw [IntKind.wrap_i64]; omega
          have r3 : ((k + 1 : Nat) : Int).tmod 3 = (((k + 1) % 3 : Nat) : Int) := rfl
          have r4 : ((k + 2 : Nat) : Int).tmod 3 = (((k + 2) % 3 : Nat) : Int) := rfl
          clear ck k0 k1 k2
          go_upto_region 26 with (fail)
          have HS := hide (LgS.start HM.out k)
          obtain ⟨W1, hW⟩ : ∃ Z, wr.alloc (.cells #[.int .i64 0, .int .i64 0, .int .i64 0] 83) = Z := ⟨_, rfl⟩
          obtain ⟨g, hg⟩ : ∃ Z, wr.heap.size = Z := ⟨_, rfl⟩
          rw [hW, hg] at HS
          rw [hW]
          (try rw [hg])
          clear hW hg HM c1 c2
          have hi3 : ((((k + 1) % 3 : Nat)) : Int) < 3 := by omega
          have hk3 : (k : Int) < 3 := by omega
          have hj3 : ((((k + 2) % 3 : Nat)) : Int) < 3 := by omega
          obtain ⟨i, hi⟩ : ∃ i, (k + 1) % 3 = i := ⟨_, rfl⟩
          obtain ⟨j, hj⟩ : ∃ j, (k + 2) % 3 = j := ⟨_, rfl⟩
          rw [hi] at hi3
          rw [hj] at hj3
          rw [show ((k : Int) + 1) % 3 = (i : Int) by omega, show ((k : Int) + 2) % 3 = (j : Int) by omega]
          clear r1 r2 r3 r4
          have ci := HS.out.at (i := i) (by omega)
          have zi := HS.out.v.frozen i
          have HI := hide hi
          have HJ := hide hj
          clear hi hj
          obtain ⟨i0, i1, i2⟩ := tri_small H3.out (i := i) (by omega)
          obtain ⟨j0, j1, j2⟩ := tri_small H3.out (i := j) (by omega)
          obtain ⟨mi, mi1, mi2⟩ := root_ex (N / (tri a b c i).natAbs)
          obtain ⟨mj, mj1, mj2⟩ := root_ex (N / (tri a b c j).natAbs)
          have CI := fun (W : World) (hW : LgL w W a b c N) => hide (most_any _ _ _ a b c N i mi _ W hW.m (by omega) HV.out.1 i0 mi1 mi2)
          have CJ := fun (W : World) (hW : LgL w W a b c N) => hide (most_any _ _ _ a b c N j mj _ W hW.m (by omega) HV.out.1 j0 mj1 mj2)
          have hmi := root_small (Nat.le_trans mi1 (Nat.div_le_self _ _)) HV.out.1
          have hmj := root_small (Nat.le_trans mj1 (Nat.div_le_self _ _)) HV.out.1
          have MI := hide (And.intro mi1 mi2)
          have MJ := hide (And.intro mj1 mj2)
          clear mi1 mi2 mj1 mj2 i0 i1 i2 j0 j1 j2
          go_wp2_with fail
          have HS0 := hide (HS.out.put_i hk 0)
          rw [HI.out] at HS0
          clear HS ci zi
          go_loopg [21] (mi + 1) (fun R _ wr => ∃ p : Nat, ∃ q t : Int, R = mi + 1 - p ∧ p ≤ mi + 1 ∧ Hid (LgS w wr g a b c N k (p : Int) q t) ∧ Hid (NoHit (tri a b c i) (tri a b c j) (tri a b c k) p mj))
          case atStart => exact ⟨0, 0, 0, rfl, by omega, HS0, hide (NoHit.start _ _ _ _)⟩
          case round =>
            clear HS0
            obtain ⟨p, q, t, hR, hp, HS, HH⟩ := hrel
            obtain ⟨c1, c2⟩ := HS.out.l.m.cells
            have ci : wr.cell? ⟨g, i, none⟩ = some (.int .i64 (p : Int)) := by
              have := HS.out.at (i := (k + 1) % 3) (by omega)
              rw [vv_i, HI.out] at this
              exact this
            go_wp2_with fail
            go_quiet ((go_at_call 55; exact Calls.quiet_of (CI _ (HS.out.l.drw _)).out))
            by_cases hpm : p ≤ mi
            · have cj : wr.cell? ⟨g, j, none⟩ = some (.int .i64 q) := by
                have := HS.out.at (i := (k + 2) % 3) (by omega)
                rw [vv_j, HJ.out] at this
                exact this
              have zj := HS.out.v.frozen j
              go_wp2_with fail
              (try rw [show decide (p ≤ mi) = true by simpa using hpm])
              have HS2 := hide ((HS.out.drw nq).put_j hk 0)
              rw [HJ.out] at HS2
              clear cj zj ci c1 c2 HS
              go_loopg [21] (mj + 1) (fun R _ wq => ∃ q : Nat, ∃ t : Int, R = mj + 1 - q ∧ q ≤ mj + 1 ∧ Hid (LgS w wq g a b c N k (p : Int) (q : Int) t) ∧ Hid (NoRow (tri a b c i) (tri a b c j) (tri a b c k) p q))
              case atStart => exact ⟨0, t, rfl, by omega, HS2, hide (NoRow.start _ _ _ _)⟩
              case round =>
                clear HS2
                obtain ⟨q, t, hR2, hq, HS, HW⟩ := hrel
                obtain ⟨c1, c2⟩ := HS.out.l.m.cells
                have ci : wr.cell? ⟨g, i, none⟩ = some (.int .i64 (p : Int)) := by
                  have := HS.out.at (i := (k + 1) % 3) (by omega)
                  rw [vv_i, HI.out] at this
                  exact this
                have cj : wr.cell? ⟨g, j, none⟩ = some (.int .i64 (q : Int)) := by
                  have := HS.out.at (i := (k + 2) % 3) (by omega)
                  rw [vv_j, HJ.out] at this
                  exact this
                go_wp2_with fail
                go_quiet ((go_at_call 55; exact Calls.quiet_of (CJ _ (HS.out.l.drw _)).out))
                by_cases hqm : q ≤ mj
                · have sk := HS.out.l.m.at hk
                  have si := HS.out.l.m.at (i := i) (by omega)
                  have sj := HS.out.l.m.at (i := j) (by omega)
                  have zj := HS.out.v.frozen j
                  obtain ⟨x0, x1⟩ := tri_small H3.out (i := i) (by omega)
                  obtain ⟨y0, y1⟩ := tri_small H3.out (i := j) (by omega)
                  obtain ⟨z0, z1⟩ := tri_small H3.out hk
                  obtain ⟨x, hx⟩ : ∃ x, tri a b c i = x := ⟨_, rfl⟩
                  obtain ⟨y, hy⟩ : ∃ x, tri a b c j = x := ⟨_, rfl⟩
                  obtain ⟨z, hz⟩ : ∃ x, tri a b c k = x := ⟨_, rfl⟩
                  rw [hx] at si x0 x1
                  rw [hy] at sj y0 y1
                  rw [hz] at sk z0 z1
                  rw [hx, hy, hz] at HW
                  obtain ⟨⟨u1, u2, u3, u4, u5, u6⟩, u7⟩ := lg_wraps (p := p) (q := q) x1 y1 (by omega) (by omega)
                  have wq1 : IntKind.i64.wrap ((q : Int) + 1) = (q : Int) + 1 := by rw [IntKind.wrap_i64]; omega
                  have ws : IntKind.i64.wrap ((p : Int) + (q : Int)) = (p : Int) + (q : Int) := by rw [IntKind.wrap_i64]; omega
                  have HXYZ := hide (And.intro hx (And.intro hy hz))
                  have HPQ3 := hide (show p ≤ 1500000 ∧ q ≤ 1500000 from ⟨by omega, by omega⟩)
                  clear hx hy hz x0 y0 hmi hmj
                  go_wp2_with fail
                  go_quiet (fail)
                  obtain ⟨rest, hrest⟩ : ∃ r, -(x * p * p + y * q * q) = r := ⟨_, rfl⟩
                  (try rw [hrest])
                  rw [hrest] at u7
                  have HR := hide hrest
                  clear hrest u1 u2 u3 u4 u5 u6 si sj x1 y1
                  by_cases hpq : p + q = 0
                  · have b1 : ((p : Int) + (q : Int) == 0) = true := by simp; omega
                    have HN2 := hide (HW.out.next (fun t' h => absurd hpq h))
                    go_wp2_with fail
                    go_quiet (fail)
                    go_wp2_with fail
                    go_roundg (mj + 1 - (q + 1))
                    case measure => omega
                    case rel => exact ⟨q + 1, t, rfl, by omega, hide (LgS.put_j' (by first | exact ((HS.out.drw _).drw _).drw _ | exact (HS.out.drw _).drw _ | exact HS.out.drw _) hk HJ.out ((q + 1 : Nat) : Int)), by have H := HN2; rw [← HXYZ.out.1, ← HXYZ.out.2.1, ← HXYZ.out.2.2] at H; exact H⟩
                  · have b1 : ((p : Int) + (q : Int) == 0) = false := by simp; omega
                    have dz : (z == 0) = false := by simpa using z0
                    have dz2 : decide (z = 0) = false := by simpa using z0
                    obtain ⟨m, hm⟩ : ∃ m, rest.tmod z = m := ⟨_, rfl⟩
                    obtain ⟨Q, hQ⟩ : ∃ m, rest.tdiv z = m := ⟨_, rfl⟩
                    have hQ1 : Q.natAbs ≤ 2048000000000 := by
                      rw [← hQ, Int.natAbs_tdiv]
                      exact Nat.le_trans (Nat.div_le_self _ _) u7
                    have wQ : IntKind.i64.wrap Q = Q := by rw [IntKind.wrap_i64]; omega
                    have HIT := fun t' : Nat => hide (fun h => hit_rest (t := t') z0 HR.out h)
                    rw [hm, hQ] at HIT
                    have hpq' := hpq
                    have hQ2 : m = 0 → rest = z * Q := fun h => by rw [← hQ]; exact (Int.mul_tdiv_cancel_of_dvd (Int.dvd_of_tmod_eq_zero (hm.trans h))).symm
                    clear hpq z1
                    by_cases hm0 : m = 0
                    · subst hm0
                      by_cases hQ0 : Q < 0
                      · have b2 : decide (Q < 0) = true := by simpa using hQ0
                        clear hQ2 hpq' hQ1
                        have HN2 := hide (HW.out.next (fun t' _ h => absurd ((HIT t').out h).2 (by omega)))
                        clear hQ0 HIT
                        go_wp2_with fail
                        go_quiet (fail)
                        go_wp2_with fail
                        go_roundg (mj + 1 - (q + 1))
                        case measure => omega
                        case rel => exact ⟨q + 1, t, rfl, by omega, hide (LgS.put_j' (by first | exact ((HS.out.drw _).drw _).drw _ | exact (HS.out.drw _).drw _ | exact HS.out.drw _) hk HJ.out ((q + 1 : Nat) : Int)), by have H := HN2; rw [← HXYZ.out.1, ← HXYZ.out.2.1, ← HXYZ.out.2.2] at H; exact H⟩
                      · have b2 : decide (Q < 0) = false := by simpa using hQ0
                        obtain ⟨s, s1, s2⟩ := root_ex Q.toNat
                        have CF := fun W => hide (floor2 Q.toNat s W (by omega) s1 s2)
                        rw [show ((Q.toNat : Nat) : Int) = Q by omega] at CF
                        have hs3 := root_small2 s1 (by omega)
                        have hss := Nat.mul_le_mul hs3 hs3
                        obtain ⟨S2, hS2⟩ : ∃ v, (s : Int) * (s : Int) = v := ⟨_, rfl⟩
                        have hS3 : S2 = ((s * s : Nat) : Int) := by rw [← hS2]; simp
                        have wS : IntKind.i64.wrap ((s : Int) * (s : Int)) = S2 := by rw [hS2, IntKind.wrap_i64]; omega
                        have HS1 := hide s1
                        have HS2' := hide s2
                        have Hs3 := hide hs3
                        clear hss hS3 s1 s2 hs3
                        by_cases hsq : S2 = Q
                        · have b3 : (S2 != Q) = false := by simpa using hsq
                          have b4 : (S2 == Q) = true := by simpa using hsq
                          have HE := hide ((hS2.trans hsq : (s : Int) * s = Q))
                          have HPQ := hide hpq'
                          have HQ2 := hide (hQ2 rfl)
                          have zk := HS.out.v.frozen k
                          have ck : wr.cell? ⟨g, k, none⟩ = some (.int .i64 t) := by
                            have := HS.out.at hk
                            rwa [vv_k] at this
                          clear hsq hS2 hQ0 HIT hQ2 hpq' hQ1
                          go_wp2_with fail
                          go_quiet (fail)
                          go_wp2_with fail
                          refine (CF _).out.mono ?_
                          rintro e w1 ⟨rfl, rfl⟩
                          go_upto_region 36 with (fail)
                          go_cut [] (fun wx => Hid (LgS w wx g a b c N k (p : Int) (q : Int) (s : Int)))
                          case first =>
                            go_wp2_with fail
                            go_meet
                            exact hide ((HS.out.drw _).put_k hk _)
                          case rest =>
                            obtain ⟨W5, rfl⟩ : ∃ Z, Z = wc := ⟨_, rfl⟩
                            have HS5 : Hid (LgS w W5 g a b c N k (p : Int) (q : Int) (s : Int)) := hcut
                            obtain ⟨X0, hX0, hX1⟩ := vv_small (k := k) (p := p) (q := q) (s := s) (B := 1500000) 0 HPQ3.out.1 HPQ3.out.2 Hs3.out
                            obtain ⟨Y0, hY0, hY1⟩ := vv_small (k := k) (p := p) (q := q) (s := s) (B := 1500000) 1 HPQ3.out.1 HPQ3.out.2 Hs3.out
                            obtain ⟨Z0, hZ0, hZ1⟩ := vv_small (k := k) (p := p) (q := q) (s := s) (B := 1500000) 2 HPQ3.out.1 HPQ3.out.2 Hs3.out
                            obtain ⟨xi, hxi⟩ : ∃ v : Int, (X0 : Int) = v := ⟨_, rfl⟩
                            obtain ⟨yi, hyi⟩ : ∃ v : Int, (Y0 : Int) = v := ⟨_, rfl⟩
                            obtain ⟨zi, hzi⟩ : ∃ v : Int, (Z0 : Int) = v := ⟨_, rfl⟩
                            have HXC : Hid (∀ W, LgS w W g a b c N k (p : Int) (q : Int) (s : Int) → W.cell? ⟨g, 0, none⟩ = some (.int .i64 xi) ∧ W.cell? ⟨g, 1, none⟩ = some (.int .i64 yi) ∧ W.cell? ⟨g, 2, none⟩ = some (.int .i64 zi)) := hide (fun W h => by rw [← hxi, ← hyi, ← hzi, ← hX0, ← hY0, ← hZ0]; exact ⟨h.at (by omega), h.at (by omega), h.at (by omega)⟩)
                            obtain ⟨e0, e1, e2⟩ := HXC.out W5 HS5.out
                            obtain ⟨hs1, hs2⟩ := hit_sum (a := a) (b := b) (c := c) hk (by
                              have k1 := HQ2.out
                              have k2 := HE.out
                              have k3 := HR.out
                              rw [HI.out, HJ.out, HXYZ.out.1, HXYZ.out.2.1, HXYZ.out.2.2, Int.mul_assoc z, k2]
                              omega) HPQ.out hX0 hY0 hZ0
                            have hg1 := gcd_le_add Y0 Z0
                            have hg2 := gcd_le_add X0 (Nat.gcd Y0 Z0)
                            obtain ⟨G1, hG1⟩ : ∃ G, Nat.gcd Y0 Z0 = G := ⟨_, rfl⟩
                            obtain ⟨g1, hg1i⟩ : ∃ v : Int, (G1 : Int) = v := ⟨_, rfl⟩
                            have CG1 : ∀ W, Hid (Calls Try.prog 56 #[.int .i64 yi, .int .i64 zi] W fun e w' => e = .returned (.int .i64 g1) ∧ ∃ n, w' = W.drewN n) := fun W => hide (by
                              rw [← hg1i, ← hyi, ← hzi, ← hG1]
                              exact divisor_any _ _ W (by omega) (by omega) (by omega) (by omega))
                            obtain ⟨G, hG⟩ : ∃ G, Nat.gcd X0 (Nat.gcd Y0 Z0) = G := ⟨_, rfl⟩
                            obtain ⟨gi, hgi⟩ : ∃ v : Int, (G : Int) = v := ⟨_, rfl⟩
                            obtain ⟨hG0, hO1, hO2⟩ := lg_out hs1 hs2 hG
                            rw [hG] at hg2
                            rw [hG1] at hG hg1 hg2
                            have CG2 : ∀ W, Hid (Calls Try.prog 56 #[.int .i64 xi, .int .i64 g1] W fun e w' => e = .returned (.int .i64 gi) ∧ ∃ n, w' = W.drewN n) := fun W => hide (by
                              rw [← hgi, ← hg1i, ← hxi, ← hG]
                              exact divisor_any _ _ W (by omega) (by omega) (by omega) (by omega))
                            obtain ⟨X, hX⟩ : ∃ X, X0 / G = X := ⟨_, rfl⟩
                            obtain ⟨Y, hY⟩ : ∃ X, Y0 / G = X := ⟨_, rfl⟩
                            obtain ⟨Z, hZ⟩ : ∃ X, Z0 / G = X := ⟨_, rfl⟩
                            have lX := Nat.div_le_self X0 G
                            have lY := Nat.div_le_self Y0 G
                            have lZ := Nat.div_le_self Z0 G
                            rw [hX] at hO1 hO2 lX
                            rw [hY] at hO1 hO2 lY
                            rw [hZ] at hO1 hO2 lZ
                            obtain ⟨xo, hxo⟩ : ∃ v : Int, (X : Int) = v := ⟨_, rfl⟩
                            obtain ⟨yo, hyo⟩ : ∃ v : Int, (Y : Int) = v := ⟨_, rfl⟩
                            obtain ⟨zo, hzo⟩ : ∃ v : Int, (Z : Int) = v := ⟨_, rfl⟩
                            have dX : xi.tdiv gi = xo := by rw [← hxi, ← hgi, ← hxo, ← hX]; rfl
                            have dY : yi.tdiv gi = yo := by rw [← hyi, ← hgi, ← hyo, ← hY]; rfl
                            have dZ : zi.tdiv gi = zo := by rw [← hzi, ← hgi, ← hzo, ← hZ]; rfl
                            have wX : IntKind.i64.wrap xo = xo := by rw [IntKind.wrap_i64]; omega
                            have wY : IntKind.i64.wrap yo = yo := by rw [IntKind.wrap_i64]; omega
                            have wZ : IntKind.i64.wrap zo = zo := by rw [IntKind.wrap_i64]; omega
                            have HOUT : Hid (((a * X * X + b * Y * Y + c * Z * Z = 0 ∧ Nat.gcd X (Nat.gcd Y Z) = 1) ∧ X ≤ 1500000 ∧ Y ≤ 1500000 ∧ Z ≤ 1500000) ∧ (X : Int) = xo ∧ (Y : Int) = yo ∧ (Z : Int) = zo) := hide ⟨⟨⟨hO1, hO2⟩, by omega, by omega, by omega⟩, hxo, hyo, hzo⟩
                            have gne : gi ≠ 0 := by omega
                            have gd : decide (gi = 0) = false := by simpa using gne
                            clear hX hY hZ lX lY lZ hO1 hO2 hG hG1 hg1 hg2 hG0 hs1 hs2 hX0 hX1 hY0 hY1 hZ0 hZ1 hcut zk ck HS hxi hyi hzi hg1i hgi hxo hyo hzo
                            go_wp2_with fail
                            go_quiet ((go_at_call 56; first | (with_reducible refine Calls.quiet_of (CG1 _).out) | (with_reducible refine Calls.quiet_of (CG2 _).out)))
                            obtain ⟨W6, hW6⟩ : ∃ Z, W5.drewN nq = Z := ⟨_, rfl⟩
                            rw [hW6]
                            have HS6 := hide (HS5.out.drw nq)
                            rw [hW6] at HS6
                            clear hW6 HS5 e0 e1 e2 CG1 CG2
                            have K := fun (W : World) (h : LgS w W g a b c N k (p : Int) (q : Int) (s : Int)) => hide (show ((W.cell? ⟨g, 0, none⟩ = some (.int .i64 xi) ∧ W.cell? ⟨g, 1, none⟩ = some (.int .i64 yi) ∧ W.cell? ⟨g, 2, none⟩ = some (.int .i64 zi)) ∧ (W.cell? ⟨w.heap.size, 0, none⟩ = some (.int .i64 0) ∧ W.cell? ⟨w.heap.size, 1, none⟩ = some (.int .i64 0) ∧ W.frozen? ⟨w.heap.size, 0, none⟩ = false ∧ W.frozen? ⟨w.heap.size, 1, none⟩ = false)) ∧ Hid (LgS w W g a b c N k (p : Int) (q : Int) (s : Int)) from ⟨⟨HXC.out W h, h.l.f.cells⟩, hide h⟩)
                            obtain ⟨⟨⟨e0, e1, e2⟩, d0, d1, f0, f1⟩, _⟩ := (K _ HS6.out).out
                            go_wp2_with fail
                            go_region_held3 (fun W => ((W.cell? ⟨g, 0, none⟩ = some (.int .i64 xi) ∧ W.cell? ⟨g, 1, none⟩ = some (.int .i64 yi) ∧ W.cell? ⟨g, 2, none⟩ = some (.int .i64 zi)) ∧ (W.cell? ⟨w.heap.size, 0, none⟩ = some (.int .i64 0) ∧ W.cell? ⟨w.heap.size, 1, none⟩ = some (.int .i64 0) ∧ W.frozen? ⟨w.heap.size, 0, none⟩ = false ∧ W.frozen? ⟨w.heap.size, 1, none⟩ = false)) ∧ Hid (LgS w W g a b c N k (p : Int) (q : Int) (s : Int))) (first | exact (K _ (HS6.out.drw 1)).out | exact (K _ (LgS.same HS6.out)).out | exact (K _ (LgS.same (HS6.out.drw 1))).out | exact (K _ ((LgS.same HS6.out).drw 1)).out) (fail)
                            obtain ⟨W7, hW7⟩ : ∃ Z, (((W6.setCell ⟨w.heap.size, 0, none⟩ (.int .i64 0)).setCell ⟨w.heap.size, 1, none⟩ (.int .i64 0)).drew) = Z := ⟨_, rfl⟩
                            rw [hW7]
                            have HS7 : Hid (LgS w W7 g a b c N k (p : Int) (q : Int) (s : Int)) := hide (by rw [← hW7]; exact (LgS.same HS6.out).drw 1)
                            clear hW7 e0 e1 e2 d0 d1 f0 f1 K
                            obtain ⟨p0, p1, _, _⟩ := HS7.out.l.f.cells
                            go_wp2_with fail
                            exact bodyPost_ret (v := .tuple #[.int .i64 xo, .int .i64 yo, .int .i64 zo, fv (0, 0)]) (by simp [results, Try.results23, go_sem, fv, p0, p1]) rfl ⟨X, Y, Z, (0, 0), by rw [HOUT.out.2.1, HOUT.out.2.2.1, HOUT.out.2.2.2], .inl ⟨rfl, HOUT.out.1.1.1, HOUT.out.1.1.2, HOUT.out.1.2⟩, HS7.out.l.b⟩
                        · have b3 : (S2 != Q) = true := by simpa using hsq
                          have b4 : (S2 == Q) = false := by simpa using hsq
                          have HN2 := hide (HW.out.next (fun t' _ h => hsq (hS2.symm.trans (no_square HS1.out HS2'.out ((HIT t').out h).2))))
                          clear hsq hS2 hQ0 HIT hQ1 hQ2 hpq'
                          go_wp2_with fail
                          go_quiet (fail)
                          go_wp2_with fail
                          refine (CF _).out.mono ?_
                          rintro e w1 ⟨rfl, rfl⟩
                          go_wp2_with fail
                          go_roundg (mj + 1 - (q + 1))
                          case measure => omega
                          case rel => exact ⟨q + 1, t, rfl, by omega, hide (LgS.put_j' (by first | exact ((HS.out.drw _).drw _).drw _ | exact (HS.out.drw _).drw _ | exact HS.out.drw _) hk HJ.out ((q + 1 : Nat) : Int)), by have H := HN2; rw [← HXYZ.out.1, ← HXYZ.out.2.1, ← HXYZ.out.2.2] at H; exact H⟩
                    · have b2 : (m == 0) = false := by simpa using hm0
                      have HN2 := hide (HW.out.next (fun t' _ h => hm0 ((HIT t').out h).1))
                      clear HIT hQ2 hpq' hQ1
                      go_wp2_with fail
                      go_quiet (fail)
                      go_wp2_with fail
                      go_roundg (mj + 1 - (q + 1))
                      case measure => omega
                      case rel => exact ⟨q + 1, t, rfl, by omega, hide (LgS.put_j' (by first | exact ((HS.out.drw _).drw _).drw _ | exact (HS.out.drw _).drw _ | exact HS.out.drw _) hk HJ.out ((q + 1 : Nat) : Int)), by have H := HN2; rw [← HXYZ.out.1, ← HXYZ.out.2.1, ← HXYZ.out.2.2] at H; exact H⟩
                · have zi := HS.out.v.frozen i
                  have wp1 : IntKind.i64.wrap ((p : Int) + 1) = (p : Int) + 1 := by rw [IntKind.wrap_i64]; omega
                  have HS3 := hide ((HS.out.drw nq).put_i hk ((p + 1 : Nat) : Int))
                  rw [HI.out] at HS3
                  have e : q = mj + 1 := by omega
                  rw [e] at HW
                  have HH3 := hide (HH.out.next HW.out)
                  clear e HW HH hmi hmj
                  go_wp2_with fail
                  go_roundg (mi + 1 - (p + 1))
                  case measure => omega
                  case rel => exact ⟨p + 1, q, t, rfl, by omega, HS3, HH3⟩
            · have e : p = mi + 1 := by omega
              rw [e, ← HI.out, ← HJ.out] at HH
              have m1 := MI.out.2
              have m2 := MJ.out.2
              rw [← HI.out] at m1
              rw [← HJ.out] at m2
              have HZN := hide (no_hz H3.out HN.out hk HH.out m1 m2)
              clear e HH m1 m2 hmi hmj
              go_wp2_with fail
              refine (CF5 _).out.mono ?_
              rintro e w1 ⟨rfl, hb⟩
              have HS4 := hide ((HS.out.drw nq).below hb)
              have HB := hide HS4.out.l.b
              obtain ⟨d0, d1, f0, f1⟩ := HS4.out.l.f.cells
              obtain ⟨p0, p1⟩ := HS4.out.l.f.put 5 0
              have B6 := hide (below_fault (u := .int .i64 5) (v := .int .i64 0) HB.out (Nat.le_refl w.heap.size))
              clear hb c1 c2 ci
              go_wp2_with fail
              exact bodyPost_ret (v := .tuple #[.int .i64 0, .int .i64 0, .int .i64 0, fv (5, 0)]) (by simp [results, Try.results23, go_sem, fv, p0, p1]) rfl ⟨0, 0, 0, (5, 0), rfl, .inr ⟨rfl, rfl, rfl, rfl, HZN.out⟩, B6.out⟩
end Go.Proofs.Ytlchmaiflcnaoaa
