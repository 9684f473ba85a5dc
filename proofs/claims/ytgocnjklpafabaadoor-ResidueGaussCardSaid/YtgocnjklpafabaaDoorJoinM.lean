/- The walk of whole.Join: the loop. -/
import Derived.Test.YtgocnjklpafabaaDoorJoin
namespace Go.Proofs.YtgocnjklpafabaaDoor
open Go.RowKit

theorem zip_drop {rs ms : List Int} {k : Nat} {a m : Int} (ha : rs[k]? = some a) (hm : ms[k]? = some m) : (rs.zip ms).drop k = (a, m) :: (rs.zip ms).drop (k + 1) := by
  have h : (rs.zip ms)[k]? = some (a, m) := List.getElem?_zip_eq_some.2 ⟨ha, hm⟩
  obtain ⟨hk, e⟩ := List.getElem?_eq_some_iff.1 h
  rw [List.drop_eq_getElem_cons hk, e]

theorem join_dvd {G m a r x y : Int} (h : G ∣ m) (hx : a % m = x) (hy : r % m = y) : G ∣ a - r ↔ G ∣ x - y := by
  have e : (a - r) - (x - y) = m * (a / m - r / m) := by
    rw [← hx, ← hy, Int.emod_def, Int.emod_def, Int.mul_sub]; omega
  have hd : G ∣ (a - r) - (x - y) := by rw [e]; exact Int.dvd_mul_of_dvd_left h
  constructor
  · intro h1
    have := Int.dvd_sub h1 hd
    rwa [show a - r - (a - r - (x - y)) = x - y from by omega] at this
  · intro h1
    have := Int.dvd_add h1 hd
    rwa [show x - y + (a - r - (x - y)) = a - r from by omega] at this

theorem Ints.cellk {w : World} {A : Option Addr} {l : List Int} {k : Nat} (h : Ints w w.heap.size A l) (hk : k < l.length) {w' : World} (hb : Below w.heap.size w w') :
    ∃ ad v, A = some ad ∧ l[k]? = some v ∧ w'.cell? (ad.add k) = some (.int .i64 v) := by
  obtain ⟨ad, v, e, hv, hl, hc⟩ := h.at_ hk
  exact ⟨ad, v, e, hv, (hb.cell (by rw [add_block]; exact hl)).trans hc⟩

set_option maxRecDepth 100000 in
set_option maxHeartbeats 4000000 in
theorem join_main (A B : Option Addr) (n c d : Nat) (rs ms : List Int) (w : World) (hrs : rs.length = n) (hms : ms.length = n) (hn : n ≤ 1000) (hA : Ints w w.heap.size A rs) (hB : Ints w w.heap.size B ms) :
    Calls Tryd.prog 30 #[.slice A n c, .slice B n d] w (RetJoin w rs ms) := by
  have HJ : Hid (∀ o, JoinP 0 0 1 (rs.zip ms) o → JoinAll rs ms o) := by
    intro o h
    unfold JoinAll
    rw [if_neg (by omega), if_neg (by omega)]
    exact h
  have HRL := hide hrs
  have HML := hide hms
  have HA := hide hA
  have HB := hide hB
  have q1 : decide ((1000 : Int) < (n : Int)) = false := by rw [decide_eq_false_iff_not]; omega
  clear hrs hms hA hB
  go_enter Tryd.func30, Tryd.ntmps30
  go_wp2_with fail
  go_loopw [4, 5, 31] (fun a b i wr => ∃ (k : Nat) (r M : Int), a = .int .i64 r ∧ b = .int .i64 M ∧ i = .int .i64 k ∧ k ≤ n ∧ Hid (0 ≤ r ∧ r < M ∧ M ≤ 1000000000000000000) ∧ Hid (∀ o, JoinP k r M ((rs.zip ms).drop k) o → JoinP 0 0 1 (rs.zip ms) o) ∧ Hid (Below (w.heap.size + 1) (w.alloc (.cells #[.int .i64 0, .int .i64 0] 25)) wr)) (fun _ _ i _ => n - (intOf i).toNat)
  case atStart => exact ⟨0, 0, 1, rfl, rfl, rfl, by omega, ⟨by omega, by omega, by omega⟩, fun o h => h, Below.refl _ _⟩
  case round =>
    obtain ⟨k, r, M, rfl, rfl, rfl, hk, HS, HP, HW⟩ := hrel
    by_cases hkn : k < n
    · have HF : Hid (FC wr w.heap.size 0 0) := (FC.fresh w).below (by simpa using HW.out)
      have HW2 : Hid (Below w.heap.size w wr) := below_new (by simpa using HW.out)
      obtain ⟨ad, a, rfl, ha, c1⟩ := HA.out.cellk (k := k) (by rw [HRL.out]; exact hkn) HW2.out
      obtain ⟨bd, m, rfl, hm, c2⟩ := HB.out.cellk (k := k) (by rw [HML.out]; exact hkn) HW2.out
      rw [zip_drop ha hm] at HP
      clear ha hm
      have K1 := fun W => hide (ok_any a W)
      have K2 := fun W => hide (ok_any m W)
      have C3 := fun W => hide (fault_any 3 (k : Int) W)
      by_cases hv : okB a = true ∧ 1 ≤ m ∧ okB m = true
      · obtain ⟨hoa, hm1, hom⟩ := hv
        have ba := ok_bounds hoa
        have bm := ok_bounds hom
        rw [hoa] at K1
        rw [hom] at K2
        obtain ⟨h0, h1, h2⟩ := HS.out
        have E := hide (extended_any (M % m) m wr (by have := Int.emod_nonneg M (b := m) (by omega); have := Int.emod_lt_of_pos M (b := m) (by omega); omega) (by omega))
        unfold RetExt at E
        rw [gcd_emod] at E
        have T1 := fun W => hide (mod_any a m W (by omega) (by omega) (by omega) (by omega))
        have T2 := fun W => hide (mod_any r m W (by omega) (by omega) (by omega) (by omega))
        obtain ⟨x, hx⟩ : ∃ x, a % m = x := ⟨_, rfl⟩
        obtain ⟨y, hy⟩ : ∃ y, r % m = y := ⟨_, rfl⟩
        have x0 := Int.emod_nonneg a (b := m) (by omega)
        have x1 := Int.emod_lt_of_pos a (b := m) (by omega)
        have y0 := Int.emod_nonneg r (b := m) (by omega)
        have y1 := Int.emod_lt_of_pos r (b := m) (by omega)
        rw [hx] at T1 x0 x1
        rw [hy] at T2 y0 y1
        have e1 : M.tmod m = M % m := Int.tmod_eq_emod_of_nonneg (by omega)
        have e2 : IntKind.i64.wrap (x - y) = x - y := by rw [IntKind.wrap_i64]; omega
        have q2 : decide (m < 1) = false := by simpa using hm1
        have hm0 : ¬ m = 0 := by omega
        have HXY : Hid (a % m = x ∧ r % m = y) := ⟨hx, hy⟩
        have HR : Hid (0 ≤ r ∧ r < M ∧ M ≤ 1000000000000000000 ∧ 1 ≤ m ∧ m ≤ 1000000000000000000 ∧ 0 ≤ x ∧ x < m ∧ 0 ≤ y ∧ y < m) := ⟨h0, h1, h2, hm1, bm.2, x0, x1, y0, y1⟩
        have HO : Hid (okB a = true ∧ 1 ≤ m ∧ okB m = true) := ⟨hoa, hm1, hom⟩
        clear hoa hm1 hom ba bm h0 h1 h2 hx hy x0 x1 y0 y1 HA HB
        go_wp2_with fail
        refine (K1 _).out.mono ?_
        rintro e w1 ⟨rfl, rfl⟩
        go_wp2_with fail
        refine (K2 _).out.mono ?_
        rintro e w1 ⟨rfl, rfl⟩
        go_wp2_with fail
        refine E.out.mono ?_
        rintro e w1 ⟨u, rfl, hu, hub, _, rfl⟩
        obtain ⟨h0, h1, h2, h3, h4, h5, h6, h7, h8⟩ := HR.out
        have hGp := gcd_pos' (M := M) (m := m) (by omega)
        have hsp := step_pos (M := M) (m := m) (by omega)
        have hGd : (Int.gcd M m : Int) ∣ m := Int.gcd_dvd_right M m
        have hGle := Int.le_of_dvd (by omega) hGd
        have hax : (Int.gcd M m : Int) ∣ a - r ↔ (Int.gcd M m : Int) ∣ x - y := join_dvd hGd HXY.out.1 HXY.out.2
        have C5 := fun W => hide (fault_any 5 (k : Int) W)
        obtain ⟨G, hG⟩ : ∃ G : Nat, Int.gcd M m = G := ⟨_, rfl⟩
        rw [hG] at hGp hsp hGd hGle hax ⊢
        have KG := hide hG
        have KU := hide hu
        have KB : Hid (u.natAbs ≤ 1000000000000000000) := by unfold Hid; omega
        have g0 : ¬ G = 0 := by omega
        by_cases hgd : (G : Int) ∣ x - y
        · have C9 := fun W => hide (fault_any 9 (k : Int) W)
          have e3 : (x - y).tmod (G : Int) = 0 := Int.tmod_eq_zero_of_dvd hgd
          obtain ⟨s, hs⟩ : ∃ s, m / (G : Int) = s := ⟨_, rfl⟩
          have e4 : m.tdiv (G : Int) = s := by rw [Int.tdiv_eq_ediv_of_nonneg (by omega), hs]
          have hsm : s ≤ m := by rw [← hs]; exact Int.ediv_le_self _ (by omega)
          rw [hs] at hsp
          have e5 : IntKind.i64.wrap s = s := by rw [IntKind.wrap_i64]; omega
          have s0 : ¬ s = 0 := by omega
          have hle := Int.le_ediv_iff_mul_le (a := M) (b := 1000000000000000000) hsp
          have e6 : (1000000000000000000 : Int).tdiv s = 1000000000000000000 / s := Int.tdiv_eq_ediv_of_nonneg (by omega)
          have hz0 : 0 ≤ (1000000000000000000 : Int) / s := Int.ediv_nonneg (by omega) (by omega)
          have hz1 : (1000000000000000000 : Int) / s ≤ 1000000000000000000 := Int.ediv_le_self _ (by omega)
          obtain ⟨z, hz⟩ : ∃ z, (1000000000000000000 : Int) / s = z := ⟨_, rfl⟩
          rw [hz] at hle e6 hz0 hz1
          have e7 : IntKind.i64.wrap z = z := by rw [IntKind.wrap_i64]; omega
          by_cases hl : M * s ≤ 1000000000000000000
          · obtain ⟨t, ht⟩ : ∃ t, (x - y) / (G : Int) = t := ⟨_, rfl⟩
            have e8 : (x - y).tdiv (G : Int) = t := by rw [Int.tdiv_eq_ediv_of_dvd hgd, ht]
            have htb : t.natAbs ≤ 1000000000000000000 := by
              obtain ⟨q, hq⟩ := hgd
              have : t = q := by rw [← ht, hq]; exact Int.mul_ediv_cancel_left q (by omega)
              subst this
              have h9 := Int.natAbs_mul (G : Int) t
              rw [← hq] at h9
              have h10 : t.natAbs ≤ (G : Int).natAbs * t.natAbs := Nat.le_mul_of_pos_left _ (by omega)
              omega
            have e9 : IntKind.i64.wrap t = t := by rw [IntKind.wrap_i64]; omega
            have T3 := fun W => hide (times_any u t s W hsp (by omega) (by omega) (by omega) (by omega) (by omega))
            have hst := join_step (x := r + M * (u * ((x - y) / (Int.gcd M m : Int)) % (m / (Int.gcd M m : Int)))) (by omega) h0 h1 hu (by rw [HXY.out.1, HXY.out.2]) (by rw [hG]; exact hgd) rfl
            rw [hG, hs, ht] at hst
            obtain ⟨kk, hkk⟩ : ∃ kk, u * t % s = kk := ⟨_, rfl⟩
            rw [hkk] at hst T3
            obtain ⟨n0, n1, n2, n3⟩ := hst
            have hMk : 0 ≤ M * kk := Int.mul_nonneg (by omega) (by rw [← hkk]; exact Int.emod_nonneg _ s0)
            have e10 : IntKind.i64.wrap (M * kk) = M * kk := by rw [IntKind.wrap_i64]; omega
            have e11 : IntKind.i64.wrap (r + M * kk) = r + M * kk := by rw [IntKind.wrap_i64]; omega
            have e12 : IntKind.i64.wrap (M * s) = M * s := by rw [IntKind.wrap_i64]; omega
            have q4 : decide (z < M) = false := by rw [decide_eq_false_iff_not]; omega
            have HS2 : Hid (0 ≤ r + M * kk ∧ r + M * kk < M * s ∧ M * s ≤ 1000000000000000000) := ⟨n0, n1, hl⟩
            have HP2 : Hid (∀ o, JoinP (k + 1) (r + M * kk) (M * s) ((rs.zip ms).drop (k + 1)) o → JoinP 0 0 1 (rs.zip ms) o) := by
              intro o ho
              refine HP.out o ?_
              rw [JoinP, if_pos HO.out, hG, if_pos (hax.2 hgd), hs, if_pos hl]
              exact ⟨_, n0, n1, n2, n3, ho⟩
            clear hG hu hub h0 h1 h2 h3 h4 h5 h6 h7 h8 hGp hsp hGd hGle hax hgd hs hsm hle hz0 hz1 hl ht htb hkk n0 n1 n2 n3 hMk
            go_wp2_with fail
            refine (T1 _).out.mono ?_
            rintro e w2 ⟨rfl, rfl⟩
            go_wp2_with fail
            refine (T2 _).out.mono ?_
            rintro e w2 ⟨rfl, rfl⟩
            go_wp2_with fail
            refine (T3 _).out.mono ?_
            rintro e w2 ⟨rfl, nn, rfl⟩
            go_wp2_with fail
            exact ⟨⟨k + 1, _, _, rfl, rfl, by simp, by omega, HS2, HP2, below_drewN HW.out nn⟩, by simp [intOf]; omega⟩
          · have hX : JoinP k r M ((a, m) :: (rs.zip ms).drop (k + 1)) (0, 0, 9, (k : Int)) := by
              rw [JoinP, if_pos HO.out, hG, if_pos (hax.2 hgd), hs, if_neg hl]
            have HX := hide (HJ.out _ (HP.out _ hX))
            have q4 : decide (z < M) = true := by rw [decide_eq_true_eq]; omega
            clear hX hG hu hub h0 h1 h2 h3 h4 h5 h6 h7 h8 hGp hsp hGd hGle hax hgd hs hsm hle hz0 hz1 hl
            go_wp2_with fail
            refine (T1 _).out.mono ?_
            rintro e w2 ⟨rfl, rfl⟩
            go_wp2_with fail
            refine (T2 _).out.mono ?_
            rintro e w2 ⟨rfl, rfl⟩
            go_wp2_with fail
            refine (C9 _).out.mono ?_
            rintro e w1 ⟨rfl, hb⟩
            have F1 := HF.out.below hb
            obtain ⟨d0, d1, f0, f1⟩ := F1.cells
            obtain ⟨p0, p1⟩ := F1.put 9 (k : Int)
            have HB2 := hide (below_fault (u := .int .i64 9) (v := .int .i64 (k : Int)) (HW2.out.trans (hb.mono HW2.out.size)) (Nat.le_refl w.heap.size))
            clear hb F1
            go_wp2_with fail
            exact bodyPost_ret (v := .tuple #[.int .i64 0, .int .i64 0, fv (9, k)]) (by simp [results, Tryd.results30, go_sem, fv, p0, p1]) rfl ⟨_, HX.out, rfl, HB2.out⟩
        · have hX : JoinP k r M ((a, m) :: (rs.zip ms).drop (k + 1)) (0, 0, 5, (k : Int)) := by
            rw [JoinP, if_pos HO.out, hG, if_neg (fun h => hgd (hax.1 h))]
          have HX := hide (HJ.out _ (HP.out _ hX))
          have q3 : ((x - y).tmod (G : Int) != 0) = true := by
            rw [bne_iff_ne]; exact fun h => hgd (Int.dvd_of_tmod_eq_zero h)
          clear hX hG hu hub h0 h1 h2 h3 h4 h5 h6 h7 h8 hGp hsp hGd hGle hax hgd
          go_wp2_with fail
          refine (T1 _).out.mono ?_
          rintro e w2 ⟨rfl, rfl⟩
          go_wp2_with fail
          refine (T2 _).out.mono ?_
          rintro e w2 ⟨rfl, rfl⟩
          go_wp2_with fail
          refine (C5 _).out.mono ?_
          rintro e w1 ⟨rfl, hb⟩
          have F1 := HF.out.below hb
          obtain ⟨d0, d1, f0, f1⟩ := F1.cells
          obtain ⟨p0, p1⟩ := F1.put 5 (k : Int)
          have HB2 := hide (below_fault (u := .int .i64 5) (v := .int .i64 (k : Int)) (HW2.out.trans (hb.mono HW2.out.size)) (Nat.le_refl w.heap.size))
          clear hb F1
          go_wp2_with fail
          exact bodyPost_ret (v := .tuple #[.int .i64 0, .int .i64 0, fv (5, k)]) (by simp [results, Tryd.results30, go_sem, fv, p0, p1]) rfl ⟨_, HX.out, rfl, HB2.out⟩
      · have HX : Hid (JoinAll rs ms (0, 0, 3, (k : Int))) := HJ.out _ (HP.out _ (by rw [JoinP, if_neg hv]))
        cases ha : okB a
        · rw [ha] at K1
          clear hv
          go_wp2_with fail
          refine (K1 _).out.mono ?_
          rintro e w1 ⟨rfl, rfl⟩
          go_wp2_with fail
          refine (C3 _).out.mono ?_
          rintro e w1 ⟨rfl, hb⟩
          have F1 := HF.out.below hb
          obtain ⟨d0, d1, f0, f1⟩ := F1.cells
          obtain ⟨p0, p1⟩ := F1.put 3 (k : Int)
          have HB2 := hide (below_fault (u := .int .i64 3) (v := .int .i64 (k : Int)) (HW2.out.trans (hb.mono HW2.out.size)) (Nat.le_refl w.heap.size))
          clear hb F1
          go_wp2_with fail
          exact bodyPost_ret (v := .tuple #[.int .i64 0, .int .i64 0, fv (3, k)]) (by simp [results, Tryd.results30, go_sem, fv, p0, p1]) rfl ⟨_, HX.out, rfl, HB2.out⟩
        · rw [ha] at K1
          by_cases hm1 : m < 1
          · have q2 : decide (m < 1) = true := by simpa using hm1
            clear hv hm1
            go_wp2_with fail
            refine (K1 _).out.mono ?_
            rintro e w1 ⟨rfl, rfl⟩
            go_wp2_with fail
            refine (C3 _).out.mono ?_
            rintro e w1 ⟨rfl, hb⟩
            have F1 := HF.out.below hb
            obtain ⟨d0, d1, f0, f1⟩ := F1.cells
            obtain ⟨p0, p1⟩ := F1.put 3 (k : Int)
            have HB2 := hide (below_fault (u := .int .i64 3) (v := .int .i64 (k : Int)) (HW2.out.trans (hb.mono HW2.out.size)) (Nat.le_refl w.heap.size))
            clear hb F1
            go_wp2_with fail
            exact bodyPost_ret (v := .tuple #[.int .i64 0, .int .i64 0, fv (3, k)]) (by simp [results, Tryd.results30, go_sem, fv, p0, p1]) rfl ⟨_, HX.out, rfl, HB2.out⟩
          · have q2 : decide (m < 1) = false := by simpa using hm1
            have hom : okB m = false := by
              cases h : okB m
              · rfl
              · exact (hv ⟨ha, by omega, h⟩).elim
            rw [hom] at K2
            clear hv hm1
            go_wp2_with fail
            refine (K1 _).out.mono ?_
            rintro e w1 ⟨rfl, rfl⟩
            go_wp2_with fail
            refine (K2 _).out.mono ?_
            rintro e w1 ⟨rfl, rfl⟩
            go_wp2_with fail
            refine (C3 _).out.mono ?_
            rintro e w1 ⟨rfl, hb⟩
            have F1 := HF.out.below hb
            obtain ⟨d0, d1, f0, f1⟩ := F1.cells
            obtain ⟨p0, p1⟩ := F1.put 3 (k : Int)
            have HB2 := hide (below_fault (u := .int .i64 3) (v := .int .i64 (k : Int)) (HW2.out.trans (hb.mono HW2.out.size)) (Nat.le_refl w.heap.size))
            clear hb F1
            go_wp2_with fail
            exact bodyPost_ret (v := .tuple #[.int .i64 0, .int .i64 0, fv (3, k)]) (by simp [results, Tryd.results30, go_sem, fv, p0, p1]) rfl ⟨_, HX.out, rfl, HB2.out⟩
    · obtain rfl : k = n := by omega
      have hx : JoinP k r M ((rs.zip ms).drop k) (r, M, 0, 0) := by
        rw [List.drop_of_length_le (by rw [List.length_zip, HRL.out, HML.out]; omega)]
        rfl
      have HX := hide (HJ.out _ (HP.out _ hx))
      clear hx
      have F1 : FC wr w.heap.size 0 0 := (FC.fresh w).below (by simpa using HW.out)
      obtain ⟨d0, d1, f0, f1⟩ := F1.cells
      obtain ⟨p0, p1⟩ := F1.put 0 0
      have HB2 := hide (below_fault (u := .int .i64 0) (v := .int .i64 0) (below_new (by simpa using HW.out)) (Nat.le_refl w.heap.size))
      clear F1
      go_wp2_with fail
      go_region
      go_wp2_with fail
      exact bodyPost_ret (v := .tuple #[.int .i64 r, .int .i64 M, fv (0, 0)]) (by simp [results, Tryd.results30, go_sem, fv, p0, p1]) rfl ⟨_, HX.out, rfl, HB2.out.drew⟩
end Go.Proofs.YtgocnjklpafabaaDoor
