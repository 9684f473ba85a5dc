/- The walk of curve.order. -/
import Derived.Test.YtofjmnodfabohaaGreatDoorKCurvQ
import Derived.Test.YtofjmnodfabohaaGreatDoorKPRead
import Derived.Deep.RegionHeld3
namespace Go.Proofs.YtofjmnodfabohaaGreatDoor
open Go.RowKit
open CV

theorem Pr.in_pprod {q : Nat} (hq : Pr q) : ∀ {l : List (Nat × Nat)}, (∀ x ∈ l, Pr x.1) → q ∣ pprod l → ∃ x ∈ l, x.1 = q
  | [], _, h => by
    have := Nat.dvd_one.1 h
    have := hq.1
    omega
  | (p, t) :: l, hl, h => by
    rcases hq.dvd_mul (show q ∣ p ^ t * pprod l from h) with k | k
    · refine ⟨(p, t), by simp, ?_⟩
      rcases (hl (p, t) (by simp)).2 q (hq.dvd_pow t k) with e | e
      · have := hq.1
        omega
      · exact e.symm
    · obtain ⟨x, hx, e⟩ := hq.in_pprod (fun y hy => hl y (by simp [hy])) k
      exact ⟨x, by simp [hx], e⟩
/-- what is known of n behind the first k primes -/
def OrdI (p : Nat) (a : Int) (P : CP) (many n : Nat) (l : List (Nat × Nat)) (k : Nat) : Prop :=
  1 ≤ n ∧ n ∣ many ∧ mulC p a n P = farC ∧ ∀ (j : Nat) (x : Nat × Nat), j < k → l[j]? = some x → ¬ (x.1 ∣ n ∧ mulC p a (n / x.1) P = farC)
theorem OrdI.less {p : Nat} {a b : Int} {P : CP} {many n k : Nat} {l : List (Nat × Nat)} (G : AbG (okC p a b) (addC p a) farC (negC p)) (hP : okC p a b P) (h : OrdI p a P many n l k) {q : Nat} (hq : 2 ≤ q) (hd : q ∣ n) (hf : mulC p a (n / q) P = farC) : OrdI p a P many (n / q) l k := by
  obtain ⟨h1, h2, _, h4⟩ := h
  obtain ⟨m, rfl⟩ := hd
  rw [Nat.mul_div_cancel_left _ (by omega)] at hf ⊢
  have hm : 1 ≤ m := by
    rcases Nat.eq_zero_or_pos m with rfl | hm
    · simp at h1
    · exact hm
  refine ⟨hm, Nat.dvd_trans (Nat.dvd_mul_left m q) h2, hf, fun j x hj hx ⟨k1, k2⟩ => h4 j x hj hx ⟨Nat.dvd_trans k1 (Nat.dvd_mul_left m q), ?_⟩⟩
  rw [Nat.mul_div_assoc q k1]
  exact G.dvd_zero hP k2 (Nat.dvd_mul_left _ _)
theorem OrdI.ord {p : Nat} {a b : Int} {P : CP} {many n : Nat} {l : List (Nat × Nat)} (G : AbG (okC p a b) (addC p a) farC (negC p)) (hP : okC p a b P) (h : OrdI p a P many n l l.length) (hl : ∀ x ∈ l, Pr x.1) (hp : pprod l = many) : IsOrd (addC p a) farC P n := by
  obtain ⟨h1, h2, h3, h4⟩ := h
  obtain ⟨m, hm⟩ := ord_ex (add := addC p a) (zero := farC) n h1 h3
  have hd := G.ord_dvd hP hm h3
  obtain ⟨d, rfl⟩ := hd
  have hm1 := hm.1
  by_cases hd1 : d = 1
  · subst hd1
    rwa [Nat.mul_one]
  · exfalso
    have hd2 : 2 ≤ d := by
      rcases Nat.eq_zero_or_pos d with rfl | h0
      · simp at h1
      · omega
    obtain ⟨q, hq, hqd⟩ := least_div hd2
    obtain ⟨x, hx, e⟩ := hq.in_pprod hl (by rw [hp]; exact Nat.dvd_trans (Nat.dvd_trans hqd (Nat.dvd_mul_left d m)) h2)
    obtain ⟨j, hj, hxj⟩ := List.getElem_of_mem hx
    refine h4 j x hj (by rw [List.getElem?_eq_getElem hj, hxj]) ⟨by rw [e]; exact Nat.dvd_trans hqd (Nat.dvd_mul_left d m), ?_⟩
    rw [e, Nat.mul_div_assoc m hqd]
    exact G.dvd_zero hP hm.2.1 (Nat.dvd_mul_right m _)
theorem parts_ok {N : Nat} {S : List Nat} (h1 : 1 ≤ N) (hN : N ≤ 100000000) (hr : Rise S) (ht : Told0 N S) : (∀ x ∈ grp S, Pr x.1) ∧ pprod (grp S) = N ∧ (grp S).length ≤ 100 := by
  have hpr := told_pr hN h1 ht
  have k := grp_ok (P := Pr) hr (fun p hp => ⟨hpr p hp, (hpr p hp).1⟩) S.length (Nat.le_refl _)
  rw [List.take_length] at k
  have hs := (grp_small (L := S) S.length (Nat.le_refl _)).1
  rw [List.take_length] at hs
  have hl := told_len ht
  have hl2 : S.length ≤ 60 := by
    rcases Nat.lt_or_ge 60 S.length with h | h
    · have := Nat.pow_le_pow_right (show 0 < 2 by omega) (Nat.le_of_lt h)
      omega
    · exact h
  exact ⟨fun x hx => (k.1.1 x hx).1, k.2.2.1.trans ht.1, by omega⟩
theorem field_far (x y : Int) (f : Bool) (w : World) : (Instr.field 33 (.agg #[.int .i64 x, .int .i64 y, .bool f]) 2).run Tryz.prog w = .ok (.bool f) w := by kernel_rfl
theorem okC.far_iff {p : Nat} {a b : Int} {R : CP} (h : okC p a b R) : R.far = true ↔ R = farC := ⟨h.isfar, fun e => by rw [e]; rfl⟩
theorem OrdI.next {p : Nat} {a : Int} {P : CP} {many n k : Nat} {l : List (Nat × Nat)} {x : Nat × Nat} (h : OrdI p a P many n l k) (hx : l[k]? = some x) (hn : ¬ (x.1 ∣ n ∧ mulC p a (n / x.1) P = farC)) : OrdI p a P many n l (k + 1) := by
  obtain ⟨h1, h2, h3, h4⟩ := h
  refine ⟨h1, h2, h3, fun j y hj hy => ?_⟩
  rcases Nat.lt_succ_iff_lt_or_eq.1 hj with e | rfl
  · exact h4 j y e hy
  · rw [hx] at hy
    injection hy with hy
    rw [← hy]
    exact hn
/-- order's memory -/
structure OdM (w W : World) (p a b : Int) (P : CP) : Prop where
  c : KB W w.heap.size #[.int .i64 p, .int .i64 a, .int .i64 b] 36
  q : KB W (w.heap.size + 1) #[.int .i64 P.x, .int .i64 P.y, .bool P.far] 33
  b : Below w.heap.size w W
theorem OdM.below {w W W' : World} {p a b : Int} {P : CP} (h : OdM w W p a b P) (k : Below W.heap.size W W') : OdM w W' p a b P := ⟨h.c.below k, h.q.below k, h.b.trans (k.mono h.b.size)⟩
theorem OdM.start (w : World) (p a b : Int) (P : CP) : OdM w ((w.alloc (.cells #[.int .i64 p, .int .i64 a, .int .i64 b] 36)).alloc (.cells #[.int .i64 P.x, .int .i64 P.y, .bool P.far] 33)) p a b P := by
  have b1 := bel_x w (.cells #[.int .i64 p, .int .i64 a, .int .i64 b] 36)
  have b2 := bel_x (w.alloc (.cells #[.int .i64 p, .int .i64 a, .int .i64 b] 36)) (.cells #[.int .i64 P.x, .int .i64 P.y, .bool P.far] 33)
  have k := KB.made (w.alloc (.cells #[.int .i64 p, .int .i64 a, .int .i64 b] 36)) #[.int .i64 P.x, .int .i64 P.y, .bool P.far] 33
  rw [World.size_alloc] at k
  exact ⟨(KB.made w _ _).below b2, k, b1.trans (b2.mono b1.size)⟩
/-- what order answers -/
def RetOrd (w : World) (p : Nat) (a : Int) (P : CP) : Ending → World → Prop := fun e w' => ∃ n : Nat, e = .returned (.int .i64 (n : Int)) ∧ IsOrd (addC p a) farC P n ∧ Below w.heap.size w w'

set_option maxRecDepth 100000 in
set_option maxHeartbeats 6400000 in
theorem corder_any (p : Nat) (a b : Int) (N : Nat) (P : CP) (w : World) (h : OkCv p a b) (hP : okC p a b P) (h1 : 1 ≤ N) (h2 : N ≤ 100000000) (hf : mulC p a N P = farC) (hT : TabW w) :
    Calls Tryz.prog 11 #[cvv p a b, .int .i64 (N : Int), ptv P] w (RetOrd w p a P) := by
  have HG := hide (cgroup h)
  have HPP := hide hP
  have HM := hide (OdM.start w p a b P)
  have CP' := hide (parts_any N ((w.alloc (.cells #[.int .i64 p, .int .i64 a, .int .i64 b] 36)).alloc (.cells #[.int .i64 P.x, .int .i64 P.y, .bool P.far] 33)) h1 (by omega) (hT.below HM.out.b))
  have CT := fun (n : Nat) (hn : n ≤ N) W => hide (ctimes_any p a b (n : Int) P W h hP (by omega) (by omega))
  have HCT := hide CT
  have HN := hide (And.intro h1 h2)
  have HF := hide hf
  have KF := field_far
  clear h hP h1 h2 hf hT CT
  unfold cvv ptv
  go_enter Tryz.func11, Tryz.ntmps11
  go_upto_region 1 with (fail)
  obtain ⟨W1, hW1⟩ : ∃ Z, ((w.alloc (.cells #[.int .i64 p, .int .i64 a, .int .i64 b] 36)).alloc (.cells #[.int .i64 P.x, .int .i64 P.y, .bool P.far] 33)) = Z := ⟨_, rfl⟩
  rw [hW1] at HM CP' ⊢
  clear hW1
  go_wp2_with fail
  refine CP'.out.mono ?_
  rintro e W2 ⟨v, S, rfl, hr, ht, hrow, hb⟩
  obtain ⟨k1, k2, k3⟩ := parts_ok HN.out.1 HN.out.2 hr ht
  obtain ⟨L, hL⟩ : ∃ L, grp S = L := ⟨_, rfl⟩
  rw [hL] at k1 k2 k3 hrow
  have HK1 := hide k1
  have HK2 := hide k2
  have HL := hide k3
  have HM2 := hide (HM.out.below hb)
  have HR := hide hrow.read
  obtain ⟨A, cp, rfl⟩ := hrow.form
  have HI : Hid (OrdI p a P N N L 0) := hide ⟨HN.out.1, Nat.dvd_refl _, HF.out, fun j x hj => by omega⟩
  clear k1 k2 hr ht hrow hb HM CP' hL HF
  obtain ⟨NI, hNI⟩ : ∃ v : Int, (N : Int) = v := ⟨_, rfl⟩
  have HNI : Hid (NI = (N : Int) ∧ N ≤ N) := hide ⟨hNI.symm, Nat.le_refl _⟩
  rw [hNI]
  clear hNI
  go_wp2_with fail
  go_loopw [14, 7] (fun jv nv wr => ∃ (j : Nat) (ni : Int) (n : Nat), jv = .int .i64 j ∧ nv = .int .i64 ni ∧ j ≤ L.length ∧ Hid (ni = (n : Int) ∧ n ≤ N) ∧ Hid (OrdI p a P N n L j) ∧ Hid (Below W2.heap.size W2 wr)) (fun jv _ _ => 101 - (intOf jv).toNat)
  case atStart => exact ⟨0, NI, N, rfl, rfl, by omega, HNI, HI, hide (Below.refl _ _)⟩
  case round =>
    clear HNI HI
    obtain ⟨j, ni, n, rfl, rfl, hj, HNI, HI, HB⟩ := hrel
    by_cases hjl : j < L.length
    · obtain ⟨g, c', x, ev, hgl, hx, x1, x2⟩ := HR.out.at_ hjl
      injection ev with ev1 ev2 ev3
      subst ev1 ev3
      have HX := hide hx
      have cx1 := (HB.out.cell (p := ⟨g, j * 2, none⟩) hgl).trans x1
      have cx2 := (HB.out.cell (p := ⟨g, j * 2 + 1, none⟩) hgl).trans x2
      obtain ⟨li, hli⟩ : ∃ v : Int, ((x.1 : Nat) : Int) = v := ⟨_, rfl⟩
      obtain ⟨ti, hti⟩ : ∃ v : Int, ((x.2 : Nat) : Int) = v := ⟨_, rfl⟩
      rw [hli] at cx1
      rw [hti] at cx2
      have HLI := hide hli
      have hpx := HK1.out x (List.mem_of_getElem? hx)
      have hx2 := hpx.1
      have HP2 : Hid (2 ≤ x.1) := hide hx2
      have q0 : (j : Int) < (L.length : Int) := by omega
      have HJ := hide hjl
      have HKL := hide (KB.made wr #[.int .i64 li, .int .i64 ti] 51)
      have HBL := hide (HB.out.trans ((bel_x wr (.cells #[.int .i64 li, .int .i64 ti] 51)).mono HB.out.size))
      clear x1 x2 ev2 hx hpx hj
      go_wp2_with fail
      obtain ⟨W3, hW3⟩ : ∃ Z, wr.alloc (.cells #[.int .i64 li, .int .i64 ti] 51) = Z := ⟨_, rfl⟩
      obtain ⟨gl, hgl'⟩ : ∃ Z, wr.heap.size = Z := ⟨_, rfl⟩
      rw [hW3, hgl'] at HKL
      rw [hW3] at HBL
      (try rw [hW3])
      (try rw [hgl'])
      clear hW3 hgl' cx1 cx2 hgl HB hli hti
      go_loopw [7] (fun nv wq => ∃ (ni : Int) (n : Nat), nv = .int .i64 ni ∧ Hid (ni = (n : Int) ∧ n ≤ N) ∧ Hid (OrdI p a P N n L j) ∧ Hid (KB wq gl #[.int .i64 li, .int .i64 ti] 51) ∧ Hid (Below W2.heap.size W2 wq)) (fun nv _ => (intOf nv).toNat)
      case atStart => exact ⟨ni, n, rfl, HNI, HI, HKL, HBL⟩
      case round =>
        clear HNI HI HKL HBL
        obtain ⟨ni, n, rfl, HNI, HI, HKL, HB⟩ := hrel
        have HMW := hide (HM2.out.below HB.out)
        have K := fun (W : World) (k : Below wr.heap.size wr W) => hide (show ((W.cell? ⟨w.heap.size, 0, none⟩ = some (.int .i64 (p : Int)) ∧ W.cell? ⟨w.heap.size, 1, none⟩ = some (.int .i64 a) ∧ W.cell? ⟨w.heap.size, 2, none⟩ = some (.int .i64 b)) ∧ (W.cell? ⟨w.heap.size + 1, 0, none⟩ = some (.int .i64 P.x) ∧ W.cell? ⟨w.heap.size + 1, 1, none⟩ = some (.int .i64 P.y) ∧ W.cell? ⟨w.heap.size + 1, 2, none⟩ = some (.bool P.far)) ∧ W.cell? ⟨gl, 0, none⟩ = some (.int .i64 li)) ∧ Hid (Below wr.heap.size wr W) from ⟨⟨(HMW.out.c.below k).three, (HMW.out.q.below k).three, (HKL.out.below k).cell rfl⟩, hide k⟩)
        obtain ⟨⟨⟨c0, c1, c2⟩, ⟨d0, d1, d2⟩, l0⟩, _⟩ := (K wr (Below.refl _ _)).out
        have li0 : li ≠ 0 := by have := HLI.out; omega
        have lid : decide (li = 0) = false := by simpa using li0
        by_cases hd : x.1 ∣ n
        · have hr0 : ni.tmod li = 0 := by
            rw [HNI.out.1, ← HLI.out]
            exact Int.tmod_eq_zero_of_dvd (Int.ofNat_dvd.2 hd)
          have hqn := Nat.div_le_self n x.1
          obtain ⟨m, hm⟩ : ∃ m, n / x.1 = m := ⟨_, rfl⟩
          have HMM := hide hm
          obtain ⟨qi, hqi⟩ : ∃ v : Int, ((m : Nat) : Int) = v := ⟨_, rfl⟩
          have hq : ni.tdiv li = qi := by rw [HNI.out.1, ← HLI.out, ← hqi, ← hm]; rfl
          rw [hm] at hqn
          have CT := HCT.out m (by have := HNI.out.2; omega)
          rw [hqi] at CT
          have hwq : IntKind.i64.wrap qi = qi := by
            have := HNI.out.2
            have := HN.out.2
            rw [IntKind.wrap_i64]
            omega
          have hz : zC p a qi P = mulC p a m P := by
            unfold zC zm mulC
            rw [if_neg (by omega), ← hqi]
            rfl
          rw [hz] at CT
          have hok : okC p a b (mulC p a m P) := HG.out.nmok HPP.out _
          obtain ⟨R, hR⟩ : ∃ R, mulC p a m P = R := ⟨_, rfl⟩
          rw [hR] at CT hok
          have HR1 := hide hR
          have HOK := hide hok
          have HQI := hide hqi
          have HD := hide hd
          unfold cvv ptv at CT
          have HQN := hide hqn
          clear hz hok hR hqi hd hqn hm
          go_wp2_with fail
          go_region_held3 (fun W => ((W.cell? ⟨w.heap.size, 0, none⟩ = some (.int .i64 (p : Int)) ∧ W.cell? ⟨w.heap.size, 1, none⟩ = some (.int .i64 a) ∧ W.cell? ⟨w.heap.size, 2, none⟩ = some (.int .i64 b)) ∧ (W.cell? ⟨w.heap.size + 1, 0, none⟩ = some (.int .i64 P.x) ∧ W.cell? ⟨w.heap.size + 1, 1, none⟩ = some (.int .i64 P.y) ∧ W.cell? ⟨w.heap.size + 1, 2, none⟩ = some (.bool P.far)) ∧ W.cell? ⟨gl, 0, none⟩ = some (.int .i64 li)) ∧ Hid (Below wr.heap.size wr W)) (first | exact (K _ (below_drewN (Below.refl _ _) 1)).out | exact (K _ ((below_drewN (Below.refl _ _) 1).trans (hb.mono (Nat.le_refl _)))).out) ((go_at_call 20; refine (CT _).out.mono ?_; rintro e w5 ⟨rfl, hb⟩))
          all_goals
            have hb1 := hide ((below_drewN (Below.refl wr.heap.size wr) 1).trans (hb.mono (Nat.le_refl _)))
            have HB5 := hide (HB.out.trans (hb1.out.mono HB.out.size))
            have HK5 := hide (HKL.out.below hb1.out)
            have l5 := HK5.out.cell (i := 0) rfl
            clear hb hb1 K c0 c1 c2 d0 d1 d2 l0 CT HB HKL HMW
            cases hRf : R.far
            · have HI5 : Hid (OrdI p a P N n L (j + 1)) := hide (HI.out.next HX.out (fun ⟨_, k⟩ => by
                rw [HMM.out, HR1.out] at k
                rw [k] at hRf
                cases hRf))
              have HJ5 : j ≤ 1000 := by have := HJ.out; have := HL.out; omega
              clear HI hRf
              go_wp2_with fail
              go_roundw
              case rel => exact ⟨j + 1, ni, n, by go_num, rfl, by have := HJ.out; omega, HNI, HI5, HB5⟩
              case measure => have := HJ.out; have := HL.out; simp [intOf]; omega
            · have HI5 : Hid (OrdI p a P N m L j) := hide (by
                have k := HI.out.less HG.out HPP.out HP2.out HD.out (by rw [HMM.out, HR1.out]; exact HOK.out.isfar hRf)
                rwa [HMM.out] at k)
              have HN5 : Hid (qi = (m : Int) ∧ m ≤ N) := hide ⟨HQI.out.symm, Nat.le_trans HQN.out HNI.out.2⟩
              have hn1 := HI.out.1
              have HLT : Hid (qi < ni) := hide (by
                have k := Nat.div_lt_self (show 0 < n by omega) (show 1 < x.1 by have := HP2.out; omega)
                rw [HMM.out] at k
                have := HNI.out.1
                have := HQI.out
                omega)
              have HQ0 : Hid (0 ≤ qi) := hide (by have := HQI.out; omega)
              clear HI hRf hn1
              go_wp2_with fail
              go_roundw
              case rel => exact ⟨qi, m, rfl, HN5, HI5, HK5, HB5⟩
              case measure => have := HLT.out; have := HQ0.out; simp [intOf]; omega
        · have hr1 : ni.tmod li ≠ 0 := fun e => hd (by
            rw [HNI.out.1, ← HLI.out] at e
            exact Int.ofNat_dvd.1 (Int.dvd_of_tmod_eq_zero e))
          obtain ⟨r, hr⟩ : ∃ r, ni.tmod li = r := ⟨_, rfl⟩
          rw [hr] at hr1
          have hr2 : (r == 0) = false := by simpa using hr1
          have HI5 : Hid (OrdI p a P N n L (j + 1)) := hide (HI.out.next HX.out (fun ⟨k, _⟩ => hd k))
          have HJ5 : j ≤ 1000 := by have := HJ.out; have := HL.out; omega
          clear hd hr1 HI K
          go_wp2_with fail
          go_quiet (fail)
          go_wp2_with fail
          go_roundw
          case rel => exact ⟨j + 1, ni, n, by go_num, rfl, by have := HJ.out; omega, HNI, HI5, hide (HB.out.trans ((below_drewN (Below.refl _ _) _).mono HB.out.size))⟩
          case measure => have := HJ.out; have := HL.out; simp [intOf]; omega
    · have hje : j = L.length := by omega
      have HO := hide (OrdI.ord HG.out HPP.out (by have := HI.out; rwa [hje] at this) HK1.out HK2.out)
      have HBE := hide (HM2.out.b.trans (HB.out.mono HM2.out.b.size))
      clear hj HI HB
      go_wp2_with fail
      go_ret
      exact ⟨n, by rw [HNI.out.1]; rfl, HO.out, HBE.out⟩
end Go.Proofs.YtofjmnodfabohaaGreatDoor
