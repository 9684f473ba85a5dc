/- The walk of curve.add. -/
import Derived.Test.YtofjmnodfabohaaGreatDoorKCurvE
import Derived.Test.YtofjmnodfabohaaGreatDoorKWholeC
namespace Go.Proofs.YtofjmnodfabohaaGreatDoor
open Go.RowKit
open CV

theorem inv_uniq {p : Nat} [NeZero p] {u q r : Fin p} (h : u * q = 1) (k : u * r = 1) : q = r := by
  have e : q = q * (u * r) := by rw [k]; grind only
  have e2 : q * (u * r) = (u * q) * r := by grind only
  rw [e, e2, h]
  grind only
theorem inv_u {p : Nat} (hp : Pr p) {u q : Int} (hu : u % (p : Int) ≠ 0) (h0 : 0 ≤ q) (h1 : q < p) (hq : (p : Int) ∣ u * q - 1) : q = inv p u := by
  have hne : NeZero p := ⟨by have := hp.1; omega⟩
  have e1 : fi p u * fi p q = 1 := by
    rw [← fi_mul, ← fi_lit1, fi_iff]
    exact (Int.emod_emod_of_dvd _ (Int.dvd_refl _)).symm.trans (by rw [Int.emod_eq_emod_iff_emod_sub_eq_zero.2 (Int.emod_eq_zero_of_dvd hq), Int.emod_emod_of_dvd _ (Int.dvd_refl _)])
  have e2 := inv_mul hp hu
  have hp2 := hp.1
  have b0 : 0 ≤ inv p u ∧ inv p u < p := by
    unfold inv
    have := Nat.mod_lt ((u % (p : Int)).toNat ^ (p - 2)) (show 0 < p by omega)
    omega
  refine fi_small h0 h1 b0.1 b0.2 (p := p) ?_
  exact inv_uniq e1 e2
theorem gcd_one {p : Nat} (hp : Pr p) {u : Int} (hu : u % (p : Int) ≠ 0) : Int.gcd u (p : Int) = 1 := by
  have h := hp.coprime (k := u.natAbs) (fun hd => hu (Int.emod_eq_zero_of_dvd (Int.ofNat_dvd_left.2 hd)))
  rw [Nat.gcd_comm] at h
  exact h
theorem cInv_any (p : Nat) (u : Int) (w : World) (hp : Pr p) (hp2 : p ≤ 2000) (hu : u % (p : Int) ≠ 0) (h1 : -1000000000 ≤ u) (h2 : u ≤ 1000000000) :
    Calls Tryz.prog 45 #[.int .i64 u, .int .i64 (p : Int)] w fun e w' => e = .returned (.tuple #[.int .i64 (inv p u), .agg #[.int .i64 0, .int .i64 0]]) ∧ Below w.heap.size w w' := by
  have hF : invF u (p : Int) = (0, 0) := by
    unfold invF
    have hl : lookK 0 [u, (p : Int)] = (0, 0) := by
      rw [lookK, if_pos (by unfold okB; simp; omega), lookK, if_pos (by unfold okB; simp; omega), lookK]
    rw [hl, if_neg (by simp), if_neg (by have := hp.1; omega), if_neg (by rw [gcd_one hp hu]; simp)]
  refine (inverse_any u (p : Int) w).mono ?_
  rintro e w' ⟨q, rfl, hq, _, hb⟩
  rw [hF] at hq ⊢
  obtain ⟨a1, a2, a3⟩ := hq rfl
  rw [← inv_u hp hu a1 a2 a3]
  exact ⟨rfl, hb⟩

/-- add's memory -/
structure AdM (w W : World) (p a b : Int) (P Q : CP) : Prop where
  c : KB W w.heap.size #[.int .i64 p, .int .i64 a, .int .i64 b] 36
  u : KB W (w.heap.size + 1) #[.int .i64 P.x, .int .i64 P.y, .bool P.far] 33
  v : KB W (w.heap.size + 1 + 1) #[.int .i64 Q.x, .int .i64 Q.y, .bool Q.far] 33
  r : KB W (w.heap.size + 1 + 1 + 1) #[.int .i64 0, .int .i64 0, .bool false] 33
  b : Below w.heap.size w W
theorem AdM.below {w W W' : World} {p a b : Int} {P Q : CP} (h : AdM w W p a b P Q) (hb : Below W.heap.size W W') : AdM w W' p a b P Q :=
  ⟨h.c.below hb, h.u.below hb, h.v.below hb, h.r.below hb, h.b.trans (hb.mono h.b.size)⟩
theorem AdM.drw {w W : World} {p a b : Int} {P Q : CP} (h : AdM w W p a b P Q) (n : Nat) : AdM w (W.drewN n) p a b P Q := h.below (below_drewN (Below.refl _ _) n)
theorem AdM.start (w : World) (p a b : Int) (P Q : CP) : AdM w ((((w.alloc (.cells #[.int .i64 p, .int .i64 a, .int .i64 b] 36)).alloc (.cells #[.int .i64 P.x, .int .i64 P.y, .bool P.far] 33)).alloc (.cells #[.int .i64 Q.x, .int .i64 Q.y, .bool Q.far] 33)).alloc (.cells #[.int .i64 0, .int .i64 0, .bool false] 33)) p a b P Q := by
  have k1 := KB.made w #[.int .i64 p, .int .i64 a, .int .i64 b] 36
  have b1 := bel_x w (.cells #[.int .i64 p, .int .i64 a, .int .i64 b] 36)
  obtain ⟨W1, hW1⟩ : ∃ Z, w.alloc (.cells #[.int .i64 p, .int .i64 a, .int .i64 b] 36) = Z := ⟨_, rfl⟩
  have s1 : W1.heap.size = w.heap.size + 1 := by rw [← hW1, World.size_alloc]
  rw [hW1] at k1 b1 ⊢
  have k2 := KB.made W1 #[.int .i64 P.x, .int .i64 P.y, .bool P.far] 33
  have b2 := bel_x W1 (.cells #[.int .i64 P.x, .int .i64 P.y, .bool P.far] 33)
  obtain ⟨W2, hW2⟩ : ∃ Z, W1.alloc (.cells #[.int .i64 P.x, .int .i64 P.y, .bool P.far] 33) = Z := ⟨_, rfl⟩
  have s2 : W2.heap.size = w.heap.size + 1 + 1 := by rw [← hW2, World.size_alloc, s1]
  rw [hW2] at k2 b2 ⊢
  have k3 := KB.made W2 #[.int .i64 Q.x, .int .i64 Q.y, .bool Q.far] 33
  have b3 := bel_x W2 (.cells #[.int .i64 Q.x, .int .i64 Q.y, .bool Q.far] 33)
  obtain ⟨W3, hW3⟩ : ∃ Z, W2.alloc (.cells #[.int .i64 Q.x, .int .i64 Q.y, .bool Q.far] 33) = Z := ⟨_, rfl⟩
  have s3 : W3.heap.size = w.heap.size + 1 + 1 + 1 := by rw [← hW3, World.size_alloc, s2]
  rw [hW3] at k3 b3 ⊢
  have k4 := KB.made W3 #[.int .i64 0, .int .i64 0, .bool false] 33
  have b4 := bel_x W3 (.cells #[.int .i64 0, .int .i64 0, .bool false] 33)
  rw [s1] at k2
  rw [s2] at k3
  rw [s3] at k4
  have c2 := b1.trans (b2.mono b1.size)
  have c3 := c2.trans (b3.mono c2.size)
  exact ⟨((k1.below b2).below b3).below b4, (k2.below b3).below b4, k3.below b4, k4, c3.trans (b4.mono c3.size)⟩
/-- the answer's cells, written -/
theorem ad_put {w W : World} {p a b : Int} {P Q : CP} (h : AdM w W p a b P Q) (x y : Int) (f : Bool) :
    KB (((W.setCell ⟨w.heap.size + 1 + 1 + 1, 0, none⟩ (.int .i64 x)).setCell ⟨w.heap.size + 1 + 1 + 1, 1, none⟩ (.int .i64 y)).setCell ⟨w.heap.size + 1 + 1 + 1, 2, none⟩ (.bool f)) (w.heap.size + 1 + 1 + 1) #[.int .i64 x, .int .i64 y, .bool f] 33 ∧
    Below w.heap.size w (((W.setCell ⟨w.heap.size + 1 + 1 + 1, 0, none⟩ (.int .i64 x)).setCell ⟨w.heap.size + 1 + 1 + 1, 1, none⟩ (.int .i64 y)).setCell ⟨w.heap.size + 1 + 1 + 1, 2, none⟩ (.bool f)) :=
  ⟨((h.r.set 0 (.int .i64 x)).set 1 (.int .i64 y)).set 2 (.bool f), ((h.b.setCell (p := ⟨w.heap.size + 1 + 1 + 1, 0, none⟩) (show w.heap.size ≤ w.heap.size + 1 + 1 + 1 by omega) _).setCell (p := ⟨w.heap.size + 1 + 1 + 1, 1, none⟩) (show w.heap.size ≤ w.heap.size + 1 + 1 + 1 by omega) _).setCell (p := ⟨w.heap.size + 1 + 1 + 1, 2, none⟩) (show w.heap.size ≤ w.heap.size + 1 + 1 + 1 by omega) _⟩
/-- the sums and products behind the slope -/
theorem add_wraps {p k x1 x2 y1 x : Int} (hp : p ≤ 2000) (hk : 0 ≤ k ∧ k < p) (h1 : 0 ≤ x1 ∧ x1 < p) (h2 : 0 ≤ x2 ∧ x2 < p) (h3 : 0 ≤ y1 ∧ y1 < p) (hx : 0 ≤ x ∧ x < p) :
    (IntKind.i64.wrap (k * k) = k * k ∧ IntKind.i64.wrap (k * k - x1) = k * k - x1 ∧ IntKind.i64.wrap (k * k - x1 - x2) = k * k - x1 - x2 ∧ IntKind.i64.wrap (x1 - x) = x1 - x ∧ IntKind.i64.wrap (k * (x1 - x)) = k * (x1 - x) ∧ IntKind.i64.wrap (k * (x1 - x) - y1) = k * (x1 - x) - y1) ∧ (k * k - x1 - x2).natAbs ≤ 1000000000 ∧ (k * (x1 - x) - y1).natAbs ≤ 1000000000 := by
  have e1 := mul_le2 (x := k) (y := k) (p := 2000) (q := 2000) (by omega) (by omega) (by omega) (by omega)
  have e2 : (k * (x1 - x)).natAbs ≤ 2000 * 2000 := by rw [Int.natAbs_mul]; exact Nat.mul_le_mul (by omega) (by omega)
  simp only [IntKind.wrap_i64]
  refine ⟨⟨by omega, by omega, by omega, by omega, by omega, by omega⟩, by omega, by omega⟩

set_option maxRecDepth 100000 in
set_option maxHeartbeats 3200000 in
theorem add_farP (p : Nat) (a b : Int) (P Q : CP) (w : World) (hf : P.far = true) :
    Calls Tryz.prog 28 #[cvv p a b, ptv P, ptv Q] w fun e w' => e = .returned (ptv (addC p a P Q)) ∧ Below w.heap.size w w' := by
  have HE : Hid (addC p a P Q = Q) := hide (if_pos hf)
  have HF := hide hf
  clear hf
  have HM := hide (AdM.start w p a b P Q)
  unfold cvv ptv
  go_enter Tryz.func28, Tryz.ntmps28
  go_upto_region 3 with (fail)
  obtain ⟨W4, hW4⟩ : ∃ Z, ((((w.alloc (.cells #[.int .i64 p, .int .i64 a, .int .i64 b] 36)).alloc (.cells #[.int .i64 P.x, .int .i64 P.y, .bool P.far] 33)).alloc (.cells #[.int .i64 Q.x, .int .i64 Q.y, .bool Q.far] 33)).alloc (.cells #[.int .i64 0, .int .i64 0, .bool false] 33)) = Z := ⟨_, rfl⟩
  rw [hW4] at HM ⊢
  clear hW4
  obtain ⟨c0, c1, c2⟩ := HM.out.c.three
  obtain ⟨u0, u1, u2⟩ := HM.out.u.three
  obtain ⟨v0, v1, v2⟩ := HM.out.v.three
  rw [HF.out] at u2
  obtain ⟨r0, r1, r2⟩ := HM.out.r.three
  have z0 := HM.out.r.frozen 0
  have z1 := HM.out.r.frozen 1
  have z2 := HM.out.r.frozen 2
  obtain ⟨k1, k2⟩ := ad_put HM.out Q.x Q.y Q.far
  have HK := hide k2
  obtain ⟨s0, s1, s2⟩ := k1.three
  clear k1 k2
  go_wp2_with fail
  exact bodyPost_ret (v := .agg #[.int .i64 Q.x, .int .i64 Q.y, .bool Q.far]) (by simp [results, Tryz.results28, go_sem, s0, s1, s2]) rfl ⟨by rw [HE.out], HK.out⟩

set_option maxRecDepth 100000 in
set_option maxHeartbeats 3200000 in
theorem add_farQ (p : Nat) (a b : Int) (P Q : CP) (w : World) (hf : P.far = false) (hg : Q.far = true) :
    Calls Tryz.prog 28 #[cvv p a b, ptv P, ptv Q] w fun e w' => e = .returned (ptv (addC p a P Q)) ∧ Below w.heap.size w w' := by
  have HE : Hid (addC p a P Q = P) := hide (by unfold addC; rw [if_neg (by rw [hf]; simp), if_pos hg])
  have HF := hide hf
  have HG := hide hg
  clear hf hg
  have HM := hide (AdM.start w p a b P Q)
  unfold cvv ptv
  go_enter Tryz.func28, Tryz.ntmps28
  go_upto_region 3 with (fail)
  obtain ⟨W4, hW4⟩ : ∃ Z, ((((w.alloc (.cells #[.int .i64 p, .int .i64 a, .int .i64 b] 36)).alloc (.cells #[.int .i64 P.x, .int .i64 P.y, .bool P.far] 33)).alloc (.cells #[.int .i64 Q.x, .int .i64 Q.y, .bool Q.far] 33)).alloc (.cells #[.int .i64 0, .int .i64 0, .bool false] 33)) = Z := ⟨_, rfl⟩
  rw [hW4] at HM ⊢
  clear hW4
  obtain ⟨c0, c1, c2⟩ := HM.out.c.three
  obtain ⟨u0, u1, u2⟩ := HM.out.u.three
  obtain ⟨v0, v1, v2⟩ := HM.out.v.three
  rw [HF.out] at u2
  rw [HG.out] at v2
  obtain ⟨r0, r1, r2⟩ := HM.out.r.three
  have z0 := HM.out.r.frozen 0
  have z1 := HM.out.r.frozen 1
  have z2 := HM.out.r.frozen 2
  obtain ⟨k1, k2⟩ := ad_put HM.out P.x P.y false
  have HK := hide k2
  obtain ⟨s0, s1, s2⟩ := k1.three
  clear k1 k2
  go_wp2_with fail
  exact bodyPost_ret (v := .agg #[.int .i64 P.x, .int .i64 P.y, .bool false]) (by simp [results, Tryz.results28, go_sem, s0, s1, s2]) rfl ⟨by rw [HE.out, HF.out], HK.out⟩

set_option maxRecDepth 100000 in
set_option maxHeartbeats 3200000 in
theorem add_opp (p : Nat) (a b : Int) (P Q : CP) (w : World) (h : OkCv p a b) (hP : okC p a b P) (hQ : okC p a b Q) (hf : P.far = false) (hg : Q.far = false) (hx : P.x = Q.x) (hy : (P.y + Q.y) % (p : Int) = 0) :
    Calls Tryz.prog 28 #[cvv p a b, ptv P, ptv Q] w fun e w' => e = .returned (ptv (addC p a P Q)) ∧ Below w.heap.size w w' := by
  have HE : Hid (addC p a P Q = farC) := hide (by unfold addC; rw [if_neg (by rw [hf]; simp), if_neg (by rw [hg]; simp), if_neg (by simpa using hx), if_pos hy])
  obtain ⟨⟨a1, a2⟩, ⟨a3, a4⟩, _⟩ := hP.near hf
  obtain ⟨⟨b1, b2⟩, ⟨b3, b4⟩, _⟩ := hQ.near hg
  have hp1 := h.p1
  have hp2 := h.p2
  have hpr : Pr p := Pr_of h.pr
  have w1 : IntKind.i64.wrap (P.y + Q.y) = P.y + Q.y := by rw [IntKind.wrap_i64]; omega
  have hr : (P.y + Q.y).tmod (p : Int) = 0 := (tmod_emod (by omega)).trans hy
  have hp0 : (p : Int) ≠ 0 := by omega
  have q1 : (Q.x != Q.x) = false := by simp
  have HF := hide hf
  have HG := hide hg
  have HX := hide hx
  clear h hP hQ a1 a2 a3 a4 b1 b2 b3 b4 hp1 hp2 hpr hy hf hg hx
  have HM := hide (AdM.start w p a b P Q)
  unfold cvv ptv
  go_enter Tryz.func28, Tryz.ntmps28
  go_upto_region 3 with (fail)
  obtain ⟨W4, hW4⟩ : ∃ Z, ((((w.alloc (.cells #[.int .i64 p, .int .i64 a, .int .i64 b] 36)).alloc (.cells #[.int .i64 P.x, .int .i64 P.y, .bool P.far] 33)).alloc (.cells #[.int .i64 Q.x, .int .i64 Q.y, .bool Q.far] 33)).alloc (.cells #[.int .i64 0, .int .i64 0, .bool false] 33)) = Z := ⟨_, rfl⟩
  rw [hW4] at HM ⊢
  clear hW4
  obtain ⟨c0, c1, c2⟩ := HM.out.c.three
  obtain ⟨u0, u1, u2⟩ := HM.out.u.three
  obtain ⟨v0, v1, v2⟩ := HM.out.v.three
  rw [HF.out] at u2
  rw [HG.out] at v2
  rw [HX.out] at u0
  obtain ⟨r0, r1, r2⟩ := HM.out.r.three
  have z0 := HM.out.r.frozen 0
  have z1 := HM.out.r.frozen 1
  have z2 := HM.out.r.frozen 2
  obtain ⟨k1, k2⟩ := ad_put HM.out 0 0 true
  have HK := hide k2
  obtain ⟨s0, s1, s2⟩ := k1.three
  clear k1 k2
  go_wp2_with fail
  exact bodyPost_ret (v := .agg #[.int .i64 0, .int .i64 0, .bool true]) (by simp [results, Tryz.results28, go_sem, s0, s1, s2]) rfl ⟨by rw [HE.out]; rfl, HK.out⟩
theorem quiet_sym {P : Program} {f : FuncId} {args : Array Value} {w : World} {n : Nat} {v : Value} (h : Calls P f args (w.drewN n) fun e w' => e = .returned v ∧ w.drewN n = w') : Calls P f args (w.drewN n) fun e w' => e = .returned v ∧ ∃ m, w' = w.drewN m :=
  h.mono fun _ _ ⟨h1, h2⟩ => ⟨h1, n, h2.symm⟩

set_option maxRecDepth 100000 in
set_option maxHeartbeats 3200000 in
theorem add_chord (p : Nat) (a b : Int) (P Q : CP) (w : World) (h : OkCv p a b) (hP : okC p a b P) (hQ : okC p a b Q) (hf : P.far = false) (hg : Q.far = false) (hx : P.x ≠ Q.x) :
    Calls Tryz.prog 28 #[cvv p a b, ptv P, ptv Q] w fun e w' => e = .returned (ptv (addC p a P Q)) ∧ Below w.heap.size w w' := by
  obtain ⟨⟨a1, a2⟩, ⟨a3, a4⟩, _⟩ := hP.near hf
  obtain ⟨⟨b1, b2⟩, ⟨b3, b4⟩, _⟩ := hQ.near hg
  have hp1 := h.p1
  have hp2 := h.p2
  have hpr : Pr p := Pr_of h.pr
  have hu : (Q.x - P.x) % (p : Int) ≠ 0 := fun e => hx (by
    obtain ⟨c, hc⟩ := Int.dvd_of_emod_eq_zero e
    have : c = 0 := by
      rcases (by omega : c ≤ -1 ∨ c = 0 ∨ 1 ≤ c) with k | k | k
      · have := Int.mul_le_mul_of_nonneg_left k (show (0 : Int) ≤ p by omega)
        omega
      · exact k
      · have := Int.mul_le_mul_of_nonneg_left k (show (0 : Int) ≤ p by omega)
        omega
    rw [this] at hc
    omega)
  have HE : Hid (addC p a P Q = lineC p P Q ((Q.y - P.y) % p * inv p (Q.x - P.x) % p)) := hide (by unfold addC; rw [if_neg (by rw [hf]; simp), if_neg (by rw [hg]; simp), if_pos hx])
  have CI := fun W => hide (cInv_any p (Q.x - P.x) W hpr (by omega) hu (by omega) (by omega))
  have w1 : IntKind.i64.wrap (Q.y - P.y) = Q.y - P.y := by rw [IntKind.wrap_i64]; omega
  have w2 : IntKind.i64.wrap (Q.x - P.x) = Q.x - P.x := by rw [IntKind.wrap_i64]; omega
  have q1 : (P.x != Q.x) = true := by simpa using hx
  have CT := fun W => hide (mod_any (Q.y - P.y) p W (by omega) (by omega) (by omega) (by omega))
  obtain ⟨T, hT⟩ : ∃ v, (Q.y - P.y) % (p : Int) = v := ⟨_, rfl⟩
  have hT1 := Int.emod_nonneg (Q.y - P.y) (show (p : Int) ≠ 0 by omega)
  have hT2 := Int.emod_lt_of_pos (Q.y - P.y) (show 0 < (p : Int) by omega)
  have hI1 : 0 ≤ inv p (Q.x - P.x) ∧ inv p (Q.x - P.x) < p := by
    unfold inv
    have := Nat.mod_lt (((Q.x - P.x) % (p : Int)).toNat ^ (p - 2)) (show 0 < p by omega)
    omega
  obtain ⟨I, hI⟩ : ∃ v, inv p (Q.x - P.x) = v := ⟨_, rfl⟩
  rw [hT] at CT hT1 hT2 HE
  rw [hI] at CI hI1 HE
  have hTI := mul_le2 (x := T) (y := I) (p := 2000) (q := 2000) (by omega) (by omega) (by omega) (by omega)
  have wTI : IntKind.i64.wrap (T * I) = T * I := by rw [IntKind.wrap_i64]; omega
  have rTI : (T * I).tmod (p : Int) = T * I % (p : Int) := tmod_emod hTI.1
  have hk1 := Int.emod_nonneg (T * I) (show (p : Int) ≠ 0 by omega)
  have hk2 := Int.emod_lt_of_pos (T * I) (show 0 < (p : Int) by omega)
  obtain ⟨k, hk⟩ : ∃ v, T * I % (p : Int) = v := ⟨_, rfl⟩
  rw [hk] at hk1 hk2 rTI HE
  have hx1 := Int.emod_nonneg (k * k - P.x - Q.x) (show (p : Int) ≠ 0 by omega)
  have hx2 := Int.emod_lt_of_pos (k * k - P.x - Q.x) (show 0 < (p : Int) by omega)
  obtain ⟨⟨m1, m2, m3, m4, m5, m6⟩, m7, m8⟩ := add_wraps (x := (k * k - P.x - Q.x) % (p : Int)) hp2 ⟨hk1, hk2⟩ ⟨a1, a2⟩ ⟨b1, b2⟩ ⟨a3, a4⟩ ⟨hx1, hx2⟩
  have CX := fun W => hide (mod_any (k * k - P.x - Q.x) p W (by omega) (by omega) (by omega) (by omega))
  obtain ⟨X, hX⟩ : ∃ v, (k * k - P.x - Q.x) % (p : Int) = v := ⟨_, rfl⟩
  have HE2 : Hid (addC p a P Q = ⟨X, (k * (P.x - X) - P.y) % (p : Int), false⟩) := hide (by rw [HE.out, ← hX]; rfl)
  rw [hX] at m4 m5 m6 m8 CX hx1 hx2
  have CY := fun W => hide (mod_any (k * (P.x - X) - P.y) p W (by omega) (by omega) (by omega) (by omega))
  obtain ⟨Y, hY⟩ : ∃ v, (k * (P.x - X) - P.y) % (p : Int) = v := ⟨_, rfl⟩
  rw [hY] at CY HE2
  have hp0 : (p : Int) ≠ 0 := by omega
  have HF := hide hf
  have HG := hide hg
  clear hf hg HE h hP hQ a1 a2 a3 a4 b1 b2 b3 b4 hp1 hp2 hpr hu hT1 hT2 hI1 hTI hk1 hk2 hx1 hx2 m7 m8 hT hI hk hX hY hx
  have HM := hide (AdM.start w p a b P Q)
  unfold cvv ptv
  go_enter Tryz.func28, Tryz.ntmps28
  go_upto_region 3 with (fail)
  obtain ⟨W4, hW4⟩ : ∃ Z, ((((w.alloc (.cells #[.int .i64 p, .int .i64 a, .int .i64 b] 36)).alloc (.cells #[.int .i64 P.x, .int .i64 P.y, .bool P.far] 33)).alloc (.cells #[.int .i64 Q.x, .int .i64 Q.y, .bool Q.far] 33)).alloc (.cells #[.int .i64 0, .int .i64 0, .bool false] 33)) = Z := ⟨_, rfl⟩
  rw [hW4] at HM ⊢
  clear hW4
  obtain ⟨c0, c1, c2⟩ := HM.out.c.three
  obtain ⟨u0, u1, u2⟩ := HM.out.u.three
  obtain ⟨v0, v1, v2⟩ := HM.out.v.three
  rw [HF.out] at u2
  rw [HG.out] at v2
  go_wp2_with fail
  go_quiet (fail)
  go_wp2_with fail
  refine (CI _).out.mono ?_
  rintro e w5 ⟨rfl, hb⟩
  have HM2 := hide (((HM.out.drw nq).below hb).below (bel_x w5 (.cells #[.int .i64 0, .int .i64 0] 23)))
  clear hb HM c0 c1 c2 u0 u1 u2 v0 v1 v2 CI
  go_wp2_with fail
  obtain ⟨W6, hW6⟩ : ∃ Z, w5.alloc (.cells #[.int .i64 0, .int .i64 0] 23) = Z := ⟨_, rfl⟩
  rw [hW6] at HM2 ⊢
  clear hW6
  obtain ⟨c0, c1, c2⟩ := HM2.out.c.three
  obtain ⟨u0, u1, u2⟩ := HM2.out.u.three
  obtain ⟨v0, v1, v2⟩ := HM2.out.v.three
  go_quiet ((go_at_call 46; exact quiet_sym (CT _).out))
  go_wp2_with fail
  refine (CX _).out.mono ?_
  rintro e w7 ⟨rfl, rfl⟩
  go_wp2_with fail
  refine (CY _).out.mono ?_
  rintro e w8 ⟨rfl, rfl⟩
  have HM3 := hide (HM2.out.drw nq)
  clear CT CX CY HM2 c0 c1 c2 u0 u1 u2 v0 v1 v2 wTI rTI m1 m2 m3 m4 m5 m6
  obtain ⟨r0, r1, r2⟩ := HM3.out.r.three
  have z0 := HM3.out.r.frozen 0
  have z1 := HM3.out.r.frozen 1
  have z2 := HM3.out.r.frozen 2
  obtain ⟨k1, k2⟩ := ad_put HM3.out X Y false
  have HK := hide k2
  obtain ⟨s0, s1, s2⟩ := k1.three
  clear k1 k2
  go_wp2_with fail
  exact bodyPost_ret (v := .agg #[.int .i64 X, .int .i64 Y, .bool false]) (by simp [results, Tryz.results28, go_sem, s0, s1, s2]) rfl ⟨by rw [HE2.out], HK.out⟩
theorem tan_low {p : Nat} {a b : Int} {P Q : CP} (h : OkCv p a b) (hP : okC p a b P) (hQ : okC p a b Q) (hf : P.far = false) (hg : Q.far = false) (hx : P.x = Q.x) (hy : (P.y + Q.y) % (p : Int) ≠ 0) : (2 * P.y) % (p : Int) ≠ 0 := fun e => by
  have hp1 := h.p1
  have hpr : Pr p := Pr_of h.pr
  have hne : NeZero p := ⟨by omega⟩
  have F := fld_of hpr (by omega)
  have oP := hP.on
  have oQ := hQ.on
  rw [pt_near hf] at oP
  rw [pt_near hg, ← hx] at oQ
  have h2 := (fi_zero (p := p)).2 e
  rw [fi_mul, fi_lit2] at h2
  have h3 : fi p P.y = 0 := F.two _ (by rw [← h2]; grind only)
  refine hy (fi_zero.1 (?_ : fi p (P.y + Q.y) = 0))
  rw [fi_add]
  rcases F.dom _ _ (same_sq oP oQ) with k | k
  · rw [← from_zero k, h3]
    grind only
  · exact k

set_option maxRecDepth 100000 in
set_option maxHeartbeats 3200000 in
theorem add_tangent (p : Nat) (a b : Int) (P Q : CP) (w : World) (h : OkCv p a b) (hP : okC p a b P) (hQ : okC p a b Q) (hf : P.far = false) (hg : Q.far = false) (hx : P.x = Q.x) (hy : (P.y + Q.y) % (p : Int) ≠ 0) :
    Calls Tryz.prog 28 #[cvv p a b, ptv P, ptv Q] w fun e w' => e = .returned (ptv (addC p a P Q)) ∧ Below w.heap.size w w' := by
  obtain ⟨⟨a1, a2⟩, ⟨a3, a4⟩, _⟩ := hP.near hf
  obtain ⟨⟨b1, b2⟩, ⟨b3, b4⟩, _⟩ := hQ.near hg
  have hp1 := h.p1
  have hp2 := h.p2
  have hpr : Pr p := Pr_of h.pr
  have hu : (2 * P.y) % (p : Int) ≠ 0 := tan_low h hP hQ hf hg hx hy
  have HE : Hid (addC p a P Q = lineC p P Q ((3 * P.x * P.x + a) % p * inv p (2 * P.y) % p)) := hide (by unfold addC; rw [if_neg (by rw [hf]; simp), if_neg (by rw [hg]; simp), if_neg (by simpa using hx), if_neg hy])
  have CI := fun W => hide (cInv_any p (2 * P.y) W hpr (by omega) hu (by omega) (by omega))
  have e1 := mul_le2 (x := 3 * P.x) (y := P.x) (p := 6000) (q := 2000) (by omega) (by omega) (by omega) (by omega)
  have ha1 := h.a1
  have ha2 := h.a2
  have w0 : IntKind.i64.wrap (P.y + Q.y) = P.y + Q.y := by rw [IntKind.wrap_i64]; omega
  have hr : (P.y + Q.y).tmod (p : Int) = (P.y + Q.y) % (p : Int) := tmod_emod (by omega)
  obtain ⟨r, hrr⟩ : ∃ r, (P.y + Q.y) % (p : Int) = r := ⟨_, rfl⟩
  rw [hrr] at hr hy
  have q0 : (r == 0) = false := by simpa using hy
  have w1 : IntKind.i64.wrap (3 * P.x) = 3 * P.x := by rw [IntKind.wrap_i64]; omega
  have w2 : IntKind.i64.wrap (3 * P.x * P.x) = 3 * P.x * P.x := by rw [IntKind.wrap_i64]; omega
  have w3 : IntKind.i64.wrap (3 * P.x * P.x + a) = 3 * P.x * P.x + a := by rw [IntKind.wrap_i64]; omega
  have w4 : IntKind.i64.wrap (2 * P.y) = 2 * P.y := by rw [IntKind.wrap_i64]; omega
  have q1 : (P.x != Q.x) = false := by simpa using hx
  have CT := fun W => hide (mod_any (3 * P.x * P.x + a) p W (by omega) (by omega) (by omega) (by omega))
  obtain ⟨T, hT⟩ : ∃ v, (3 * P.x * P.x + a) % (p : Int) = v := ⟨_, rfl⟩
  have hT1 := Int.emod_nonneg (3 * P.x * P.x + a) (show (p : Int) ≠ 0 by omega)
  have hT2 := Int.emod_lt_of_pos (3 * P.x * P.x + a) (show 0 < (p : Int) by omega)
  have hI1 : 0 ≤ inv p (2 * P.y) ∧ inv p (2 * P.y) < p := by
    unfold inv
    have := Nat.mod_lt (((2 * P.y) % (p : Int)).toNat ^ (p - 2)) (show 0 < p by omega)
    omega
  obtain ⟨I, hI⟩ : ∃ v, inv p (2 * P.y) = v := ⟨_, rfl⟩
  rw [hT] at CT hT1 hT2 HE
  rw [hI] at CI hI1 HE
  have hTI := mul_le2 (x := T) (y := I) (p := 2000) (q := 2000) (by omega) (by omega) (by omega) (by omega)
  have wTI : IntKind.i64.wrap (T * I) = T * I := by rw [IntKind.wrap_i64]; omega
  have rTI : (T * I).tmod (p : Int) = T * I % (p : Int) := tmod_emod hTI.1
  have hk1 := Int.emod_nonneg (T * I) (show (p : Int) ≠ 0 by omega)
  have hk2 := Int.emod_lt_of_pos (T * I) (show 0 < (p : Int) by omega)
  obtain ⟨k, hk⟩ : ∃ v, T * I % (p : Int) = v := ⟨_, rfl⟩
  rw [hk] at hk1 hk2 rTI HE
  have hx1 := Int.emod_nonneg (k * k - P.x - Q.x) (show (p : Int) ≠ 0 by omega)
  have hx2 := Int.emod_lt_of_pos (k * k - P.x - Q.x) (show 0 < (p : Int) by omega)
  obtain ⟨⟨m1, m2, m3, m4, m5, m6⟩, m7, m8⟩ := add_wraps (x := (k * k - P.x - Q.x) % (p : Int)) hp2 ⟨hk1, hk2⟩ ⟨a1, a2⟩ ⟨b1, b2⟩ ⟨a3, a4⟩ ⟨hx1, hx2⟩
  have CX := fun W => hide (mod_any (k * k - P.x - Q.x) p W (by omega) (by omega) (by omega) (by omega))
  obtain ⟨X, hX⟩ : ∃ v, (k * k - P.x - Q.x) % (p : Int) = v := ⟨_, rfl⟩
  have HE2 : Hid (addC p a P Q = ⟨X, (k * (P.x - X) - P.y) % (p : Int), false⟩) := hide (by rw [HE.out, ← hX]; rfl)
  rw [hX] at m4 m5 m6 m8 CX hx1 hx2
  have CY := fun W => hide (mod_any (k * (P.x - X) - P.y) p W (by omega) (by omega) (by omega) (by omega))
  obtain ⟨Y, hY⟩ : ∃ v, (k * (P.x - X) - P.y) % (p : Int) = v := ⟨_, rfl⟩
  rw [hY] at CY HE2
  have hp0 : (p : Int) ≠ 0 := by omega
  have HF := hide hf
  have HG := hide hg
  clear hf hg HE h hP hQ a1 a2 a3 a4 b1 b2 b3 b4 hp1 hp2 hpr hu hT1 hT2 hI1 hTI hk1 hk2 hx1 hx2 m7 m8 hT hI hk hX hY hy hx hrr e1 ha1 ha2
  have HM := hide (AdM.start w p a b P Q)
  unfold cvv ptv
  go_enter Tryz.func28, Tryz.ntmps28
  go_upto_region 3 with (fail)
  obtain ⟨W4, hW4⟩ : ∃ Z, ((((w.alloc (.cells #[.int .i64 p, .int .i64 a, .int .i64 b] 36)).alloc (.cells #[.int .i64 P.x, .int .i64 P.y, .bool P.far] 33)).alloc (.cells #[.int .i64 Q.x, .int .i64 Q.y, .bool Q.far] 33)).alloc (.cells #[.int .i64 0, .int .i64 0, .bool false] 33)) = Z := ⟨_, rfl⟩
  rw [hW4] at HM ⊢
  clear hW4
  obtain ⟨c0, c1, c2⟩ := HM.out.c.three
  obtain ⟨u0, u1, u2⟩ := HM.out.u.three
  obtain ⟨v0, v1, v2⟩ := HM.out.v.three
  rw [HF.out] at u2
  rw [HG.out] at v2
  go_wp2_with fail
  go_quiet (fail)
  go_wp2_with fail
  refine (CI _).out.mono ?_
  rintro e w5 ⟨rfl, hb⟩
  have HM2 := hide (((HM.out.drw nq).below hb).below (bel_x w5 (.cells #[.int .i64 0, .int .i64 0] 23)))
  clear hb HM c0 c1 c2 u0 u1 u2 v0 v1 v2 CI
  go_wp2_with fail
  obtain ⟨W6, hW6⟩ : ∃ Z, w5.alloc (.cells #[.int .i64 0, .int .i64 0] 23) = Z := ⟨_, rfl⟩
  rw [hW6] at HM2 ⊢
  clear hW6
  obtain ⟨c0, c1, c2⟩ := HM2.out.c.three
  obtain ⟨u0, u1, u2⟩ := HM2.out.u.three
  obtain ⟨v0, v1, v2⟩ := HM2.out.v.three
  go_quiet ((go_at_call 46; exact quiet_sym (CT _).out))
  go_wp2_with fail
  refine (CX _).out.mono ?_
  rintro e w7 ⟨rfl, rfl⟩
  go_wp2_with fail
  refine (CY _).out.mono ?_
  rintro e w8 ⟨rfl, rfl⟩
  have HM3 := hide (HM2.out.drw nq)
  clear CT CX CY HM2 c0 c1 c2 u0 u1 u2 v0 v1 v2 wTI rTI m1 m2 m3 m4 m5 m6
  obtain ⟨r0, r1, r2⟩ := HM3.out.r.three
  have z0 := HM3.out.r.frozen 0
  have z1 := HM3.out.r.frozen 1
  have z2 := HM3.out.r.frozen 2
  obtain ⟨k1, k2⟩ := ad_put HM3.out X Y false
  have HK := hide k2
  obtain ⟨s0, s1, s2⟩ := k1.three
  clear k1 k2
  go_wp2_with fail
  exact bodyPost_ret (v := .agg #[.int .i64 X, .int .i64 Y, .bool false]) (by simp [results, Tryz.results28, go_sem, s0, s1, s2]) rfl ⟨by rw [HE2.out], HK.out⟩

theorem cadd_any (p : Nat) (a b : Int) (P Q : CP) (w : World) (h : OkCv p a b) (hP : okC p a b P) (hQ : okC p a b Q) :
    Calls Tryz.prog 28 #[cvv p a b, ptv P, ptv Q] w fun e w' => e = .returned (ptv (addC p a P Q)) ∧ Below w.heap.size w w' := by
  cases hf : P.far
  · cases hg : Q.far
    · by_cases hx : P.x = Q.x
      · by_cases hy : (P.y + Q.y) % (p : Int) = 0
        · exact add_opp p a b P Q w h hP hQ hf hg hx hy
        · exact add_tangent p a b P Q w h hP hQ hf hg hx hy
      · exact add_chord p a b P Q w h hP hQ hf hg hx
    · exact add_farQ p a b P Q w hf hg
  · exact add_farP p a b P Q w hf
end Go.Proofs.YtofjmnodfabohaaGreatDoor
