/- The walks of R.over and R.Added (printed by gen_curvr.py). -/
import Derived.Test.YtofjmnodfabohaaGreatDoorKCurvY
import Derived.Test.YtofjmnodfabohaaGreatDoorKRefC
namespace Go.Proofs.YtofjmnodfabohaaGreatDoor
open Go.RowKit
open CV

theorem inv_pow (p : Nat) (hp : 0 < p) (u : Int) : u ^ (p - 2) % (p : Int) = inv p u := by
  have h0 := Int.emod_nonneg u (show (p : Int) ≠ 0 by omega)
  unfold inv
  rw [← pow_emod u p (p - 2)]
  obtain ⟨v, hv⟩ : ∃ v : Nat, u % (p : Int) = v := ⟨(u % (p : Int)).toNat, by omega⟩
  rw [hv, Int.toNat_natCast, Int.natCast_emod, Int.natCast_pow]
theorem inv_range (p : Nat) (hp : 0 < p) (u : Int) : 0 ≤ inv p u ∧ inv p u < p := by
  rw [← inv_pow p hp]; exact ⟨Int.emod_nonneg _ (by omega), Int.emod_lt_of_pos _ (by omega)⟩

set_option maxRecDepth 100000 in
set_option maxHeartbeats 1600000 in
theorem over_any (p : Nat) (t l : Int) (w : World) (h5 : 5 ≤ p) (h2 : p ≤ 2000) (ht : t.natAbs ≤ 1000000000000000000) (hl : l.natAbs ≤ 1000000000000000000) :
    Calls Tryz.prog 24 #[.int .i64 t, .int .i64 l, .int .i64 (p : Int)] w fun e w' => e = .returned (.int .i64 (t % p * inv p l % p)) ∧ Below w.heap.size w w' := by
  have a0 := Int.emod_nonneg t (show (p : Int) ≠ 0 by omega)
  have a1 := Int.emod_lt_of_pos t (show 0 < (p : Int) by omega)
  have i0 := inv_range p (by omega) l
  have C1 := fun W => hide (left_ref t p W (by omega) (by omega) (by omega) (by omega))
  have C2 := fun W => hide (power_ref l p (p - 2) W (by omega) (by omega) (by omega) (by omega) (by omega))
  rw [inv_pow p (by omega)] at C2
  obtain ⟨T, hT⟩ : ∃ T, t % (p : Int) = T := ⟨_, rfl⟩
  obtain ⟨I, hI⟩ : ∃ I, inv p l = I := ⟨_, rfl⟩
  rw [hT] at a0 a1 C1 ⊢
  rw [hI] at i0 C2 ⊢
  have m := mul_le2 (x := T) (y := I) (p := 2000) (q := 2000) (by omega) (by omega) (by omega) (by omega)
  have C3 := fun W => hide (left_ref (T * I) p W (by omega) (by omega) (by omega) (by omega))
  have v2 : IntKind.i64.wrap (T * I) = T * I := by rw [IntKind.wrap_i64]; omega
  obtain ⟨K, hK⟩ : ∃ K : Int, ((p - 2 : Nat) : Int) = K := ⟨_, rfl⟩
  have v1 : IntKind.i64.wrap ((p : Int) - 2) = K := by rw [IntKind.wrap_i64]; omega
  obtain ⟨P, hP⟩ : ∃ P : Int, (p : Int) = P := ⟨_, rfl⟩
  rw [hK] at C2
  rw [hP] at C1 C2 C3 v1 ⊢
  clear a0 a1 i0 hT hI m hK hP ht hl h5 h2
  go_enter Tryz.func24, Tryz.ntmps24
  go_wp2_with fail
  refine (C1 _).out.mono ?_
  rintro e w1 ⟨rfl, rfl⟩
  go_wp2_with fail
  refine (C2 _).out.mono ?_
  rintro e w2 ⟨rfl, hb⟩
  have HB := hide hb
  clear hb
  go_wp2_with fail
  refine (C3 _).out.mono ?_
  rintro e w3 ⟨rfl, rfl⟩
  go_wp2_with fail
  go_ret
  exact ⟨rfl, HB.out⟩

set_option maxRecDepth 100000 in
set_option maxHeartbeats 3200000 in
theorem added_far (p : Nat) (a : Int) (P Q : CP) (w : World) (hT : TabW w) (hf : P.far = true) :
    Calls Tryz.prog 14 #[.int .i64 (p : Int), .int .i64 a, ptv P, ptv Q] w fun e w' => e = .returned (ptv (addC p a P Q)) ∧ Below w.heap.size w w' := by
  have HE : Hid (addC p a P Q = Q) := hide (if_pos hf)
  have H0 : Hid (Blks w w []) := hide ⟨Below.refl _ _, hT, by simp, by simp⟩
  have H1 := hide (((H0.out.new #[.int .i64 P.x, .int .i64 P.y, .bool P.far] 33).new #[.int .i64 Q.x, .int .i64 Q.y, .bool Q.far] 33).new #[.int .i64 0, .int .i64 0, .bool false] 33)
  obtain ⟨W1, hW1⟩ : ∃ ZZ, (((w.alloc (.cells #[.int .i64 P.x, .int .i64 P.y, .bool P.far] 33)).alloc (.cells #[.int .i64 Q.x, .int .i64 Q.y, .bool Q.far] 33)).alloc (.cells #[.int .i64 0, .int .i64 0, .bool false] 33)) = ZZ := ⟨_, rfl⟩
  simp only [World.size_alloc] at H1
  rw [hW1] at H1
  clear hT H0
  obtain ⟨p0, p1, p2⟩ := (H1.out.get 2 rfl).three
  obtain ⟨q0, q1, q2⟩ := (H1.out.get 1 rfl).three
  obtain ⟨z0, z1, z2⟩ := (H1.out.get 0 rfl).three
  have f0 := (H1.out.get 0 rfl).frozen 0
  have f1 := (H1.out.get 0 rfl).frozen 1
  have f2 := (H1.out.get 0 rfl).frozen 2
  rw [hf] at p2
  obtain ⟨r0, r1, r2⟩ := (((H1.out.get 0 rfl).set 0 (.int .i64 Q.x)).set 1 (.int .i64 Q.y)).set 2 (.bool Q.far) |>.three
  have HB := hide (((H1.out.b.setCell (p := ⟨w.heap.size + 1 + 1, 0, none⟩) (by show w.heap.size ≤ w.heap.size + 1 + 1; omega) (.int .i64 Q.x)).setCell (p := ⟨w.heap.size + 1 + 1, 1, none⟩) (by show w.heap.size ≤ w.heap.size + 1 + 1; omega) (.int .i64 Q.y)).setCell (p := ⟨w.heap.size + 1 + 1, 2, none⟩) (by show w.heap.size ≤ w.heap.size + 1 + 1; omega) (.bool Q.far))
  rw [HE.out]
  clear hf
  unfold ptv
  go_enter Tryz.func14, Tryz.ntmps14
  go_upto_region 1 with (fail)
  (try rw [hW1])
  clear hW1
  go_wp2_with fail
  exact bodyPost_ret (v := .agg #[.int .i64 Q.x, .int .i64 Q.y, .bool Q.far]) (by simp [results, Tryz.results14, go_sem, r0, r1, r2]) rfl ⟨rfl, HB.out⟩

set_option maxRecDepth 100000 in
set_option maxHeartbeats 3200000 in
theorem added_far2 (p : Nat) (a : Int) (P Q : CP) (w : World) (hT : TabW w) (hf : P.far = false) (hg : Q.far = true) :
    Calls Tryz.prog 14 #[.int .i64 (p : Int), .int .i64 a, ptv P, ptv Q] w fun e w' => e = .returned (ptv (addC p a P Q)) ∧ Below w.heap.size w w' := by
  have HE : Hid (addC p a P Q = P) := hide ((if_neg (by rw [hf]; simp)).trans (if_pos hg))
  have H0 : Hid (Blks w w []) := hide ⟨Below.refl _ _, hT, by simp, by simp⟩
  have H1 := hide (((H0.out.new #[.int .i64 P.x, .int .i64 P.y, .bool P.far] 33).new #[.int .i64 Q.x, .int .i64 Q.y, .bool Q.far] 33).new #[.int .i64 0, .int .i64 0, .bool false] 33)
  obtain ⟨W1, hW1⟩ : ∃ ZZ, (((w.alloc (.cells #[.int .i64 P.x, .int .i64 P.y, .bool P.far] 33)).alloc (.cells #[.int .i64 Q.x, .int .i64 Q.y, .bool Q.far] 33)).alloc (.cells #[.int .i64 0, .int .i64 0, .bool false] 33)) = ZZ := ⟨_, rfl⟩
  simp only [World.size_alloc] at H1
  rw [hW1] at H1
  clear hT H0
  obtain ⟨p0, p1, p2⟩ := (H1.out.get 2 rfl).three
  obtain ⟨q0, q1, q2⟩ := (H1.out.get 1 rfl).three
  obtain ⟨z0, z1, z2⟩ := (H1.out.get 0 rfl).three
  have f0 := (H1.out.get 0 rfl).frozen 0
  have f1 := (H1.out.get 0 rfl).frozen 1
  have f2 := (H1.out.get 0 rfl).frozen 2
  rw [hf] at p2
  rw [hg] at q2
  obtain ⟨r0, r1, r2⟩ := (((H1.out.get 0 rfl).set 0 (.int .i64 P.x)).set 1 (.int .i64 P.y)).set 2 (.bool false) |>.three
  have HB := hide (((H1.out.b.setCell (p := ⟨w.heap.size + 1 + 1, 0, none⟩) (by show w.heap.size ≤ w.heap.size + 1 + 1; omega) (.int .i64 P.x)).setCell (p := ⟨w.heap.size + 1 + 1, 1, none⟩) (by show w.heap.size ≤ w.heap.size + 1 + 1; omega) (.int .i64 P.y)).setCell (p := ⟨w.heap.size + 1 + 1, 2, none⟩) (by show w.heap.size ≤ w.heap.size + 1 + 1; omega) (.bool false))
  rw [HE.out]
  have HF := hide hf
  clear hf hg
  unfold ptv
  go_enter Tryz.func14, Tryz.ntmps14
  go_upto_region 1 with (fail)
  (try rw [hW1])
  clear hW1
  go_wp2_with fail
  exact bodyPost_ret (v := .agg #[.int .i64 P.x, .int .i64 P.y, .bool false]) (by simp [results, Tryz.results14, go_sem, r0, r1, r2]) rfl ⟨by rw [HF.out], HB.out⟩

set_option maxRecDepth 100000 in
set_option maxHeartbeats 3200000 in
theorem added_zero (p : Nat) (a b : Int) (P Q : CP) (w : World) (hT : TabW w) (h : OkCv p a b) (hP : okC p a b P) (hQ : okC p a b Q) (hf : P.far = false) (hg : Q.far = false) (hx : P.x = Q.x) (hy : (P.y + Q.y) % (p : Int) = 0) :
    Calls Tryz.prog 14 #[.int .i64 (p : Int), .int .i64 a, ptv P, ptv Q] w fun e w' => e = .returned (ptv (addC p a P Q)) ∧ Below w.heap.size w w' := by
  have HE : Hid (addC p a P Q = farC) := hide ((if_neg (by rw [hf]; simp)).trans ((if_neg (by rw [hg]; simp)).trans ((if_neg (by simpa using hx)).trans (if_pos hy))))
  obtain ⟨⟨a1, a2⟩, ⟨a3, a4⟩, _⟩ := hP.near hf
  obtain ⟨⟨b1, b2⟩, ⟨b3, b4⟩, _⟩ := hQ.near hg
  have hp1 := h.p1
  have hp2 := h.p2
  have ha1 := h.a1
  have ha2 := h.a2
  have w0 : IntKind.i64.wrap (P.y + Q.y) = P.y + Q.y := by rw [IntKind.wrap_i64]; omega
  have CL := fun W => hide (left_ref (P.y + Q.y) p W (by omega) (by omega) (by omega) (by omega))
  rw [hy] at CL
  have q9 : (P.x == Q.x) = true := by simpa using hx
  have H0 : Hid (Blks w w []) := hide ⟨Below.refl _ _, hT, by simp, by simp⟩
  have H1 := hide (((H0.out.new #[.int .i64 P.x, .int .i64 P.y, .bool P.far] 33).new #[.int .i64 Q.x, .int .i64 Q.y, .bool Q.far] 33).new #[.int .i64 0, .int .i64 0, .bool false] 33)
  obtain ⟨W1, hW1⟩ : ∃ ZZ, (((w.alloc (.cells #[.int .i64 P.x, .int .i64 P.y, .bool P.far] 33)).alloc (.cells #[.int .i64 Q.x, .int .i64 Q.y, .bool Q.far] 33)).alloc (.cells #[.int .i64 0, .int .i64 0, .bool false] 33)) = ZZ := ⟨_, rfl⟩
  simp only [World.size_alloc] at H1
  rw [hW1] at H1
  clear hT H0
  obtain ⟨p0, p1, p2⟩ := (H1.out.get 2 rfl).three
  obtain ⟨q0, q1, q2⟩ := (H1.out.get 1 rfl).three
  obtain ⟨z0, z1, z2⟩ := (H1.out.get 0 rfl).three
  have f0 := (H1.out.get 0 rfl).frozen 0
  have f1 := (H1.out.get 0 rfl).frozen 1
  have f2 := (H1.out.get 0 rfl).frozen 2
  rw [hf] at p2
  rw [hg] at q2
  obtain ⟨r0, r1, r2⟩ := (((H1.out.get 0 rfl).set 0 (.int .i64 0)).set 1 (.int .i64 0)).set 2 (.bool true) |>.three
  have HB := hide (((H1.out.b.setCell (p := ⟨w.heap.size + 1 + 1, 0, none⟩) (by show w.heap.size ≤ w.heap.size + 1 + 1; omega) (.int .i64 0)).setCell (p := ⟨w.heap.size + 1 + 1, 1, none⟩) (by show w.heap.size ≤ w.heap.size + 1 + 1; omega) (.int .i64 0)).setCell (p := ⟨w.heap.size + 1 + 1, 2, none⟩) (by show w.heap.size ≤ w.heap.size + 1 + 1; omega) (.bool true))
  rw [HE.out]
  clear hf hg h hP hQ hx hy a1 a2 a3 a4 b1 b2 b3 b4 hp1 hp2 ha1 ha2
  unfold ptv
  go_enter Tryz.func14, Tryz.ntmps14
  go_upto_region 1 with (fail)
  (try rw [hW1])
  clear hW1
  go_wp2_with fail
  refine (CL _).out.mono ?_
  rintro e w5 ⟨rfl, rfl⟩
  go_wp2_with fail
  exact bodyPost_ret (v := .agg #[.int .i64 0, .int .i64 0, .bool true]) (by simp [results, Tryz.results14, go_sem, r0, r1, r2]) rfl ⟨rfl, HB.out⟩

set_option maxRecDepth 100000 in
set_option maxHeartbeats 3200000 in
theorem added_chord (p : Nat) (a b : Int) (P Q : CP) (w : World) (hT : TabW w) (h : OkCv p a b) (hP : okC p a b P) (hQ : okC p a b Q) (hf : P.far = false) (hg : Q.far = false) (hx : P.x ≠ Q.x) :
    Calls Tryz.prog 14 #[.int .i64 (p : Int), .int .i64 a, ptv P, ptv Q] w fun e w' => e = .returned (ptv (addC p a P Q)) ∧ Below w.heap.size w w' := by
  have HE : Hid (addC p a P Q = lineC p P Q ((Q.y - P.y) % p * inv p (Q.x - P.x) % p)) := hide ((if_neg (by rw [hf]; simp)).trans ((if_neg (by rw [hg]; simp)).trans (if_pos hx)))
  obtain ⟨⟨a1, a2⟩, ⟨a3, a4⟩, _⟩ := hP.near hf
  obtain ⟨⟨b1, b2⟩, ⟨b3, b4⟩, _⟩ := hQ.near hg
  have hp1 := h.p1
  have hp2 := h.p2
  have ha1 := h.a1
  have ha2 := h.a2
  have w1 : IntKind.i64.wrap (Q.y - P.y) = Q.y - P.y := by rw [IntKind.wrap_i64]; omega
  have w2 : IntKind.i64.wrap (Q.x - P.x) = Q.x - P.x := by rw [IntKind.wrap_i64]; omega
  have q9 : (P.x == Q.x) = false := by simpa using hx
  have CI := fun W => hide (over_any p (Q.y - P.y) (Q.x - P.x) W (by omega) (by omega) (by omega) (by omega))
  have hk1 := Int.emod_nonneg ((Q.y - P.y) % (p : Int) * inv p (Q.x - P.x)) (show (p : Int) ≠ 0 by omega)
  have hk2 := Int.emod_lt_of_pos ((Q.y - P.y) % (p : Int) * inv p (Q.x - P.x)) (show 0 < (p : Int) by omega)
  obtain ⟨k, hk⟩ : ∃ v, (Q.y - P.y) % (p : Int) * inv p (Q.x - P.x) % (p : Int) = v := ⟨_, rfl⟩
  rw [hk] at hk1 hk2 HE CI
  have hx1 := Int.emod_nonneg (k * k - P.x - Q.x) (show (p : Int) ≠ 0 by omega)
  have hx2 := Int.emod_lt_of_pos (k * k - P.x - Q.x) (show 0 < (p : Int) by omega)
  obtain ⟨⟨m1, m2, m3, m4, m5, m6⟩, m7, m8⟩ := add_wraps (x := (k * k - P.x - Q.x) % (p : Int)) hp2 ⟨hk1, hk2⟩ ⟨a1, a2⟩ ⟨b1, b2⟩ ⟨a3, a4⟩ ⟨hx1, hx2⟩
  have CX := fun W => hide (left_ref (k * k - P.x - Q.x) p W (by omega) (by omega) (by omega) (by omega))
  have HE2 : Hid (addC p a P Q = ⟨(k * k - P.x - Q.x) % (p : Int), (k * (P.x - (k * k - P.x - Q.x) % (p : Int)) - P.y) % (p : Int), false⟩) := hide (by rw [HE.out]; rfl)
  clear m4 m5 m6
  obtain ⟨X, hX⟩ : ∃ v, (k * k - P.x - Q.x) % (p : Int) = v := ⟨_, rfl⟩
  rw [hX] at m8 CX HE2 hx1 hx2
  have g0 : -(P.y + k * (X - P.x)) = k * (P.x - X) - P.y := by grind
  have g1 : (k * (X - P.x)).natAbs ≤ 2000 * 2000 := by rw [Int.natAbs_mul]; exact Nat.mul_le_mul (by omega) (by omega)
  have v1 : IntKind.i64.wrap (X - P.x) = X - P.x := by rw [IntKind.wrap_i64]; omega
  have v2 : IntKind.i64.wrap (k * (X - P.x)) = k * (X - P.x) := by rw [IntKind.wrap_i64]; omega
  have v3 : IntKind.i64.wrap (P.y + k * (X - P.x)) = P.y + k * (X - P.x) := by rw [IntKind.wrap_i64]; omega
  have v4 : IntKind.i64.wrap (-(P.y + k * (X - P.x))) = -(P.y + k * (X - P.x)) := by rw [IntKind.wrap_i64]; omega
  have CY := fun W => hide (left_ref (-(P.y + k * (X - P.x))) p W (by omega) (by omega) (by omega) (by omega))
  rw [← g0] at HE2
  obtain ⟨Y, hY⟩ : ∃ v, (-(P.y + k * (X - P.x))) % (p : Int) = v := ⟨_, rfl⟩
  rw [hY] at CY HE2
  have HF := hide hf
  have HG := hide hg
  have H0 : Hid (Blks w w []) := hide ⟨Below.refl _ _, hT, by simp, by simp⟩
  have H1 := hide (((H0.out.new #[.int .i64 P.x, .int .i64 P.y, .bool P.far] 33).new #[.int .i64 Q.x, .int .i64 Q.y, .bool Q.far] 33).new #[.int .i64 0, .int .i64 0, .bool false] 33)
  obtain ⟨W1, hW1⟩ : ∃ ZZ, (((w.alloc (.cells #[.int .i64 P.x, .int .i64 P.y, .bool P.far] 33)).alloc (.cells #[.int .i64 Q.x, .int .i64 Q.y, .bool Q.far] 33)).alloc (.cells #[.int .i64 0, .int .i64 0, .bool false] 33)) = ZZ := ⟨_, rfl⟩
  simp only [World.size_alloc] at H1
  rw [hW1] at H1
  clear hT H0
  obtain ⟨p0, p1, p2⟩ := (H1.out.get 2 rfl).three
  obtain ⟨q0, q1, q2⟩ := (H1.out.get 1 rfl).three
  obtain ⟨z0, z1, z2⟩ := (H1.out.get 0 rfl).three
  have f0 := (H1.out.get 0 rfl).frozen 0
  have f1 := (H1.out.get 0 rfl).frozen 1
  have f2 := (H1.out.get 0 rfl).frozen 2
  rw [hf] at p2
  rw [hg] at q2
  clear hf hg HE h hP hQ a1 a2 a3 a4 b1 b2 b3 b4 hp1 hp2 hk1 hk2 hx1 hx2 m7 m8 hk hX hY hx ha1 ha2 g0 g1
  unfold ptv
  go_enter Tryz.func14, Tryz.ntmps14
  go_upto_region 1 with (fail)
  (try rw [hW1])
  clear hW1
  go_wp2_with fail
  refine (CI _).out.mono ?_
  rintro e w5 ⟨rfl, hb⟩
  have H2 := hide (H1.out.below hb)
  clear hb H1 p0 p1 p2 q0 q1 q2 z0 z1 z2 f0 f1 f2
  obtain ⟨p0, p1, p2⟩ := (H2.out.get 2 rfl).three
  obtain ⟨q0, q1, q2⟩ := (H2.out.get 1 rfl).three
  obtain ⟨z0, z1, z2⟩ := (H2.out.get 0 rfl).three
  have f0 := (H2.out.get 0 rfl).frozen 0
  have f1 := (H2.out.get 0 rfl).frozen 1
  have f2 := (H2.out.get 0 rfl).frozen 2
  go_wp2_with fail
  refine (CX _).out.mono ?_
  rintro e w6 ⟨rfl, rfl⟩
  go_wp2_with fail
  refine (CY _).out.mono ?_
  rintro e w7 ⟨rfl, rfl⟩
  obtain ⟨r0, r1, r2⟩ := (((H2.out.get 0 rfl).set 0 (.int .i64 X)).set 1 (.int .i64 Y)).set 2 (.bool false) |>.three
  have HB := hide (((H2.out.b.setCell (p := ⟨w.heap.size + 1 + 1, 0, none⟩) (by show w.heap.size ≤ w.heap.size + 1 + 1; omega) (.int .i64 X)).setCell (p := ⟨w.heap.size + 1 + 1, 1, none⟩) (by show w.heap.size ≤ w.heap.size + 1 + 1; omega) (.int .i64 Y)).setCell (p := ⟨w.heap.size + 1 + 1, 2, none⟩) (by show w.heap.size ≤ w.heap.size + 1 + 1; omega) (.bool false))
  go_wp2_with fail
  exact bodyPost_ret (v := .agg #[.int .i64 X, .int .i64 Y, .bool false]) (by simp [results, Tryz.results14, go_sem, r0, r1, r2]) rfl ⟨by rw [HE2.out], HB.out⟩

set_option maxRecDepth 100000 in
set_option maxHeartbeats 3200000 in
theorem added_tan (p : Nat) (a b : Int) (P Q : CP) (w : World) (hT : TabW w) (h : OkCv p a b) (hP : okC p a b P) (hQ : okC p a b Q) (hf : P.far = false) (hg : Q.far = false) (hx : P.x = Q.x) (hy : (P.y + Q.y) % (p : Int) ≠ 0) :
    Calls Tryz.prog 14 #[.int .i64 (p : Int), .int .i64 a, ptv P, ptv Q] w fun e w' => e = .returned (ptv (addC p a P Q)) ∧ Below w.heap.size w w' := by
  have HE : Hid (addC p a P Q = lineC p P Q ((3 * P.x * P.x + a) % p * inv p (2 * P.y) % p)) := hide ((if_neg (by rw [hf]; simp)).trans ((if_neg (by rw [hg]; simp)).trans ((if_neg (by simpa using hx)).trans (if_neg hy))))
  obtain ⟨⟨a1, a2⟩, ⟨a3, a4⟩, _⟩ := hP.near hf
  obtain ⟨⟨b1, b2⟩, ⟨b3, b4⟩, _⟩ := hQ.near hg
  have hp1 := h.p1
  have hp2 := h.p2
  have ha1 := h.a1
  have ha2 := h.a2
  have e1 := mul_le2 (x := 3 * P.x) (y := P.x) (p := 6000) (q := 2000) (by omega) (by omega) (by omega) (by omega)
  have w0 : IntKind.i64.wrap (P.y + Q.y) = P.y + Q.y := by rw [IntKind.wrap_i64]; omega
  have w1 : IntKind.i64.wrap (3 * P.x) = 3 * P.x := by rw [IntKind.wrap_i64]; omega
  have w2 : IntKind.i64.wrap (3 * P.x * P.x) = 3 * P.x * P.x := by rw [IntKind.wrap_i64]; omega
  have w3 : IntKind.i64.wrap (3 * P.x * P.x + a) = 3 * P.x * P.x + a := by rw [IntKind.wrap_i64]; omega
  have w4 : IntKind.i64.wrap (2 * P.y) = 2 * P.y := by rw [IntKind.wrap_i64]; omega
  have CL := fun W => hide (left_ref (P.y + Q.y) p W (by omega) (by omega) (by omega) (by omega))
  obtain ⟨r, hrr⟩ : ∃ r, (P.y + Q.y) % (p : Int) = r := ⟨_, rfl⟩
  rw [hrr] at CL hy
  have q8 : (r == 0) = false := by simpa using hy
  have q9 : (P.x == Q.x) = true := by simpa using hx
  have CI := fun W => hide (over_any p (3 * P.x * P.x + a) (2 * P.y) W (by omega) (by omega) (by omega) (by omega))
  clear e1
  have hk1 := Int.emod_nonneg ((3 * P.x * P.x + a) % (p : Int) * inv p (2 * P.y)) (show (p : Int) ≠ 0 by omega)
  have hk2 := Int.emod_lt_of_pos ((3 * P.x * P.x + a) % (p : Int) * inv p (2 * P.y)) (show 0 < (p : Int) by omega)
  obtain ⟨k, hk⟩ : ∃ v, (3 * P.x * P.x + a) % (p : Int) * inv p (2 * P.y) % (p : Int) = v := ⟨_, rfl⟩
  rw [hk] at hk1 hk2 HE CI
  have hx1 := Int.emod_nonneg (k * k - P.x - Q.x) (show (p : Int) ≠ 0 by omega)
  have hx2 := Int.emod_lt_of_pos (k * k - P.x - Q.x) (show 0 < (p : Int) by omega)
  obtain ⟨⟨m1, m2, m3, m4, m5, m6⟩, m7, m8⟩ := add_wraps (x := (k * k - P.x - Q.x) % (p : Int)) hp2 ⟨hk1, hk2⟩ ⟨a1, a2⟩ ⟨b1, b2⟩ ⟨a3, a4⟩ ⟨hx1, hx2⟩
  have CX := fun W => hide (left_ref (k * k - P.x - Q.x) p W (by omega) (by omega) (by omega) (by omega))
  have HE2 : Hid (addC p a P Q = ⟨(k * k - P.x - Q.x) % (p : Int), (k * (P.x - (k * k - P.x - Q.x) % (p : Int)) - P.y) % (p : Int), false⟩) := hide (by rw [HE.out]; rfl)
  clear m4 m5 m6
  obtain ⟨X, hX⟩ : ∃ v, (k * k - P.x - Q.x) % (p : Int) = v := ⟨_, rfl⟩
  rw [hX] at m8 CX HE2 hx1 hx2
  have g0 : -(P.y + k * (X - P.x)) = k * (P.x - X) - P.y := by grind
  have g1 : (k * (X - P.x)).natAbs ≤ 2000 * 2000 := by rw [Int.natAbs_mul]; exact Nat.mul_le_mul (by omega) (by omega)
  have v1 : IntKind.i64.wrap (X - P.x) = X - P.x := by rw [IntKind.wrap_i64]; omega
  have v2 : IntKind.i64.wrap (k * (X - P.x)) = k * (X - P.x) := by rw [IntKind.wrap_i64]; omega
  have v3 : IntKind.i64.wrap (P.y + k * (X - P.x)) = P.y + k * (X - P.x) := by rw [IntKind.wrap_i64]; omega
  have v4 : IntKind.i64.wrap (-(P.y + k * (X - P.x))) = -(P.y + k * (X - P.x)) := by rw [IntKind.wrap_i64]; omega
  have CY := fun W => hide (left_ref (-(P.y + k * (X - P.x))) p W (by omega) (by omega) (by omega) (by omega))
  rw [← g0] at HE2
  obtain ⟨Y, hY⟩ : ∃ v, (-(P.y + k * (X - P.x))) % (p : Int) = v := ⟨_, rfl⟩
  rw [hY] at CY HE2
  have HF := hide hf
  have HG := hide hg
  have H0 : Hid (Blks w w []) := hide ⟨Below.refl _ _, hT, by simp, by simp⟩
  have H1 := hide (((H0.out.new #[.int .i64 P.x, .int .i64 P.y, .bool P.far] 33).new #[.int .i64 Q.x, .int .i64 Q.y, .bool Q.far] 33).new #[.int .i64 0, .int .i64 0, .bool false] 33)
  obtain ⟨W1, hW1⟩ : ∃ ZZ, (((w.alloc (.cells #[.int .i64 P.x, .int .i64 P.y, .bool P.far] 33)).alloc (.cells #[.int .i64 Q.x, .int .i64 Q.y, .bool Q.far] 33)).alloc (.cells #[.int .i64 0, .int .i64 0, .bool false] 33)) = ZZ := ⟨_, rfl⟩
  simp only [World.size_alloc] at H1
  rw [hW1] at H1
  clear hT H0
  obtain ⟨p0, p1, p2⟩ := (H1.out.get 2 rfl).three
  obtain ⟨q0, q1, q2⟩ := (H1.out.get 1 rfl).three
  obtain ⟨z0, z1, z2⟩ := (H1.out.get 0 rfl).three
  have f0 := (H1.out.get 0 rfl).frozen 0
  have f1 := (H1.out.get 0 rfl).frozen 1
  have f2 := (H1.out.get 0 rfl).frozen 2
  rw [hf] at p2
  rw [hg] at q2
  clear hf hg HE h hP hQ a1 a2 a3 a4 b1 b2 b3 b4 hp1 hp2 hk1 hk2 hx1 hx2 m7 m8 hk hX hY hx ha1 ha2 g0 g1 hy hrr
  unfold ptv
  go_enter Tryz.func14, Tryz.ntmps14
  go_upto_region 1 with (fail)
  (try rw [hW1])
  clear hW1
  go_wp2_with fail
  refine (CL _).out.mono ?_
  rintro e w4 ⟨rfl, rfl⟩
  go_wp2_with fail
  refine (CI _).out.mono ?_
  rintro e w5 ⟨rfl, hb⟩
  have H2 := hide (H1.out.below hb)
  clear hb H1 p0 p1 p2 q0 q1 q2 z0 z1 z2 f0 f1 f2
  obtain ⟨p0, p1, p2⟩ := (H2.out.get 2 rfl).three
  obtain ⟨q0, q1, q2⟩ := (H2.out.get 1 rfl).three
  obtain ⟨z0, z1, z2⟩ := (H2.out.get 0 rfl).three
  have f0 := (H2.out.get 0 rfl).frozen 0
  have f1 := (H2.out.get 0 rfl).frozen 1
  have f2 := (H2.out.get 0 rfl).frozen 2
  go_wp2_with fail
  refine (CX _).out.mono ?_
  rintro e w6 ⟨rfl, rfl⟩
  go_wp2_with fail
  refine (CY _).out.mono ?_
  rintro e w7 ⟨rfl, rfl⟩
  obtain ⟨r0, r1, r2⟩ := (((H2.out.get 0 rfl).set 0 (.int .i64 X)).set 1 (.int .i64 Y)).set 2 (.bool false) |>.three
  have HB := hide (((H2.out.b.setCell (p := ⟨w.heap.size + 1 + 1, 0, none⟩) (by show w.heap.size ≤ w.heap.size + 1 + 1; omega) (.int .i64 X)).setCell (p := ⟨w.heap.size + 1 + 1, 1, none⟩) (by show w.heap.size ≤ w.heap.size + 1 + 1; omega) (.int .i64 Y)).setCell (p := ⟨w.heap.size + 1 + 1, 2, none⟩) (by show w.heap.size ≤ w.heap.size + 1 + 1; omega) (.bool false))
  go_wp2_with fail
  exact bodyPost_ret (v := .agg #[.int .i64 X, .int .i64 Y, .bool false]) (by simp [results, Tryz.results14, go_sem, r0, r1, r2]) rfl ⟨by rw [HE2.out], HB.out⟩

theorem Added_any (p : Nat) (a b : Int) (P Q : CP) (w : World) (hT : TabW w) (h : OkCv p a b) (hP : okC p a b P) (hQ : okC p a b Q) :
    Calls Tryz.prog 14 #[.int .i64 (p : Int), .int .i64 a, ptv P, ptv Q] w fun e w' => e = .returned (ptv (addC p a P Q)) ∧ Below w.heap.size w w' := by
  cases hf : P.far
  · cases hg : Q.far
    · by_cases hx : P.x = Q.x
      · by_cases hy : (P.y + Q.y) % (p : Int) = 0
        · exact added_zero p a b P Q w hT h hP hQ hf hg hx hy
        · exact added_tan p a b P Q w hT h hP hQ hf hg hx hy
      · exact added_chord p a b P Q w hT h hP hQ hf hg hx
    · exact added_far2 p a P Q w hT hf hg
  · exact added_far p a P Q w hT hf
end Go.Proofs.YtofjmnodfabohaaGreatDoor
