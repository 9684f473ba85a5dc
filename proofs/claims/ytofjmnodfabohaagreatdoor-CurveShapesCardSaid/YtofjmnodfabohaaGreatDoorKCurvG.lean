/- The walk of curve.times. -/
import Derived.Test.YtofjmnodfabohaaGreatDoorKCurvF
import Derived.StillTailTactics
namespace Go.Proofs.YtofjmnodfabohaaGreatDoor
open Go.RowKit
open CV

namespace CV
section
variable {α : Type} {ok : α → Prop} {add : α → α → α} {zero : α} {neg : α → α}
theorem AbG.bin_odd (G : AbG ok add zero neg) {o q : α} (ho : ok o) (hq : ok q) {m : Nat} (hm : m % 2 = 1) : add (add o q) (nm add zero (m / 2) (add q q)) = add o (nm add zero m q) := by
  have e : m = 1 + (m / 2 + m / 2) := by omega
  obtain ⟨d, hd⟩ : ∃ d, m / 2 = d := ⟨_, rfl⟩
  rw [hd] at e ⊢
  rw [e, G.nm_add hq, G.nm_one hq, G.nm_two hq, ← G.nm_add hq, G.assoc _ _ _ ho hq (G.nmok hq _)]
theorem AbG.bin_even (G : AbG ok add zero neg) {o q : α} (hq : ok q) {m : Nat} (hm : m % 2 = 0) : add o (nm add zero (m / 2) (add q q)) = add o (nm add zero m q) := by
  have e : m = m / 2 + m / 2 := by omega
  obtain ⟨d, hd⟩ : ∃ d, m / 2 = d := ⟨_, rfl⟩
  rw [hd] at e ⊢
  rw [e, G.nm_two hq, ← G.nm_add hq]
end
end CV

theorem cgroup {p : Nat} {a b : Int} (h : OkCv p a b) : AbG (okC p a b) (addC p a) farC (negC p) := by
  have hp1 := h.p1
  have hne : NeZero p := ⟨by omega⟩
  exact curve_group (show Pr p from Pr_of h.pr) (by omega) h.d
/-- the multiple of a point -/
def mulC (p : Nat) (a : Int) : Nat → CP → CP := nm (addC p a) farC
def zC (p : Nat) (a : Int) : Int → CP → CP := zm (addC p a) farC (negC p)

theorem z_false {p : Nat} {a b : Int} (G : AbG (okC p a b) (addC p a) farC (negC p)) {P : CP} (hP : okC p a b P) {n : Int} (h : (decide (n < 0) && !P.far) = false) : zC p a n P = mulC p a n.toNat P := by
  unfold zC zm mulC
  by_cases hn : n < 0
  · rw [if_pos hn]
    have hf : P.far = true := by
      rw [decide_eq_true hn] at h
      simpa using h
    have e := hP.isfar hf
    have e2 : negC p farC = farC := rfl
    rw [e, e2, show n.toNat = 0 by omega, G.nm_zero, G.nm_zero]
  · rw [if_neg hn, show n.natAbs = n.toNat by omega]
theorem z_true {p : Nat} {a : Int} {P : CP} {n : Int} (hn : n < 0) : zC p a n P = mulC p a (-n).toNat (negC p P) := by
  unfold zC zm mulC
  rw [if_pos hn, show n.natAbs = (-n).toNat by omega]
theorem negC_ok' {p : Nat} {a b : Int} {P : CP} (h : OkCv p a b) (hP : okC p a b P) : okC p a b (negC p P) := (cgroup h).nok _ hP

/-- times' memory -/
structure TmM (w W : World) (p a b : Int) (Q O : CP) : Prop where
  c : KB W w.heap.size #[.int .i64 p, .int .i64 a, .int .i64 b] 36
  q : KB W (w.heap.size + 1) #[.int .i64 Q.x, .int .i64 Q.y, .bool Q.far] 33
  r : KB W (w.heap.size + 1 + 1) #[.int .i64 0, .int .i64 0, .bool false] 33
  o : KB W (w.heap.size + 1 + 1 + 1) #[.int .i64 O.x, .int .i64 O.y, .bool O.far] 33
  b : Below w.heap.size w W
theorem TmM.below {w W W' : World} {p a b : Int} {P Q : CP} (h : TmM w W p a b P Q) (hb : Below W.heap.size W W') : TmM w W' p a b P Q :=
  ⟨h.c.below hb, h.q.below hb, h.r.below hb, h.o.below hb, h.b.trans (hb.mono h.b.size)⟩
theorem TmM.drw {w W : World} {p a b : Int} {P Q : CP} (h : TmM w W p a b P Q) (n : Nat) : TmM w (W.drewN n) p a b P Q := h.below (below_drewN (Below.refl _ _) n)
theorem TmM.setq {w W : World} {p a b : Int} {P Q : CP} (h : TmM w W p a b P Q) (R : CP) : TmM w (((W.setCell ⟨w.heap.size + 1, 0, none⟩ (.int .i64 R.x)).setCell ⟨w.heap.size + 1, 1, none⟩ (.int .i64 R.y)).setCell ⟨w.heap.size + 1, 2, none⟩ (.bool R.far)) p a b R Q := by
  refine ⟨((h.c.far ?_ _).far ?_ _).far ?_ _, ((h.q.set 0 (.int .i64 R.x)).set 1 (.int .i64 R.y)).set 2 (.bool R.far), ((h.r.far ?_ _).far ?_ _).far ?_ _, ((h.o.far ?_ _).far ?_ _).far ?_ _,
    ((h.b.setCell (p := ⟨w.heap.size + 1, 0, none⟩) ?_ _).setCell (p := ⟨w.heap.size + 1, 1, none⟩) ?_ _).setCell (p := ⟨w.heap.size + 1, 2, none⟩) ?_ _⟩
  all_goals first | (show w.heap.size ≤ w.heap.size + 1; omega) | (show _ ≠ w.heap.size + 1; omega)
theorem TmM.seto {w W : World} {p a b : Int} {P Q : CP} (h : TmM w W p a b P Q) (R : CP) : TmM w (((W.setCell ⟨w.heap.size + 1 + 1 + 1, 0, none⟩ (.int .i64 R.x)).setCell ⟨w.heap.size + 1 + 1 + 1, 1, none⟩ (.int .i64 R.y)).setCell ⟨w.heap.size + 1 + 1 + 1, 2, none⟩ (.bool R.far)) p a b P R := by
  refine ⟨((h.c.far ?_ _).far ?_ _).far ?_ _, ((h.q.far ?_ _).far ?_ _).far ?_ _, ((h.r.far ?_ _).far ?_ _).far ?_ _, ((h.o.set 0 (.int .i64 R.x)).set 1 (.int .i64 R.y)).set 2 (.bool R.far),
    ((h.b.setCell (p := ⟨w.heap.size + 1 + 1 + 1, 0, none⟩) ?_ _).setCell (p := ⟨w.heap.size + 1 + 1 + 1, 1, none⟩) ?_ _).setCell (p := ⟨w.heap.size + 1 + 1 + 1, 2, none⟩) ?_ _⟩
  all_goals first | (show w.heap.size ≤ w.heap.size + 1 + 1 + 1; omega) | (show _ ≠ w.heap.size + 1 + 1 + 1; omega)
theorem tm_put {w W : World} {p a b : Int} {P Q : CP} (h : TmM w W p a b P Q) (x y : Int) (f : Bool) :
    KB (((W.setCell ⟨w.heap.size + 1 + 1, 0, none⟩ (.int .i64 x)).setCell ⟨w.heap.size + 1 + 1, 1, none⟩ (.int .i64 y)).setCell ⟨w.heap.size + 1 + 1, 2, none⟩ (.bool f)) (w.heap.size + 1 + 1) #[.int .i64 x, .int .i64 y, .bool f] 33 ∧
    Below w.heap.size w (((W.setCell ⟨w.heap.size + 1 + 1, 0, none⟩ (.int .i64 x)).setCell ⟨w.heap.size + 1 + 1, 1, none⟩ (.int .i64 y)).setCell ⟨w.heap.size + 1 + 1, 2, none⟩ (.bool f)) :=
  ⟨((h.r.set 0 (.int .i64 x)).set 1 (.int .i64 y)).set 2 (.bool f), ((h.b.setCell (p := ⟨w.heap.size + 1 + 1, 0, none⟩) (show w.heap.size ≤ w.heap.size + 1 + 1 by omega) _).setCell (p := ⟨w.heap.size + 1 + 1, 1, none⟩) (show w.heap.size ≤ w.heap.size + 1 + 1 by omega) _).setCell (p := ⟨w.heap.size + 1 + 1, 2, none⟩) (show w.heap.size ≤ w.heap.size + 1 + 1 by omega) _⟩
/-- times' memory ahead of out -/
structure Tm0 (w W : World) (p a b : Int) (Q : CP) : Prop where
  c : KB W w.heap.size #[.int .i64 p, .int .i64 a, .int .i64 b] 36
  q : KB W (w.heap.size + 1) #[.int .i64 Q.x, .int .i64 Q.y, .bool Q.far] 33
  r : KB W (w.heap.size + 1 + 1) #[.int .i64 0, .int .i64 0, .bool false] 33
  b : Below w.heap.size w W
  s : W.heap.size = w.heap.size + 1 + 1 + 1
theorem Tm0.start (w : World) (p a b : Int) (P : CP) : Tm0 w (((w.alloc (.cells #[.int .i64 p, .int .i64 a, .int .i64 b] 36)).alloc (.cells #[.int .i64 P.x, .int .i64 P.y, .bool P.far] 33)).alloc (.cells #[.int .i64 0, .int .i64 0, .bool false] 33)) p a b P := by
  have k1 := KB.made w #[.int .i64 p, .int .i64 a, .int .i64 b] 36
  have b1 := bel_x w (.cells #[.int .i64 p, .int .i64 a, .int .i64 b] 36)
  obtain ⟨W1, hW1⟩ : ∃ Z, w.alloc (.cells #[.int .i64 p, .int .i64 a, .int .i64 b] 36) = Z := ⟨_, rfl⟩
  have s1 : W1.heap.size = w.heap.size + 1 := by rw [← hW1, World.size_alloc]
  rw [hW1] at k1 b1 ⊢
  have k2 := KB.made W1 #[.int .i64 P.x, .int .i64 P.y, .bool P.far] 33
  have b2 := bel_x W1 (.cells #[.int .i64 P.x, .int .i64 P.y, .bool P.far] 33)
  obtain ⟨W2, hW2⟩ : ∃ Z, W1.alloc (.cells #[.int .i64 P.x, .int .i64 P.y, .bool P.far] 33) = Z := ⟨_, rfl⟩
  have s2 : W2.heap.size = w.heap.size + 1 + 1 := by rw [← hW2, World.size_alloc, s1]
  rw [hW2] at k2 b2 ⊢
  have k3 := KB.made W2 #[.int .i64 0, .int .i64 0, .bool false] 33
  have b3 := bel_x W2 (.cells #[.int .i64 0, .int .i64 0, .bool false] 33)
  rw [s1] at k2
  rw [s2] at k3
  have c2 := b1.trans (b2.mono b1.size)
  exact ⟨(k1.below b2).below b3, k2.below b3, k3, c2.trans (b3.mono c2.size), by rw [World.size_alloc, s2]⟩
theorem Tm0.out_ {w W : World} {p a b : Int} {Q : CP} (h : Tm0 w W p a b Q) : TmM w (W.alloc (.cells #[.int .i64 0, .int .i64 0, .bool true] 33)) p a b Q farC := by
  have k := KB.made W #[.int .i64 0, .int .i64 0, .bool true] 33
  rw [h.s] at k
  have b := bel_x W (.cells #[.int .i64 0, .int .i64 0, .bool true] 33)
  exact ⟨h.c.below b, h.q.below b, h.r.below b, k, h.b.trans (b.mono h.b.size)⟩
theorem Tm0.drw {w W : World} {p a b : Int} {Q : CP} (h : Tm0 w W p a b Q) (n : Nat) : Tm0 w (W.drewN n) p a b Q :=
  ⟨h.c.below (below_drewN (Below.refl _ _) n), h.q.below (below_drewN (Below.refl _ _) n), h.r.below (below_drewN (Below.refl _ _) n), h.b.trans ((below_drewN (Below.refl _ _) n).mono h.b.size), h.s⟩
theorem Tm0.sety {w W : World} {p a b x y : Int} {f : Bool} (h : Tm0 w W p a b ⟨x, y, f⟩) (v : Int) : Tm0 w (W.setCell ⟨w.heap.size + 1, 1, none⟩ (.int .i64 v)) p a b ⟨x, v, f⟩ := by
  refine ⟨h.c.far ?_ _, h.q.set 1 (.int .i64 v), h.r.far ?_ _, h.b.setCell (p := ⟨w.heap.size + 1, 1, none⟩) ?_ _, by rw [World.size_setCell]; exact h.s⟩
  all_goals first | (show w.heap.size ≤ w.heap.size + 1; omega) | (show _ ≠ w.heap.size + 1; omega)

set_option maxRecDepth 100000 in
set_option maxHeartbeats 3200000 in
theorem ctimes_any (p : Nat) (a b : Int) (n : Int) (P : CP) (w : World) (h : OkCv p a b) (hP : okC p a b P) (h1 : -1000000000000000000 ≤ n) (h2 : n ≤ 1000000000000000000) :
    Calls Tryz.prog 20 #[cvv p a b, .int .i64 n, ptv P] w fun e w' => e = .returned (ptv (zC p a n P)) ∧ Below w.heap.size w w' := by
  have hp1 := h.p1
  have hp2 := h.p2
  have HG := hide (cgroup h)
  have CA := fun (P Q : CP) (hP : okC p a b P) (hQ : okC p a b Q) W => hide (cadd_any p a b P Q W h hP hQ)
  have HM := hide (Tm0.start w p a b P)
  unfold cvv ptv at CA ⊢
  obtain ⟨W3, hW3⟩ : ∃ Z, (((w.alloc (.cells #[.int .i64 p, .int .i64 a, .int .i64 b] 36)).alloc (.cells #[.int .i64 P.x, .int .i64 P.y, .bool P.far] 33)).alloc (.cells #[.int .i64 0, .int .i64 0, .bool false] 33)) = Z := ⟨_, rfl⟩
  rw [hW3] at HM
  have HCA := hide CA
  have HPP := hide hP
  have HN := hide (And.intro h1 h2)
  go_enter Tryz.func20, Tryz.ntmps20
  go_upto_region 1 with (fail)
  (try rw [hW3])
  clear hW3 CA
  obtain ⟨c0, c1, c2⟩ := HM.out.c.three
  obtain ⟨u0, u1, u2⟩ := HM.out.q.three
  go_cut [14] (fun tv wx => tv = .bool (decide (n < 0) && !P.far) ∧ wx = W3)
  case first =>
    by_cases hn : n < 0
    · have q1 : decide (n < 0) = true := by simpa using hn
      clear hn h1 h2
      rcases (show P.far = true ∨ P.far = false by cases P.far <;> simp) with hf | hf
      all_goals
        rw [hf] at u2
        have HF := hide hf
        clear hf
        go_wp2_with fail
        go_meet
        exact ⟨by rw [q1, HF.out]; rfl, rfl⟩
    · have q1 : decide (n < 0) = false := by simpa using hn
      clear hn h1 h2
      go_wp2_with fail
      go_meet
      exact ⟨by rw [q1]; rfl, rfl⟩
  case rest =>
    obtain ⟨rfl, rfl⟩ := hcut
    obtain ⟨B, hB⟩ : ∃ B, (decide (n < 0) && !P.far) = B := ⟨_, rfl⟩
    have HBB := hide hB
    rw [hB]
    clear hB h1 h2
    go_upto_if 14 with (fail)
    go_cut [1] (fun nv wx => ∃ (m : Int) (Q : CP), nv = .int .i64 m ∧ Hid (m ≤ 1000000000000000000) ∧ Hid (Tm0 w wx p a b Q) ∧ Hid (okC p a b Q ∧ zC p a n P = mulC p a m.toNat Q))
    case first =>
      cases B
      · have HZ := hide (z_false HG.out HPP.out HBB.out)
        clear h hP hp1 hp2
        go_wp2_with fail
        go_meet
        exact ⟨n, P, rfl, hide HN.out.2, HM, hide ⟨HPP.out, HZ.out⟩⟩
      · obtain ⟨hn, hf⟩ : n < 0 ∧ P.far = false := by
          have := HBB.out
          simp only [Bool.and_eq_true, decide_eq_true_eq, Bool.not_eq_true'] at this
          exact this
        obtain ⟨_, ⟨y0, y1⟩, _⟩ := hP.near hf
        have hlo := HN.out.1
        have w1 : IntKind.i64.wrap (-n) = -n := by rw [IntKind.wrap_i64]; omega
        have w2 : IntKind.i64.wrap ((p : Int) - P.y) = (p : Int) - P.y := by rw [IntKind.wrap_i64]; omega
        have hr : ((p : Int) - P.y).tmod (p : Int) = ((p : Int) - P.y) % (p : Int) := tmod_emod (by omega)
        have hp0 : (p : Int) ≠ 0 := by omega
        obtain ⟨Y, hY⟩ : ∃ Y, ((p : Int) - P.y) % (p : Int) = Y := ⟨_, rfl⟩
        rw [hY] at hr
        have HNEG : Hid (negC p P = ⟨P.x, Y, P.far⟩) := hide (by unfold negC; rw [if_neg (by rw [hf]; simp), hY, hf])
        have HZ := hide (z_true (p := p) (a := a) (P := P) hn)
        have HOK := hide (negC_ok' h hP)
        have HN2 : Hid (-n ≤ 1000000000000000000) := hide (by omega)
        obtain ⟨W0, hW0⟩ : ∃ Z, Z = wc := ⟨_, rfl⟩
        have HM1 := hide ((Tm0.sety (x := P.x) (y := P.y) (f := P.far) HM.out Y).drw 1)
        rw [HNEG.out] at HOK HZ
        have z1 := HM.out.q.frozen 1
        clear h hP hp1 hp2 hn hf y0 y1 hlo hY hW0
        go_wp2_with fail
        go_region_with (fail)
        all_goals
          go_wp2_with fail
          go_meet
          exact ⟨-n, ⟨P.x, Y, P.far⟩, rfl, HN2, HM1, hide ⟨HOK.out, HZ.out⟩⟩
    case rest =>
      obtain ⟨m, Q, rfl, Hm, HT, HQ⟩ := hcut
      obtain ⟨W5, rfl⟩ : ∃ Z, Z = wc := ⟨_, rfl⟩
      have HT2 := hide HT.out.out_
      have hs := HT.out.s
      clear HPP HN HBB hP h hp1 hp2 HT HM
      go_wp2_with fail
      obtain ⟨W6, hW6⟩ : ∃ Z, W5.alloc (.cells #[.int .i64 0, .int .i64 0, .bool true] 33) = Z := ⟨_, rfl⟩
      rw [hW6] at HT2
      (try rw [hW6])
      (try rw [hs])
      clear hW6 hs
      go_loopw [1] (fun nv wr => ∃ (k : Int) (Q O : CP), nv = .int .i64 k ∧ Hid (k ≤ 1000000000000000000) ∧ Hid (TmM w wr p a b Q O) ∧ Hid ((okC p a b Q ∧ okC p a b O) ∧ addC p a O (mulC p a k.toNat Q) = zC p a n P)) (fun nv _ => (intOf nv).toNat)
      case atStart => exact ⟨m, Q, farC, rfl, Hm, HT2, hide ⟨⟨HQ.out.1, okC_far⟩, by rw [HQ.out.2]; exact HG.out.zadd (HG.out.nmok HQ.out.1 _)⟩⟩
      case round =>
        clear HT2 HQ Hm
        obtain ⟨k, Q, O, rfl, Hk, HT, HQ⟩ := hrel
        obtain ⟨c0, c1, c2⟩ := HT.out.c.three
        obtain ⟨u0, u1, u2⟩ := HT.out.q.three
        obtain ⟨v0, v1, v2⟩ := HT.out.o.three
        by_cases hk : 0 < k
        · have q1 : decide (0 < k) = true := by simpa using hk
          obtain ⟨K, rfl⟩ : ∃ K : Nat, k = K := ⟨k.toNat, by omega⟩
          have hK0 := hk
          have q2 : decide (0 < K) = true := by rw [decide_eq_true_eq]; omega
          have hand := and_one K (by have := Hk.out; omega)
          have HKK := hide hk
          have HK2 : Hid (((K / 2 : Nat) : Int) ≤ 1000000000000000000) := hide (by have := Hk.out; omega)
          by_cases hodd : K % 2 = 1
          · have hand : bits BinOp.and IntKind.i64 (K : Int) 1 = 1 := by rw [hand, hodd]; rfl
            have HQ2 : Hid ((okC p a b (addC p a Q Q) ∧ okC p a b (addC p a O Q)) ∧ addC p a (addC p a O Q) (mulC p a (K / 2) (addC p a Q Q)) = zC p a n P) := hide ⟨⟨HG.out.aok _ _ HQ.out.1.1 HQ.out.1.1, HG.out.aok _ _ HQ.out.1.2 HQ.out.1.1⟩, (HG.out.bin_odd HQ.out.1.2 HQ.out.1.1 hodd).trans HQ.out.2⟩
            have CA1 := HCA.out O Q HQ.out.1.2 HQ.out.1.1
            have CA2 := HCA.out Q Q HQ.out.1.1 HQ.out.1.1
            clear hodd hk hK0 HQ
            go_wp2_with fail
            refine (CA1 _).out.mono ?_
            rintro e w6 ⟨rfl, hb⟩
            have HA := hide (HT.out.below hb)
            clear hb HT CA1 c0 c1 c2 u0 u1 u2 v0 v1 v2
            obtain ⟨v0, v1, v2⟩ := HA.out.o.three
            have z0 := HA.out.o.frozen 0
            have z1 := HA.out.o.frozen 1
            have z2 := HA.out.o.frozen 2
            have HB := hide (HA.out.seto (addC p a O Q))
            go_upto_region 8 with (fail)
            obtain ⟨W7, hW7⟩ : ∃ Z, (((w6.setCell ⟨w.heap.size + 1 + 1 + 1, 0, none⟩ (.int .i64 (addC p a O Q).x)).setCell ⟨w.heap.size + 1 + 1 + 1, 1, none⟩ (.int .i64 (addC p a O Q).y)).setCell ⟨w.heap.size + 1 + 1 + 1, 2, none⟩ (.bool (addC p a O Q).far)) = Z := ⟨_, rfl⟩
            rw [hW7] at HB ⊢
            clear hW7 HA v0 v1 v2 z0 z1 z2
            obtain ⟨c0, c1, c2⟩ := HB.out.c.three
            obtain ⟨u0, u1, u2⟩ := HB.out.q.three
            go_wp2_with fail
            refine (CA2 _).out.mono ?_
            rintro e w8 ⟨rfl, hb⟩
            have HC := hide (HB.out.below hb)
            clear hb HB CA2 c0 c1 c2 u0 u1 u2
            obtain ⟨v0, v1, v2⟩ := HC.out.q.three
            have z0 := HC.out.q.frozen 0
            have z1 := HC.out.q.frozen 1
            have z2 := HC.out.q.frozen 2
            have HD := hide (HC.out.setq (addC p a Q Q))
            go_wp2_with fail
            go_roundw
            case rel => exact ⟨((K / 2 : Nat) : Int), _, _, by simp, HK2, HD, HQ2⟩
            case measure => have := HKK.out; simp [intOf]; omega
          · have hand : bits BinOp.and IntKind.i64 (K : Int) 1 = 0 := by rw [hand, show K % 2 = 0 from by omega]; rfl
            have HQ2 : Hid ((okC p a b (addC p a Q Q) ∧ okC p a b O) ∧ addC p a O (mulC p a (K / 2) (addC p a Q Q)) = zC p a n P) := hide ⟨⟨HG.out.aok _ _ HQ.out.1.1 HQ.out.1.1, HQ.out.1.2⟩, (HG.out.bin_even HQ.out.1.1 (by omega)).trans HQ.out.2⟩
            have CA2 := HCA.out Q Q HQ.out.1.1 HQ.out.1.1
            have HB := HT
            clear hodd hk hK0 HQ HT c0 c1 c2 u0 u1 u2 v0 v1 v2
            obtain ⟨c0, c1, c2⟩ := HB.out.c.three
            obtain ⟨u0, u1, u2⟩ := HB.out.q.three
            go_wp2_with fail
            refine (CA2 _).out.mono ?_
            rintro e w8 ⟨rfl, hb⟩
            have HC := hide (HB.out.below hb)
            clear hb HB CA2 c0 c1 c2 u0 u1 u2
            obtain ⟨v0, v1, v2⟩ := HC.out.q.three
            have z0 := HC.out.q.frozen 0
            have z1 := HC.out.q.frozen 1
            have z2 := HC.out.q.frozen 2
            have HD := hide (HC.out.setq (addC p a Q Q))
            go_wp2_with fail
            go_roundw
            case rel => exact ⟨((K / 2 : Nat) : Int), _, _, by simp, HK2, HD, HQ2⟩
            case measure => have := HKK.out; simp [intOf]; omega
        · have q1 : decide (0 < k) = false := by simpa using hk
          have HE : Hid (O = zC p a n P) := hide (by
            have := HQ.out.2
            rw [show k.toNat = 0 by omega] at this
            rw [← this]
            exact (HG.out.add0 _ HQ.out.1.2).symm)
          clear hk HQ
          obtain ⟨r0, r1, r2⟩ := HT.out.r.three
          have z0 := HT.out.r.frozen 0
          have z1 := HT.out.r.frozen 1
          have z2 := HT.out.r.frozen 2
          obtain ⟨k1, k2⟩ := tm_put HT.out O.x O.y O.far
          have HK := hide k2
          obtain ⟨s0, s1, s2⟩ := k1.three
          clear k1 k2
          go_wp2_with fail
          exact bodyPost_ret (v := .agg #[.int .i64 O.x, .int .i64 O.y, .bool O.far]) (by simp [results, Tryz.results20, go_sem, s0, s1, s2]) rfl ⟨by rw [HE.out], HK.out⟩
end Go.Proofs.YtofjmnodfabohaaGreatDoor
