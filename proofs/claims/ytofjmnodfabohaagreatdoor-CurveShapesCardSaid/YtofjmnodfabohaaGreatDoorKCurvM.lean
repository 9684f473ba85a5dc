/- The walk of R.CurveOrder. -/
import Derived.Test.YtofjmnodfabohaaGreatDoorKCurvR
import Derived.Test.YtofjmnodfabohaaGreatDoorKCurvS
namespace Go.Proofs.YtofjmnodfabohaaGreatDoor
open Go.RowKit
open CV

theorem Blks.put3 {w W : World} {l : List (Nat × Array Value × TypeId)} {g : Nat} {T : TypeId} {u v s : Value} (h : Blks w W ((g, #[u, v, s], T) :: l)) (hl : ∀ e ∈ l, e.1 ≠ g) (x y z : Value) :
    Blks w (((W.setCell ⟨g, 0, none⟩ x).setCell ⟨g, 1, none⟩ y).setCell ⟨g, 2, none⟩ z) ((g, #[x, y, z], T) :: l) := by
  have hg : w.heap.size ≤ g := h.n (g, #[u, v, s], T) (by simp)
  have hk : KB W g #[u, v, s] T := h.get 0 rfl
  refine ⟨((h.b.setCell (p := ⟨g, 0, none⟩) hg x).setCell (p := ⟨g, 1, none⟩) hg y).setCell (p := ⟨g, 2, none⟩) hg z, h.t, fun e he => ?_, fun e he => ?_⟩
  · rcases List.mem_cons.1 he with rfl | he
    · exact ((hk.set 0 x).set 1 y).set 2 z
    · exact (((h.k e (by simp [he])).far (p := ⟨g, 0, none⟩) (hl e he) x).far (p := ⟨g, 1, none⟩) (hl e he) y).far (p := ⟨g, 2, none⟩) (hl e he) z
  · rcases List.mem_cons.1 he with rfl | he
    · exact hg
    · exact h.n e (by simp [he])
theorem Blks.drop1 {w W : World} {l : List (Nat × Array Value × TypeId)} {e f : Nat × Array Value × TypeId} (h : Blks w W (e :: f :: l)) : Blks w W (e :: l) :=
  ⟨h.b, h.t, fun x hx => h.k x (by rcases List.mem_cons.1 hx with rfl | hx <;> simp [*]), fun x hx => h.n x (by rcases List.mem_cons.1 hx with rfl | hx <;> simp [*])⟩
theorem pts_le {p : Nat} {a b : Int} (h : OkCv p a b) : (ptsC p a b).length ≤ 5000000 := by
  have h1 := pts_len p a b
  have hp := h.p2
  have h2 : p * p ≤ 2000 * 2000 := Nat.mul_le_mul (by omega) (by omega)
  omega

set_option maxRecDepth 100000 in
set_option maxHeartbeats 3200000 in
theorem ROrder_any (p : Nat) (a b : Int) (Q : CP) (w : World) (hT : TabW w) (h : OkCv p a b) (hQ : okC p a b Q) :
    Calls Tryz.prog 8 #[.int .i64 (p : Int), .int .i64 a, ptv Q] w (RetOrd w p a Q) := by
  obtain ⟨N, hN⟩ := ord_ex' h hQ
  have hNl : N ≤ 5000000 := Nat.le_trans (ord_le h hQ hN) (pts_le h)
  have G := cgroup h
  have HN := hide hN
  have HNL := hide hNl
  have CA := fun (j : Nat) W (hW : TabW W) => hide (Added_any p a b (mulC p a j Q) Q W hW h (G.nmok hQ j) hQ)
  have HOK : Hid (∀ j, okC p a b (mulC p a j Q)) := hide fun j => G.nmok hQ j
  have H0 : Hid (Blks w w []) := hide ⟨Below.refl _ _, hT, by simp, by simp⟩
  have H1 := hide (((H0.out.new #[.int .i64 Q.x, .int .i64 Q.y, .bool Q.far] 33)).new #[.int .i64 Q.x, .int .i64 Q.y, .bool Q.far] 33)
  obtain ⟨W1, hW1⟩ : ∃ ZZ, ((w.alloc (.cells #[.int .i64 Q.x, .int .i64 Q.y, .bool Q.far] 33)).alloc (.cells #[.int .i64 Q.x, .int .i64 Q.y, .bool Q.far] 33)) = ZZ := ⟨_, rfl⟩
  simp only [World.size_alloc] at H1
  rw [hW1] at H1
  have e1 : mulC p a 1 Q = Q := G.nm_one hQ
  have n1 := hN.1
  have HS : ∀ j, Hid (mulC p a (j + 1) Q = addC p a (mulC p a j Q) Q) := fun j => hide rfl
  unfold ptv at CA
  have HCA := hide CA
  obtain ⟨P', hP'⟩ : ∃ P' : Int, (p : Int) = P' := ⟨_, rfl⟩
  rw [hP'] at HCA ⊢
  clear hT h hQ hN G CA H0 hP' hNl
  unfold ptv
  go_enter Tryz.func8, Tryz.ntmps8
  go_wp2_with fail
  (try rw [hW1])
  clear hW1
  go_loopw [7, 8] (fun nv rv wr => ∃ (j g : Nat), nv = .int .i64 j ∧ rv = .pointer (some ⟨g, 0, none⟩) ∧ 1 ≤ j ∧ j ≤ N ∧ Hid (w.heap.size < g) ∧ Hid (Blks w wr [(g, #[.int .i64 (mulC p a j Q).x, .int .i64 (mulC p a j Q).y, .bool (mulC p a j Q).far], 33), (w.heap.size, #[.int .i64 Q.x, .int .i64 Q.y, .bool Q.far], 33)])) (fun nv _ _ => 5000001 - (intOf nv).toNat)
  case atStart => exact ⟨1, w.heap.size + 1, rfl, rfl, by omega, n1, hide (by omega), by rw [e1]; exact H1⟩
  case round =>
    clear H1 e1
    obtain ⟨j, g, rfl, rfl, hj1, hj, HG, HB⟩ := hrel
    by_cases hjn : j = N
    · subst hjn
      have hf : (mulC p a j Q).far = true := by rw [show mulC p a j Q = farC from HN.out.2.1]; rfl
      obtain ⟨r0, r1, r2⟩ := (HB.out.get 0 rfl).three
      rw [hf] at r2
      have HBB := hide HB.out.b
      clear hf HB HCA HS HOK n1
      go_wp2_with fail
      go_ret
      exact ⟨j, rfl, HN.out, HBB.out⟩
    · have hjl : j < N := by omega
      have hne : mulC p a j Q ≠ farC := HN.out.2.2 j hj1 hjl
      have hf : (mulC p a j Q).far = false := by
        cases hc : (mulC p a j Q).far
        · rfl
        · exact absurd ((HOK.out j).isfar hc) hne
      have CA := HCA.out j
      have HS1 := HS j
      obtain ⟨R, hR⟩ : ∃ R, mulC p a j Q = R := ⟨_, rfl⟩
      obtain ⟨R2, hR2⟩ : ∃ R, mulC p a (j + 1) Q = R := ⟨_, rfl⟩
      unfold Hid at HS1
      rw [hR, hR2] at HS1
      rw [hR] at CA HB hf
      rw [← HS1] at CA
      obtain ⟨r0, r1, r2⟩ := (HB.out.get 0 rfl).three
      rw [hf] at r2
      obtain ⟨q0, q1, q2⟩ := (HB.out.get 1 rfl).three
      have HF := hide hf
      have hNL := HNL.out
      have w1 : IntKind.i64.wrap ((j : Int) + 1) = ((j + 1 : Nat) : Int) := by rw [IntKind.wrap_i64]; omega
      have HR2 := hide hR2
      clear hne hjn hR hR2 HS1 hf HCA hNL
      rw [HF.out] at CA
      have HB2 := hide (HB.out.new #[.int .i64 R.x, .int .i64 R.y, .bool false] 33).drop1
      have hlt : w.heap.size < wr.heap.size := (HB.out.get 1 rfl).lt
      go_wp2_with fail
      refine (CA _ HB2.out.tab).out.mono ?_
      rintro e w3 ⟨rfl, hb⟩
      have HB3 := hide (HB2.out.below hb)
      have HG2 : Hid (w.heap.size < wr.heap.size) := hide hlt
      obtain ⟨g2, hg2⟩ : ∃ ZZ, wr.heap.size = ZZ := ⟨_, rfl⟩
      rw [hg2] at HB3 HG2
      have HB4 := hide (HB3.out.put3 (by simp; have := HG2.out; omega) (.int .i64 R2.x) (.int .i64 R2.y) (.bool R2.far))
      obtain ⟨z0, z1, z2⟩ := (HB3.out.get 0 rfl).three
      have f0 := (HB3.out.get 0 rfl).frozen 0
      have f1 := (HB3.out.get 0 rfl).frozen 1
      have f2 := (HB3.out.get 0 rfl).frozen 2
      obtain ⟨W4, hW4⟩ : ∃ ZZ, (((w3.setCell ⟨g2, 0, none⟩ (.int .i64 R2.x)).setCell ⟨g2, 1, none⟩ (.int .i64 R2.y)).setCell ⟨g2, 2, none⟩ (.bool R2.far)) = ZZ := ⟨_, rfl⟩
      rw [hW4] at HB4
      clear hb HB HB2 HB3 CA r0 r1 r2 q0 q1 q2 hlt
      go_wp2_with fail
      clear z0 z1 z2 f0 f1 f2 hW4
      go_roundw
      case rel => exact ⟨j + 1, g2, by go_num, by first | rfl | (rw [hg2]), by omega, by omega, HG2, by rw [HR2.out]; exact HB4⟩
      case measure => simp [intOf]; have := HNL.out; omega
end Go.Proofs.YtofjmnodfabohaaGreatDoor
