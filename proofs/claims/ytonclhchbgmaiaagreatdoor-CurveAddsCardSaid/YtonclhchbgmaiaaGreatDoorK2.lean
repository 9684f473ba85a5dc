/- Walks and laws, in one text: each under the conditions that its theorems name. -/
import Derived.Test.YtonclhchbgmaiaaGreatDoorKCurvR
import Derived.Test.YtonclhchbgmaiaaGreatDoorKCurvS
import Derived.Test.YtonclhchbgmaiaaGreatDoorKCurvK
namespace Go.Proofs.YtonclhchbgmaiaaGreatDoor
open Go.RowKit
open CV

theorem Blks.put3 {w W : World} {l : List (Nat × Array Value × TypeId)} {g : Nat} {T : TypeId} {u v s : Value} (h : Blks w W ((g, #[u, v, s], T) :: l)) (hl : ∀ e ∈ l, e.1 ≠ g) (x y z : Value) :
    Blks w (((W.setCell ⟨g, 0, none⟩ x).setCell ⟨g, 1, none⟩ y).setCell ⟨g, 2, none⟩ z) ((g, #[x, y, z], T) :: l) := by
  have hg : w.heap.size ≤ g := h.n (g, #[u, v, s], T) (by simp)
  have hk : KB W g #[u, v, s] T := h.get 0 rfl
  refine ⟨((h.b.setCell (p := ⟨g, 0, none⟩) hg x).setCell (p := ⟨g, 1, none⟩) hg y).setCell (p := ⟨g, 2, none⟩) hg z, h.t, fun e he => ?_, fun e he => ?_⟩
  · rcases List.mem_cons.1 he with rfl | he
    · exact ((hk.set 0 x).set 1 y).set 2 z
    · exact (((h.k e (by simp [he])).far (p := ⟨g, 0, none⟩) (hl e he) x).far (p := ⟨g, 1, none⟩) (hl e he) y).far (p := ⟨g, 2, none⟩) (hl e he) z
  · rcases List.mem_cons.1 he with rfl | he
    · exact hg
    · exact h.n e (by simp [he])
theorem Blks.drop1 {w W : World} {l : List (Nat × Array Value × TypeId)} {e f : Nat × Array Value × TypeId} (h : Blks w W (e :: f :: l)) : Blks w W (e :: l) :=
  ⟨h.b, h.t, fun x hx => h.k x (by rcases List.mem_cons.1 hx with rfl | hx <;> simp [*]), fun x hx => h.n x (by rcases List.mem_cons.1 hx with rfl | hx <;> simp [*])⟩
theorem pts_le {p : Nat} {a b : Int} (h : OkCv p a b) : (ptsC p a b).length ≤ 5000000 := by
  have h1 := pts_len p a b
  have hp := h.p2
  have h2 : p * p ≤ 2000 * 2000 := Nat.mul_le_mul (by omega) (by omega)
  omega

set_option maxRecDepth 100000 in
set_option maxHeartbeats 3200000 in
theorem ROrder_any (p : Nat) (a b : Int) (Q : CP) (w : World) (hT : TabW w) (h : OkCv p a b) (hQ : okC p a b Q) :
    Calls Tryz.prog 19 #[.int .i64 (p : Int), .int .i64 a, ptv Q] w (RetOrd w p a Q) := by
  obtain ⟨N, hN⟩ := ord_ex' h hQ
  have hNl : N ≤ 5000000 := Nat.le_trans (ord_le h hQ hN) (pts_le h)
  have G := cgroup h
  have HN := hide hN
  have HNL := hide hNl
  have CA := fun (j : Nat) W (hW : TabW W) => hide (Added_any p a b (mulC p a j Q) Q W hW h (G.nmok hQ j) hQ)
  have HOK : Hid (∀ j, okC p a b (mulC p a j Q)) := hide fun j => G.nmok hQ j
  have H0 : Hid (Blks w w []) := hide ⟨Below.refl _ _, hT, by simp, by simp⟩
  have H1 := hide (((H0.out.new #[.int .i64 Q.x, .int .i64 Q.y, .bool Q.far] 30)).new #[.int .i64 Q.x, .int .i64 Q.y, .bool Q.far] 30)
  obtain ⟨W1, hW1⟩ : ∃ ZZ, ((w.alloc (.cells #[.int .i64 Q.x, .int .i64 Q.y, .bool Q.far] 30)).alloc (.cells #[.int .i64 Q.x, .int .i64 Q.y, .bool Q.far] 30)) = ZZ := ⟨_, rfl⟩
  simp only [World.size_alloc] at H1
  rw [hW1] at H1
  have e1 : mulC p a 1 Q = Q := G.nm_one hQ
  have n1 := hN.1
  have HS : ∀ j, Hid (mulC p a (j + 1) Q = addC p a (mulC p a j Q) Q) := fun j => hide rfl
  unfold ptv at CA
  have HCA := hide CA
  obtain ⟨P', hP'⟩ : ∃ P' : Int, (p : Int) = P' := ⟨_, rfl⟩
  rw [hP'] at HCA ⊢
  clear hT h hQ hN G CA H0 hP' hNl
  unfold ptv
  go_enter Tryz.func19, Tryz.ntmps19
  go_wp2_with fail
  (try rw [hW1])
  clear hW1
  go_loopw [7, 8] (fun nv rv wr => ∃ (j g : Nat), nv = .int .i64 j ∧ rv = .pointer (some ⟨g, 0, none⟩) ∧ 1 ≤ j ∧ j ≤ N ∧ Hid (w.heap.size < g) ∧ Hid (Blks w wr [(g, #[.int .i64 (mulC p a j Q).x, .int .i64 (mulC p a j Q).y, .bool (mulC p a j Q).far], 30), (w.heap.size, #[.int .i64 Q.x, .int .i64 Q.y, .bool Q.far], 30)])) (fun nv _ _ => 5000001 - (intOf nv).toNat)
  case atStart => exact ⟨1, w.heap.size + 1, rfl, rfl, by omega, n1, hide (by omega), by rw [e1]; exact H1⟩
  case round =>
    clear H1 e1
    obtain ⟨j, g, rfl, rfl, hj1, hj, HG, HB⟩ := hrel
    by_cases hjn : j = N
    · subst hjn
      have hf : (mulC p a j Q).far = true := by rw [show mulC p a j Q = farC from HN.out.2.1]; rfl
      obtain ⟨r0, r1, r2⟩ := (HB.out.get 0 rfl).three
      rw [hf] at r2
      have HBB := hide HB.out.b
      clear hf HB HCA HS HOK n1
      go_wp2_with fail
      go_ret
      exact ⟨j, rfl, HN.out, HBB.out⟩
    · have hjl : j < N := by omega
      have hne : mulC p a j Q ≠ farC := HN.out.2.2 j hj1 hjl
      have hf : (mulC p a j Q).far = false := by
        cases hc : (mulC p a j Q).far
        · rfl
        · exact absurd ((HOK.out j).isfar hc) hne
      have CA := HCA.out j
      have HS1 := HS j
      obtain ⟨R, hR⟩ : ∃ R, mulC p a j Q = R := ⟨_, rfl⟩
      obtain ⟨R2, hR2⟩ : ∃ R, mulC p a (j + 1) Q = R := ⟨_, rfl⟩
      unfold Hid at HS1
      rw [hR, hR2] at HS1
      rw [hR] at CA HB hf
      rw [← HS1] at CA
      obtain ⟨r0, r1, r2⟩ := (HB.out.get 0 rfl).three
      rw [hf] at r2
      obtain ⟨q0, q1, q2⟩ := (HB.out.get 1 rfl).three
      have HF := hide hf
      have hNL := HNL.out
      have w1 : IntKind.i64.wrap ((j : Int) + 1) = ((j + 1 : Nat) : Int) := by rw [IntKind.wrap_i64]; omega
      have HR2 := hide hR2
      clear hne hjn hR hR2 HS1 hf HCA hNL
      rw [HF.out] at CA
      have HB2 := hide (HB.out.new #[.int .i64 R.x, .int .i64 R.y, .bool false] 30).drop1
      have hlt : w.heap.size < wr.heap.size := (HB.out.get 1 rfl).lt
      go_wp2_with fail
      refine (CA _ HB2.out.tab).out.mono ?_
      rintro e w3 ⟨rfl, hb⟩
      have HB3 := hide (HB2.out.below hb)
      have HG2 : Hid (w.heap.size < wr.heap.size) := hide hlt
      obtain ⟨g2, hg2⟩ : ∃ ZZ, wr.heap.size = ZZ := ⟨_, rfl⟩
      rw [hg2] at HB3 HG2
      have HB4 := hide (HB3.out.put3 (by simp; have := HG2.out; omega) (.int .i64 R2.x) (.int .i64 R2.y) (.bool R2.far))
      obtain ⟨z0, z1, z2⟩ := (HB3.out.get 0 rfl).three
      have f0 := (HB3.out.get 0 rfl).frozen 0
      have f1 := (HB3.out.get 0 rfl).frozen 1
      have f2 := (HB3.out.get 0 rfl).frozen 2
      obtain ⟨W4, hW4⟩ : ∃ ZZ, (((w3.setCell ⟨g2, 0, none⟩ (.int .i64 R2.x)).setCell ⟨g2, 1, none⟩ (.int .i64 R2.y)).setCell ⟨g2, 2, none⟩ (.bool R2.far)) = ZZ := ⟨_, rfl⟩
      rw [hW4] at HB4
      clear hb HB HB2 HB3 CA r0 r1 r2 q0 q1 q2 hlt
      go_wp2_with fail
      clear z0 z1 z2 f0 f1 f2 hW4
      go_roundw
      case rel => exact ⟨j + 1, g2, by go_num, by first | rfl | (rw [hg2]), by omega, by omega, HG2, by rw [HR2.out]; exact HB4⟩
      case measure => simp [intOf]; have := HNL.out; omega
end Go.Proofs.YtonclhchbgmaiaaGreatDoor

namespace Go.Proofs.YtonclhchbgmaiaaGreatDoor
open Go.RowKit
open CV

theorem z_mod {p : Nat} {a b : Int} (h : OkCv p a b) {Q : CP} (hQ : okC p a b Q) {k : Nat} (hk : IsOrd (addC p a) farC Q k) (n : Int) : zC p a n Q = mulC p a (n % (k : Int)).toNat Q := by
  have G := cgroup h
  have hk1 := hk.1
  have hk0 : nm (addC p a) farC k Q = farC := hk.2.1
  have e := G.zm_add hQ (n % (k : Int)) ((k : Int) * (n / (k : Int)))
  rw [Int.emod_add_mul_ediv] at e
  have e2 : zm (addC p a) farC (negC p) ((k : Int) * (n / (k : Int))) Q = farC := by
    unfold zm
    split
    · have hn : nm (addC p a) farC k (negC p Q) = farC := by
        have hi := G.nm_inv hQ k
        rw [hk0, G.zadd (G.nmok (G.nok _ hQ) k)] at hi
        exact hi
      exact G.dvd_zero (G.nok _ hQ) hn (by rw [Int.natAbs_mul]; exact Nat.dvd_mul_right _ _)
    · exact G.dvd_zero hQ hk0 (by rw [Int.natAbs_mul]; exact Nat.dvd_mul_right _ _)
  have e3 : zm (addC p a) farC (negC p) (n % (k : Int)) Q = mulC p a (n % (k : Int)).toNat Q := by
    have h0 := Int.emod_nonneg n (show (k : Int) ≠ 0 by omega)
    unfold zm mulC
    rw [if_neg (by omega)]
    congr 1
    omega
  show zm (addC p a) farC (negC p) n Q = _
  rw [e, e2, e3]
  exact G.add0 _ (G.nmok hQ _)

/-- Times's fault -/
noncomputable def timF (p a b n : Int) (P : CP) : Int × Int := if (lookC p a b [P]).1 ≠ 0 then lookC p a b [P] else if okB n = false then (3, 4) else (0, 0)
noncomputable def timR (p a b n : Int) (P : CP) : CP := if (timF p a b n P).1 = 0 then zC p.toNat a n P else ⟨0, 0, false⟩
theorem look_zero {p a b : Int} {L : List CP} (h : (lookC p a b L).1 = 0) : lookC p a b L = (0, 0) := by
  obtain ⟨h1, h2⟩ := lookC_zero h
  have hp := h1.p1
  unfold lookC
  obtain ⟨n, rfl⟩ : ∃ n : Nat, p = n := ⟨p.toNat, by omega⟩
  rw [h1.chk, if_neg (by simp)]
  exact offP_ok h2
theorem Times_any (p a b n : Int) (P : CP) (w : World) (hT : TabW w) :
    Calls Tryz.prog 15 #[.int .i64 p, .int .i64 a, .int .i64 b, .int .i64 n, ptv P] w (RetAdd w (timR p a b n P) (timF p a b n P)) := by
  by_cases hl : (lookC p a b [P]).1 = 0
  · have hlk := look_zero hl
    cases hn : okB n
    · have hF : timF p a b n P = (3, 4) := by unfold timF; rw [if_neg (by simpa using hl), if_pos hn]
      have hR : timR p a b n P = ⟨0, 0, false⟩ := by unfold timR; rw [hF]; exact if_neg (by simp)
      rw [hF, hR]
      exact Times_over p a b n P w hT hlk hn
    · have hF : timF p a b n P = (0, 0) := by unfold timF; rw [if_neg (by simpa using hl), if_neg (by rw [hn]; simp)]
      have hR : timR p a b n P = zC p.toNat a n P := by unfold timR; rw [hF]; exact if_pos rfl
      rw [hF, hR]
      obtain ⟨h1, h2⟩ := lookC_zero hl
      have hp := h1.p1
      obtain ⟨q, rfl⟩ : ∃ q : Nat, p = q := ⟨p.toNat, by omega⟩
      exact Times_ok q a b n P w hT h1 (h2 P (by simp)) (by unfold okB at hn; simp at hn; omega)
  · have hF : timF p a b n P = lookC p a b [P] := if_pos hl
    have hR : timR p a b n P = ⟨0, 0, false⟩ := by unfold timR; rw [hF]; exact if_neg hl
    rw [hF, hR]
    exact Times_bad p a b n P w hT _ _ rfl hl
/-- what Order answers -/
def OrdIs (p a b : Int) (P : CP) (o : Int) : Prop := if (lookC p a b [P]).1 = 0 then ∃ n : Nat, o = n ∧ IsOrd (addC p.toNat a) farC P n else o = 0
theorem Order_any (p a b : Int) (P : CP) (w : World) (hT : TabW w) :
    Calls Tryz.prog 16 #[.int .i64 p, .int .i64 a, .int .i64 b, ptv P] w fun e w' => ∃ o : Int, e = .returned (.tuple #[.int .i64 o, fv (lookC p a b [P])]) ∧ OrdIs p a b P o ∧ Below w.heap.size w w' := by
  by_cases hl : (lookC p a b [P]).1 = 0
  · rw [look_zero hl]
    obtain ⟨h1, h2⟩ := lookC_zero hl
    have hp := h1.p1
    obtain ⟨q, rfl⟩ : ∃ q : Nat, p = q := ⟨p.toNat, by omega⟩
    refine (Order_ok q a b P w hT h1 (h2 P (by simp))).mono ?_
    rintro e w' ⟨n, he, ho, hb⟩
    exact ⟨n, he, by unfold OrdIs; rw [if_pos hl]; exact ⟨n, rfl, ho⟩, hb⟩
  · refine (Order_bad p a b P w hT _ _ rfl hl).mono ?_
    rintro e w' ⟨he, hb⟩
    exact ⟨0, he, by unfold OrdIs; rw [if_neg hl], hb⟩
end Go.Proofs.YtonclhchbgmaiaaGreatDoor

