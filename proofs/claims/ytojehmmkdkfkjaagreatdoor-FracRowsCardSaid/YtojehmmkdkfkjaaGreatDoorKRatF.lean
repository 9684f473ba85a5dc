/- The walk of Rat's Cmp, under a bound on the numbers. (gen_ratf.py prints this text.) -/
import Derived.Test.YtojehmmkdkfkjaaGreatDoorKRatE
namespace Go.Proofs.YtojehmmkdkfkjaaGreatDoor
open Go.RowKit

theorem calls_mono2 {P : Program} {f : Nat} {args : Array Value} {w : World} {Q R : Ending → World → Prop} (h : Calls P f args w Q) (k : ∀ e w', Q e w' → R e w') : Calls P f args w R := h.mono k
section
variable {w0 w : World} {L : List (Nat × Int)}
theorem own_new2 (h : Own w0 w L) : Own w0 ((w.alloc (.cells #[.bool false, .slice none 0 0] 47)).alloc (.cells #[.bool false, .slice none 0 0] 47)) ((w.heap.size + 1, 0) :: (w.heap.size, 0) :: L) := by
  have := h.new.new
  rwa [World.size_alloc] at this
theorem own_drw (h : Own w0 w L) : Own w0 w.drew L := h.drewN 1
theorem own_drwn (h : Own w0 w L) : Own w0 (w.drew.alloc (.cells #[.bool false, .slice none 0 0] 47)) ((w.heap.size, 0) :: L) := (h.drewN 1).new
theorem own_drwn2 (h : Own w0 w L) : Own w0 ((w.drew.alloc (.cells #[.bool false, .slice none 0 0] 47)).alloc (.cells #[.bool false, .slice none 0 0] 47)) ((w.heap.size + 1, 0) :: (w.heap.size, 0) :: L) := own_new2 (h.drewN 1)
theorem own_ndrw (h : Own w0 w L) : Own w0 (w.alloc (.cells #[.bool false, .slice none 0 0] 47)).drew ((w.heap.size, 0) :: L) := h.new.drewN 1
theorem own_ndrwn (h : Own w0 w L) : Own w0 ((w.alloc (.cells #[.bool false, .slice none 0 0] 47)).drew.alloc (.cells #[.bool false, .slice none 0 0] 47)) ((w.heap.size + 1, 0) :: (w.heap.size, 0) :: L) := by
  have := (h.new.drewN 1).new
  rwa [show ((w.alloc (.cells #[.bool false, .slice none 0 0] 47)).drewN 1).heap.size = w.heap.size + 1 from World.size_alloc ..] at this
theorem own_n2drw (h : Own w0 w L) : Own w0 ((w.alloc (.cells #[.bool false, .slice none 0 0] 47)).alloc (.cells #[.bool false, .slice none 0 0] 47)).drew ((w.heap.size + 1, 0) :: (w.heap.size, 0) :: L) := (own_new2 h).drewN 1
theorem l0 {α : Type} {x : α} {L : List α} : (x :: L)[0]? = some x := rfl
theorem l1 {α : Type} {x y : α} {L : List α} : (y :: x :: L)[1]? = some x := rfl
theorem ratden_own {p : Nat} {A B : Int} (h : Own w0 w L) (hp : RatAt w0 p A B) (hl : B.natAbs < lim) : Calls Tryz.prog 45 #[.pointer (some ⟨p, 0, none⟩)] w fun e w' => e = .returned (.pointer (some ⟨p, 2, none⟩)) ∧ w = w' :=
  den_any p A B w (hp.below h.bel) hl
theorem ratmul_own {p q g : Nat} {A B P Q Z : Int} (h : Own w0 w L) (hp : RatAt w0 p A B) (hq : RatAt w0 q P Q) (i : Nat) (hi : L[i]? = some (g, Z)) (b1 : A.natAbs < lim) (b2 : Q.natAbs < lim) (b3 : (A * Q).natAbs < lim) :
    Calls Tryz.prog 19 #[.pointer (some ⟨g, 0, none⟩), .pointer (some ⟨p, 0, none⟩), .pointer (some ⟨q, 2, none⟩)] w (RetOwn w0 (L.set i (g, A * Q)) g) :=
  (mul_in 0 2 g p q A Q w (h.blk hi) (hp.below h.bel).num (hq.below h.bel).den b1 b2 b3).mono fun _ _ hr => RetInt.own h hi hr
end
theorem icmp_scale {A P B : Int} (h : 0 < B) : icmp A P = icmp (A * B) (P * B) := by
  unfold icmp
  have e1 : A * B < P * B ↔ A < P := Int.mul_lt_mul_right h
  have e2 : P * B < A * B ↔ P < A := Int.mul_lt_mul_right h
  simp only [e1, e2]

set_option maxRecDepth 100000 in
set_option maxHeartbeats 3200000 in
theorem ratcmp_any (g k : Nat) (A B P Q : Int) (w : World) (h : RatAt w g A B) (h2 : RatAt w k P Q) (hB : B.natAbs < lim) (hQ : Q.natAbs < lim) (hA : A.natAbs < lim) (hP : P.natAbs < lim) (h1 : (A * Q).natAbs < lim) (h3 : (P * B).natAbs < lim) :
    Calls Tryz.prog 23 #[.pointer (some ⟨g, 0, none⟩), .pointer (some ⟨k, 0, none⟩)] w fun e w' => e = .returned (.int .i64 (icmp (A * Q) (P * B))) ∧ Below w.heap.size w w' := by
  have HL := hide (And.intro hB (And.intro hQ (And.intro hA (And.intro hP (And.intro h1 h3)))))
  have HG := hide h
  have HK := hide h2
  have CD1 := hide (den_any g A B w h hB)
  have CD2 := hide (den_any k P Q w h2 hQ)
  have CC := hide (cmp_in 2 2 g k B Q w h.den h2.den hB hQ)
  unfold RetCmp at CC
  clear h h2 hB hQ hA hP h1 h3
  by_cases hBQ : B = Q
  · have hc : icmp B Q = 0 := by rw [hBQ]; simp [icmp]
    rw [hc] at CC
    have HE : Hid (icmp (A * Q) (P * B) = icmp A P) := by
      unfold Hid
      rw [hBQ]
      exact (icmp_scale (hBQ ▸ HG.out.pos)).symm
    have C2 := hide (fun W (b : Below w.heap.size w W) => cmp_in 0 0 g k A P W (HG.out.below b).num (HK.out.below b).num HL.out.2.2.1 HL.out.2.2.2.1)
    unfold RetCmp at C2
    clear hBQ hc
    go_enter Tryz.func23, Tryz.ntmps23
    go_wp2_with fail
    refine CD1.out.mono ?_
    rintro e w1 ⟨rfl, rfl⟩
    go_wp2_with fail
    refine CD2.out.mono ?_
    rintro e w1 ⟨rfl, rfl⟩
    go_wp2_with fail
    refine CC.out.mono ?_
    rintro e w1 ⟨rfl, hb⟩
    have HB := hide hb
    clear hb CD1 CD2 CC
    go_upto_region 2 with (fail)
    go_region_held3 (fun w' => Hid (Below w.heap.size w w')) (first | exact hide (HB.out.drew) | exact hide (below_drewN HB.out 1) | exact hide (HB.out.drew.trans (hb.mono HB.out.drew.size))) (first | (go_at_call 46; refine (C2.out _ (HB.out.drew)).mono ?_; rintro e w2 ⟨rfl, hb⟩))
    have HB2 := hide (HB.out.drew.trans (hb.mono HB.out.drew.size))
    clear hb C2
    go_wp2_with fail
    go_ret
    exact ⟨by rw [HE.out]; rfl, HB2.out⟩
  · have hc : (icmp B Q == 0) = false := by
      unfold icmp
      by_cases h1 : B < Q
      · rw [if_pos h1]; rfl
      · rw [if_neg h1, if_pos (by omega)]; rfl
    have hc2 : decide (icmp B Q = 0) = false := by simpa using hc
    obtain ⟨cc, hcc⟩ : ∃ c, icmp B Q = c := ⟨_, rfl⟩
    rw [hcc] at CC hc hc2
    clear hBQ hcc
    go_enter Tryz.func23, Tryz.ntmps23
    go_wp2_with fail
    refine CD1.out.mono ?_
    rintro e w1 ⟨rfl, rfl⟩
    go_wp2_with fail
    refine CD2.out.mono ?_
    rintro e w1 ⟨rfl, rfl⟩
    go_wp2_with fail
    refine CC.out.mono ?_
    rintro e w1 ⟨rfl, hb⟩
    have O := hide (Own.of_below hb)
    clear hb CD1 CD2 CC
    go_upto_region 3 with (fail)
    go_region_held3 (fun w' => Hid (Below w.heap.size w w')) (first | with_reducible exact hide O.out.bel | with_reducible exact hide (own_drw O.out).bel | with_reducible exact hide O.out.new.bel | with_reducible exact hide (own_drwn O.out).bel | with_reducible exact hide (own_new2 O.out).bel | with_reducible exact hide (own_drwn2 O.out).bel | with_reducible exact hide (own_ndrw O.out).bel | with_reducible exact hide (own_ndrwn O.out).bel | with_reducible exact hide (own_n2drw O.out).bel) (first | (go_at_call 45; (with_reducible refine calls_mono2 (ratden_own (own_ndrw O.out) HG.out HL.out.1) ?_); rintro e w5 ⟨rfl, rfl⟩) | (go_at_call 45; (with_reducible refine calls_mono2 (ratden_own (own_n2drw O.out) HG.out HL.out.1) ?_); rintro e w5 ⟨rfl, rfl⟩) | (go_at_call 45; (with_reducible refine calls_mono2 (ratden_own (own_drw O.out) HG.out HL.out.1) ?_); rintro e w5 ⟨rfl, rfl⟩) | (go_at_call 45; (with_reducible refine calls_mono2 (ratden_own (own_drwn O.out) HG.out HL.out.1) ?_); rintro e w5 ⟨rfl, rfl⟩) | (go_at_call 45; (with_reducible refine calls_mono2 (ratden_own (own_drwn2 O.out) HG.out HL.out.1) ?_); rintro e w5 ⟨rfl, rfl⟩) | (go_at_call 45; (with_reducible refine calls_mono2 (ratden_own (own_ndrwn O.out) HG.out HL.out.1) ?_); rintro e w5 ⟨rfl, rfl⟩) | (go_at_call 45; (with_reducible refine calls_mono2 (ratden_own O.out.new HG.out HL.out.1) ?_); rintro e w5 ⟨rfl, rfl⟩) | (go_at_call 45; (with_reducible refine calls_mono2 (ratden_own (own_new2 O.out) HG.out HL.out.1) ?_); rintro e w5 ⟨rfl, rfl⟩) | (go_at_call 45; (with_reducible refine calls_mono2 (ratden_own O.out HG.out HL.out.1) ?_); rintro e w5 ⟨rfl, rfl⟩) | (go_at_call 45; (with_reducible refine calls_mono2 (ratden_own (own_ndrw O.out) HK.out HL.out.2.1) ?_); rintro e w5 ⟨rfl, rfl⟩) | (go_at_call 45; (with_reducible refine calls_mono2 (ratden_own (own_n2drw O.out) HK.out HL.out.2.1) ?_); rintro e w5 ⟨rfl, rfl⟩) | (go_at_call 45; (with_reducible refine calls_mono2 (ratden_own (own_drw O.out) HK.out HL.out.2.1) ?_); rintro e w5 ⟨rfl, rfl⟩) | (go_at_call 45; (with_reducible refine calls_mono2 (ratden_own (own_drwn O.out) HK.out HL.out.2.1) ?_); rintro e w5 ⟨rfl, rfl⟩) | (go_at_call 45; (with_reducible refine calls_mono2 (ratden_own (own_drwn2 O.out) HK.out HL.out.2.1) ?_); rintro e w5 ⟨rfl, rfl⟩) | (go_at_call 45; (with_reducible refine calls_mono2 (ratden_own (own_ndrwn O.out) HK.out HL.out.2.1) ?_); rintro e w5 ⟨rfl, rfl⟩) | (go_at_call 45; (with_reducible refine calls_mono2 (ratden_own O.out.new HK.out HL.out.2.1) ?_); rintro e w5 ⟨rfl, rfl⟩) | (go_at_call 45; (with_reducible refine calls_mono2 (ratden_own (own_new2 O.out) HK.out HL.out.2.1) ?_); rintro e w5 ⟨rfl, rfl⟩) | (go_at_call 45; (with_reducible refine calls_mono2 (ratden_own O.out HK.out HL.out.2.1) ?_); rintro e w5 ⟨rfl, rfl⟩) | (go_at_call 19; (with_reducible refine calls_mono2 (ratmul_own (A := A) (Q := Q) (own_ndrw O.out) HG.out HK.out 0 l0 HL.out.2.2.1 HL.out.2.1 HL.out.2.2.2.2.1) ?_); rintro e w5 ⟨rfl, O'⟩; simp only [List.set] at O'; have O := hide O'; clear O') | (go_at_call 19; (with_reducible refine calls_mono2 (ratmul_own (A := A) (Q := Q) (own_n2drw O.out) HG.out HK.out 1 l1 HL.out.2.2.1 HL.out.2.1 HL.out.2.2.2.2.1) ?_); rintro e w5 ⟨rfl, O'⟩; simp only [List.set] at O'; have O := hide O'; clear O') | (go_at_call 19; (with_reducible refine calls_mono2 (ratmul_own (A := A) (Q := Q) (own_n2drw O.out) HG.out HK.out 0 l0 HL.out.2.2.1 HL.out.2.1 HL.out.2.2.2.2.1) ?_); rintro e w5 ⟨rfl, O'⟩; simp only [List.set] at O'; have O := hide O'; clear O') | (go_at_call 19; (with_reducible refine calls_mono2 (ratmul_own (A := A) (Q := Q) (own_drwn O.out) HG.out HK.out 0 l0 HL.out.2.2.1 HL.out.2.1 HL.out.2.2.2.2.1) ?_); rintro e w5 ⟨rfl, O'⟩; simp only [List.set] at O'; have O := hide O'; clear O') | (go_at_call 19; (with_reducible refine calls_mono2 (ratmul_own (A := A) (Q := Q) (own_drwn2 O.out) HG.out HK.out 1 l1 HL.out.2.2.1 HL.out.2.1 HL.out.2.2.2.2.1) ?_); rintro e w5 ⟨rfl, O'⟩; simp only [List.set] at O'; have O := hide O'; clear O') | (go_at_call 19; (with_reducible refine calls_mono2 (ratmul_own (A := A) (Q := Q) (own_drwn2 O.out) HG.out HK.out 0 l0 HL.out.2.2.1 HL.out.2.1 HL.out.2.2.2.2.1) ?_); rintro e w5 ⟨rfl, O'⟩; simp only [List.set] at O'; have O := hide O'; clear O') | (go_at_call 19; (with_reducible refine calls_mono2 (ratmul_own (A := A) (Q := Q) (own_ndrwn O.out) HG.out HK.out 1 l1 HL.out.2.2.1 HL.out.2.1 HL.out.2.2.2.2.1) ?_); rintro e w5 ⟨rfl, O'⟩; simp only [List.set] at O'; have O := hide O'; clear O') | (go_at_call 19; (with_reducible refine calls_mono2 (ratmul_own (A := A) (Q := Q) (own_ndrwn O.out) HG.out HK.out 0 l0 HL.out.2.2.1 HL.out.2.1 HL.out.2.2.2.2.1) ?_); rintro e w5 ⟨rfl, O'⟩; simp only [List.set] at O'; have O := hide O'; clear O') | (go_at_call 19; (with_reducible refine calls_mono2 (ratmul_own (A := P) (Q := B) O.out.new HK.out HG.out 0 l0 HL.out.2.2.2.1 HL.out.1 HL.out.2.2.2.2.2) ?_); rintro e w5 ⟨rfl, O'⟩; simp only [List.set] at O'; have O := hide O'; clear O') | (go_at_call 19; (with_reducible refine calls_mono2 (ratmul_own (A := P) (Q := B) O.out HK.out HG.out 0 l0 HL.out.2.2.2.1 HL.out.1 HL.out.2.2.2.2.2) ?_); rintro e w5 ⟨rfl, O'⟩; simp only [List.set] at O'; have O := hide O'; clear O') | (go_at_call 19; (with_reducible refine calls_mono2 (ratmul_own (A := P) (Q := B) O.out HK.out HG.out 1 l1 HL.out.2.2.2.1 HL.out.1 HL.out.2.2.2.2.2) ?_); rintro e w5 ⟨rfl, O'⟩; simp only [List.set] at O'; have O := hide O'; clear O') | (go_at_call 46; (with_reducible refine calls_mono2 (cmp_own (X := A * Q) (Y := P * B) O.out 1 0 l1 l0 HL.out.2.2.2.2.1 HL.out.2.2.2.2.2) ?_); rintro e w5 ⟨rfl, O'⟩; have O := hide O'; clear O') | (go_at_call 46; (with_reducible refine calls_mono2 (cmp_own (X := A * Q) (Y := P * B) O.out 0 1 l0 l1 HL.out.2.2.2.2.1 HL.out.2.2.2.2.2) ?_); rintro e w5 ⟨rfl, O'⟩; have O := hide O'; clear O'))
    all_goals
      go_wp2_with fail
      go_ret
      exact ⟨rfl, O.out.bel⟩
end Go.Proofs.YtojehmmkdkfkjaaGreatDoor
