/- The memory of the law FormGroup: the forms and the faults that it keeps; what its calls answer. -/
import Derived.Test.YtkfjjljdhfjpbaaKGrpW
import Derived.Deep.RegionHeld3
namespace Go.Proofs.Ytkfjjljdhfjpbaa
open Go.RowKit

structure FMem (w0 W : World) (l : List (Nat × Int × Int × Int)) (fl : List (Nat × Int × Int)) : Prop where
  f : ∀ x ∈ l, MC W x.1 x.2.1 x.2.2.1 x.2.2.2
  z : ∀ x ∈ fl, FC W x.1 x.2.1 x.2.2
  b : Below w0.heap.size w0 W
  flo : ∀ x ∈ l, w0.heap.size ≤ x.1
  zlo : ∀ x ∈ fl, w0.heap.size ≤ x.1
section
variable {w0 W W' : World} {l : List (Nat × Int × Int × Int)} {fl : List (Nat × Int × Int)}
theorem FMem.start (w : World) : FMem w w [] [] := ⟨by simp, by simp, Below.refl _ _, by simp, by simp⟩
theorem FMem.below (h : FMem w0 W l fl) (k : Below W.heap.size W W') : FMem w0 W' l fl := ⟨fun x hx => (h.f x hx).below k, fun x hx => (h.z x hx).below k, h.b.trans (k.mono h.b.size), h.flo, h.zlo⟩
theorem FMem.drw (h : FMem w0 W l fl) : FMem w0 W.drew l fl := h.below (below_drewN (Below.refl _ _) 1)
theorem FMem.form (h : FMem w0 W l fl) (A B C : Int) : FMem w0 (W.alloc (.cells #[.int .i64 A, .int .i64 B, .int .i64 C] 23)) ((W.heap.size, A, B, C) :: l) fl := by
  have k := h.below (bel_obj W (.cells #[.int .i64 A, .int .i64 B, .int .i64 C] 23))
  exact ⟨fun x hx => by
    rcases List.mem_cons.1 hx with rfl | hx
    · exact MC.made W A B C
    · exact k.f x hx, k.z, k.b, fun x hx => by
    rcases List.mem_cons.1 hx with rfl | hx
    · exact h.b.size
    · exact h.flo x hx, h.zlo⟩
theorem FMem.fault (h : FMem w0 W l fl) (A B : Int) : FMem w0 (W.alloc (.cells #[.int .i64 A, .int .i64 B] 26)) l ((W.heap.size, A, B) :: fl) := by
  have k := h.below (bel_obj W (.cells #[.int .i64 A, .int .i64 B] 26))
  exact ⟨k.f, fun x hx => by
    rcases List.mem_cons.1 hx with rfl | hx
    · exact FC.made W A B
    · exact k.z x hx, k.b, h.flo, fun x hx => by
    rcases List.mem_cons.1 hx with rfl | hx
    · exact h.b.size
    · exact h.zlo x hx⟩
theorem FMem.nf (h : FMem w0 W l fl) : FMem w0 (W.alloc (.cells #[.int .i64 0, .int .i64 0, .int .i64 0] 23)) ((W.heap.size, 0, 0, 0) :: l) fl := h.form 0 0 0
theorem FMem.nz (h : FMem w0 W l fl) : FMem w0 (W.alloc (.cells #[.int .i64 0, .int .i64 0] 26)) l ((W.heap.size, 0, 0) :: fl) := h.fault 0 0
theorem FMem.nfz (h : FMem w0 W l fl) : FMem w0 ((W.alloc (.cells #[.int .i64 0, .int .i64 0, .int .i64 0] 23)).alloc (.cells #[.int .i64 0, .int .i64 0] 26)) ((W.heap.size, 0, 0, 0) :: l) ((W.heap.size + 1, 0, 0) :: fl) := by
  have := h.nf.nz
  rwa [World.size_alloc] at this
theorem FMem.nzf (h : FMem w0 W l fl) : FMem w0 ((W.alloc (.cells #[.int .i64 0, .int .i64 0] 26)).alloc (.cells #[.int .i64 0, .int .i64 0, .int .i64 0] 23)) ((W.heap.size + 1, 0, 0, 0) :: l) ((W.heap.size, 0, 0) :: fl) := by
  have := h.nz.nf
  rwa [World.size_alloc] at this
/-- what a stretch of the walk made beside what was there -/
theorem FMem.join {w1 : World} {l1 : List (Nat × Int × Int × Int)} {f1 : List (Nat × Int × Int)} (h : FMem w0 w1 l fl) (k : FMem w1 W l1 f1) : FMem w0 W (l1 ++ l) (f1 ++ fl) := by
  have hb := h.below k.b
  refine ⟨fun x hx => ?_, fun x hx => ?_, hb.b, fun x hx => ?_, fun x hx => ?_⟩
  · rcases List.mem_append.1 hx with hx | hx
    · exact k.f x hx
    · exact hb.f x hx
  · rcases List.mem_append.1 hx with hx | hx
    · exact k.z x hx
    · exact hb.z x hx
  · rcases List.mem_append.1 hx with hx | hx
    · exact Nat.le_trans h.b.size (k.flo x hx)
    · exact h.flo x hx
  · rcases List.mem_append.1 hx with hx | hx
    · exact Nat.le_trans h.b.size (k.zlo x hx)
    · exact h.zlo x hx
/-- the two results of a call, stored in new blocks -/
theorem FMem.two (h : FMem w0 W l fl) (A B C k n : Int) : FMem w0 ((W.alloc (.cells #[.int .i64 A, .int .i64 B, .int .i64 C] 23)).alloc (.cells #[.int .i64 k, .int .i64 n] 26)) ((W.heap.size, A, B, C) :: l) ((W.heap.size + 1, k, n) :: fl) := by
  have := (h.form A B C).fault k n
  rwa [World.size_alloc] at this
theorem FMem.call {P : Program} {f : Nat} {args : Array Value} {Q : Ending → Prop} (h : FMem w0 W l fl) (c : Calls P f args W fun e w' => Q e ∧ Below W.heap.size W w') : Calls P f args W fun e w' => Q e ∧ FMem w0 w' l fl :=
  c.mono fun _ _ hh => ⟨hh.1, h.below hh.2⟩
end

theorem mc_ne {W : World} {p q : Nat} {a b c k n : Int} (h : MC W p a b c) (h2 : FC W q k n) : p ≠ q := by
  rintro rfl
  have h3 : W.heap[p]? = _ := h
  have h4 : W.heap[p]? = _ := h2
  rw [h3] at h4
  simp at h4
theorem calls_mono' {P : Program} {f : Nat} {args : Array Value} {w : World} {Q R : Ending → World → Prop} (h : Calls P f args w Q) (k : ∀ e w', Q e w' → R e w') : Calls P f args w R := h.mono k
/-- with a form the one with -b is good, too -/
theorem form_back {a b c : Int} (h : (formF a b c).1 = 0) : (formF a (-b) c).1 = 0 := by
  obtain ⟨_, h1, h2, h3, h4, h5, h6, h7⟩ := formF_zero h
  have hs : smallF a (-b) c = (0, 0) := by
    show lookS 0 [a, -b, c] = (0, 0)
    rw [lookS, if_pos (small_of (by omega)), lookS, if_pos (small_of (by omega)), lookS, if_pos (small_of (by omega)), lookS]
  have e : -b * -b = b * b := by grind
  rw [formF_none hs (by rw [e]; omega) (by rw [Int.neg_gcd]; simpa using h7)]
/-- Compose at two good forms of one discriminant -/
theorem Compose_good (a1 b1 c1 a2 b2 c2 D : Int) (w : World) (h1 : (formF a1 b1 c1).1 = 0) (h2 : (formF a2 b2 c2).1 = 0) (d1 : b1 * b1 - 4 * a1 * c1 = D) (d2 : b2 * b2 - 4 * a2 * c2 = D) :
    Calls Try.prog 14 #[.agg #[.int .i64 a1, .int .i64 b1, .int .i64 c1], .agg #[.int .i64 a2, .int .i64 b2, .int .i64 c2]] w fun e w' => (∃ A B C : Int, e = .returned (.tuple #[.agg #[.int .i64 A, .int .i64 B, .int .i64 C], .agg #[.int .i64 0, .int .i64 0]]) ∧ RedF A B C ∧ D = B * B - 4 * A * C ∧ Int.gcd A (Int.gcd B C) = 1 ∧ Sim D (Pr D (Lf a1 b1) (Lf a2 b2)) (Lf A B)) ∧ Below w.heap.size w w' := by
  refine (Compose_any a1 b1 c1 a2 b2 c2 w).mono ?_
  rintro e w' ⟨A, B, C, k, n, rfl, hc, hb⟩
  rcases hc with ⟨_, _, _, _, _, hbad⟩ | ⟨rfl, rfl, _, _, _, hr, hd, hg, hs⟩
  · exact absurd (d1.trans d2.symm) (hbad h1 h2)
  · rw [d1] at hd hs
    exact ⟨⟨A, B, C, rfl, hr, hd, hg, hs⟩, hb⟩
theorem Compose_bad (a1 b1 c1 a2 b2 c2 : Int) (w : World) (h : ¬ ((formF a1 b1 c1).1 = 0 ∧ (formF a2 b2 c2).1 = 0 ∧ b1 * b1 - 4 * a1 * c1 = b2 * b2 - 4 * a2 * c2)) :
    Calls Try.prog 14 #[.agg #[.int .i64 a1, .int .i64 b1, .int .i64 c1], .agg #[.int .i64 a2, .int .i64 b2, .int .i64 c2]] w fun e w' => (∃ A B C k n : Int, e = .returned (.tuple #[.agg #[.int .i64 A, .int .i64 B, .int .i64 C], .agg #[.int .i64 k, .int .i64 n]]) ∧ k ≠ 0) ∧ Below w.heap.size w w' := by
  refine (Compose_any a1 b1 c1 a2 b2 c2 w).mono ?_
  rintro e w' ⟨A, B, C, k, n, rfl, hc, hb⟩
  rcases hc with ⟨hk, _⟩ | ⟨_, _, x, y, z, _⟩
  · exact ⟨⟨A, B, C, k, n, rfl, hk⟩, hb⟩
  · exact absurd ⟨x, y, z⟩ h
section
variable {w0 W : World} {l : List (Nat × Int × Int × Int)} {fl : List (Nat × Int × Int)}
theorem FMem.obj (h : FMem w0 W l fl) (o : Obj) : FMem w0 (W.alloc o) l fl := h.below (bel_obj W o)
/-- the three results of Reduce, stored in new blocks -/
theorem FMem.three (h : FMem w0 W l fl) (A B C p q r s k n : Int) : FMem w0 (((W.alloc (.cells #[.int .i64 A, .int .i64 B, .int .i64 C] 23)).alloc (.cells #[.int .i64 p, .int .i64 q, .int .i64 r, .int .i64 s] 42)).alloc (.cells #[.int .i64 k, .int .i64 n] 26)) ((W.heap.size, A, B, C) :: l) ((W.heap.size + 1 + 1, k, n) :: fl) := by
  have := ((h.form A B C).obj (.cells #[.int .i64 p, .int .i64 q, .int .i64 r, .int .i64 s] 42)).fault k n
  rwa [World.size_alloc, World.size_alloc] at this
end
/-! the worlds that a drawn statement with two new blocks may end in -/
section
variable {w0 W : World}
theorem FMem.putF {A B C : Int} {g : Nat} {a b c : Int} {fl : List (Nat × Int × Int)} (h : FMem w0 W [(g, a, b, c)] fl) : FMem w0 (((W.setCell ⟨g, 0, none⟩ (.int .i64 A)).setCell ⟨g, 1, none⟩ (.int .i64 B)).setCell ⟨g, 2, none⟩ (.int .i64 C)) [(g, A, B, C)] fl := by
  have hm := h.f _ (List.mem_cons_self ..)
  have hg := h.flo _ (List.mem_cons_self ..)
  simp only at hm hg
  refine ⟨fun x hx => ?_, fun x hx => ?_, ((h.b.setCell (p := ⟨g, 0, none⟩) hg _).setCell (p := ⟨g, 1, none⟩) hg _).setCell (p := ⟨g, 2, none⟩) hg _, fun x hx => ?_, h.zlo⟩
  · rw [List.mem_singleton.1 hx]; exact hm.put A B C
  · have hz := h.z x hx
    exact (put3_heap (W := W) (g := g) A B C (mc_ne hm hz)).trans hz
  · rw [List.mem_singleton.1 hx]; exact hg
theorem FMem.putZ {g : Nat} {a b k n : Int} {l : List (Nat × Int × Int × Int)} (h : FMem w0 W l [(g, a, b)]) : FMem w0 ((W.setCell ⟨g, 0, none⟩ (.int .i64 k)).setCell ⟨g, 1, none⟩ (.int .i64 n)) l [(g, k, n)] := by
  have hm := h.z _ (List.mem_cons_self ..)
  have hg := h.zlo _ (List.mem_cons_self ..)
  simp only at hm hg
  refine ⟨fun x hx => ?_, fun x hx => ?_, (h.b.setCell (p := ⟨g, 0, none⟩) hg _).setCell (p := ⟨g, 1, none⟩) hg _, h.flo, fun x hx => ?_⟩
  · have hz := h.f x hx
    exact (hz.other (p := ⟨g, 0, none⟩) (Ne.symm (mc_ne hz hm)) _).other (p := ⟨g, 1, none⟩) (Ne.symm (mc_ne hz hm)) _
  · rw [List.mem_singleton.1 hx]; exact (hm.set0 k).set1 n
  · rw [List.mem_singleton.1 hx]; exact hg
theorem FMem.e1 (h : FMem w0 W [] []) (A B C k n : Int) : FMem w0 ((W.alloc (.cells #[.int .i64 A, .int .i64 B, .int .i64 C] 23)).alloc (.cells #[.int .i64 k, .int .i64 n] 26)) [(W.heap.size, A, B, C)] [(W.heap.size + 1, k, n)] := h.two A B C k n
theorem FMem.e2 (h : FMem w0 W [] []) (A B C k n : Int) : FMem w0 ((W.alloc (.cells #[.int .i64 k, .int .i64 n] 26)).alloc (.cells #[.int .i64 A, .int .i64 B, .int .i64 C] 23)) [(W.heap.size + 1, A, B, C)] [(W.heap.size, k, n)] := by
  have := (h.fault k n).form A B C
  rwa [World.size_alloc] at this
theorem FMem.e3 {g : Nat} {a b c : Int} (h : FMem w0 W [(g, a, b, c)] []) (A B C k n : Int) : FMem w0 ((((W.setCell ⟨g, 0, none⟩ (.int .i64 A)).setCell ⟨g, 1, none⟩ (.int .i64 B)).setCell ⟨g, 2, none⟩ (.int .i64 C)).alloc (.cells #[.int .i64 k, .int .i64 n] 26)) [(g, A, B, C)] [(W.heap.size, k, n)] := by
  have := (h.putF (A := A) (B := B) (C := C)).fault k n
  simpa using this
theorem FMem.e4 {g q : Nat} {a b c x y : Int} (h : FMem w0 W [(g, a, b, c)] [(q, x, y)]) (A B C k n : Int) : FMem w0 (((((W.setCell ⟨g, 0, none⟩ (.int .i64 A)).setCell ⟨g, 1, none⟩ (.int .i64 B)).setCell ⟨g, 2, none⟩ (.int .i64 C)).setCell ⟨q, 0, none⟩ (.int .i64 k)).setCell ⟨q, 1, none⟩ (.int .i64 n)) [(g, A, B, C)] [(q, k, n)] :=
  (h.putF (A := A) (B := B) (C := C)).putZ
theorem FMem.e5 {q : Nat} {x y : Int} (h : FMem w0 W [] [(q, x, y)]) (A B C k n : Int) : FMem w0 (((W.setCell ⟨q, 0, none⟩ (.int .i64 k)).setCell ⟨q, 1, none⟩ (.int .i64 n)).alloc (.cells #[.int .i64 A, .int .i64 B, .int .i64 C] 23)) [(W.heap.size, A, B, C)] [(q, k, n)] := by
  have := (h.putZ (k := k) (n := n)).form A B C
  simpa using this
end
/-- the four equalities of the law -/
theorem grp_law {D a1 b1 c1 a2 b2 a3 b3 A1 B1 C1 A2 B2 C2 A3 B3 C3 A4 B4 C4 A5 B5 C5 A6 B6 C6 A7 B7 C7 A8 B8 C8 A9 B9 C9 : Int} (hn : D < 0)
    (hd : (formF a1 b1 c1).1 = 0 ∧ b1 * b1 - 4 * a1 * c1 = D ∧ -1000000 ≤ D)
    (hf : D = sg D * sg D - 4 * c0 D ∧ (sg D = 0 ∨ sg D = 1) ∧ 1 ≤ c0 D ∧ c0 D ≤ 1000000 ∧ ∃ k, b1 = sg D + 2 * k)
    (f1 : RedF A1 B1 C1 ∧ D = B1 * B1 - 4 * A1 * C1 ∧ Int.gcd A1 (Int.gcd B1 C1) = 1 ∧ Sim D (Pr D (Lf a1 b1) (Lf a2 b2)) (Lf A1 B1))
    (f2 : RedF A2 B2 C2 ∧ D = B2 * B2 - 4 * A2 * C2 ∧ Int.gcd A2 (Int.gcd B2 C2) = 1 ∧ Sim D (Pr D (Lf a2 b2) (Lf a1 b1)) (Lf A2 B2))
    (f3 : RedF A3 B3 C3 ∧ D = B3 * B3 - 4 * A3 * C3 ∧ Int.gcd A3 (Int.gcd B3 C3) = 1 ∧ Sim D (Pr D (Lf A1 B1) (Lf a3 b3)) (Lf A3 B3))
    (f4 : RedF A4 B4 C4 ∧ D = B4 * B4 - 4 * A4 * C4 ∧ Int.gcd A4 (Int.gcd B4 C4) = 1 ∧ Sim D (Pr D (Lf a2 b2) (Lf a3 b3)) (Lf A4 B4))
    (f5 : RedF A5 B5 C5 ∧ D = B5 * B5 - 4 * A5 * C5 ∧ Int.gcd A5 (Int.gcd B5 C5) = 1 ∧ Sim D (Pr D (Lf a1 b1) (Lf A4 B4)) (Lf A5 B5))
    (f6 : RedF A6 B6 C6 ∧ D = B6 * B6 - 4 * A6 * C6 ∧ Int.gcd A6 (Int.gcd B6 C6) = 1 ∧ Sim D (Pr D (Lf a1 b1) (Lf 1 (sg D))) (Lf A6 B6))
    (f7 : RedF A7 B7 C7 ∧ D = B7 * B7 - 4 * A7 * C7 ∧ Sim D (Lf a1 b1) (Lf A7 B7))
    (f8 : RedF A8 B8 C8 ∧ D = B8 * B8 - 4 * A8 * C8 ∧ Int.gcd A8 (Int.gcd B8 C8) = 1 ∧ Sim D (Pr D (Lf a1 b1) (Lf a1 (-b1))) (Lf A8 B8))
    (f9 : RedF A9 B9 C9 ∧ D = B9 * B9 - 4 * A9 * C9 ∧ Sim D (Lf 1 (sg D)) (Lf A9 B9)) :
    (A1 = A2 ∧ B1 = B2 ∧ C1 = C2) ∧ (A3 = A5 ∧ B3 = B5 ∧ C3 = C5) ∧ (A6 = A7 ∧ B6 = B7 ∧ C6 = C7) ∧ (A8 = A9 ∧ B8 = B9 ∧ C8 = C9) := by
  obtain ⟨h1, d1, _⟩ := hd
  have hz := formF_zero h1
  obtain ⟨e1, _, _, _, hk⟩ := hf
  have hg := ibez3 hz.2.2.2.2.2.2.2
  have S1 : Sim D (Lf A1 B1) (Lf A2 B2) := f1.2.2.2.symm.trans hn ((Sim.comm D _ _).trans hn f2.2.2.2)
  have S2 : Sim D (Lf A3 B3) (Lf A5 B5) := by
    refine f3.2.2.2.symm.trans hn (Sim.trans hn ?_ f5.2.2.2)
    refine Sim.trans hn (Sim.prod (Lf a3 b3) f1.2.2.2.symm) (Sim.trans hn (Sim.assoc D _ _ _) ?_)
    exact Sim.prod2 hn (Sim.refl D _) f4.2.2.2
  have S3 : Sim D (Lf A6 B6) (Lf A7 B7) := f6.2.2.2.symm.trans hn ((first_sim d1.symm hk (c0 D) e1).trans hn f7.2.2)
  have S4 : Sim D (Lf A8 B8) (Lf A9 B9) := f8.2.2.2.symm.trans hn ((back_sim d1.symm (by omega) hk hg).trans hn f9.2.2)
  exact ⟨sim_unique hn f1.2.1 f2.2.1 f1.1 f2.1 S1, sim_unique hn f3.2.1 f5.2.1 f3.1 f5.1 S2, sim_unique hn f6.2.1 f7.2.1 f6.1 f7.1 S3, sim_unique hn f8.2.1 f9.2.1 f8.1 f9.1 S4⟩
end Go.Proofs.Ytkfjjljdhfjpbaa
