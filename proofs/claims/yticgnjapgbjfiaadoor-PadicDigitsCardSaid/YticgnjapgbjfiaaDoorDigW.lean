/- The walk of the law PadicDigits. -/
import Derived.Test.YticgnjapgbjfiaaDoorPadF
import Derived.Test.YticgnjapgbjfiaaDoorDigH
import Derived.Test.YticgnjapgbjfiaaDoorPadG
import Derived.Test.YticgnjapgbjfiaaDoorPadB
import Derived.Test.YticgnjapgbjfiaaDoorLeft
import Derived.Deep.DeepCutAuto
namespace Go.Proofs.YticgnjapgbjfiaaDoor
open Go.RowKit

/-- the blocks of the law's frame -/
structure DgSt (w W : World) (n1 n2 n3 : Nat) (d t u v : Int × Int) (A : Option Addr) (l : List Int) : Prop where
  f : FC W n1 d.1 d.2
  g : FC W n2 t.1 t.2
  w_ : FC W n3 u.1 u.2
  v_ : FC W (n3 + 1) v.1 v.2
  i_ : Ints W n1 A l
  n12 : n1 < n2
  n23 : n2 < n3
  lo : w.heap.size ≤ n1
  b : Below w.heap.size w W
theorem DgSt.below {w W W' : World} {n1 n2 n3 : Nat} {d t u v : Int × Int} {A : Option Addr} {l : List Int} (h : DgSt w W n1 n2 n3 d t u v A l) (k : Below W.heap.size W W') : DgSt w W' n1 n2 n3 d t u v A l :=
  ⟨h.f.below k, h.g.below k, h.w_.below k, h.v_.below k, (h.i_.below (k.mono (Nat.le_of_lt h.f.lt)) (Nat.le_refl _)), h.n12, h.n23, h.lo, h.b.trans (k.mono h.b.size)⟩
theorem FC.other {w : World} {g : Nat} {a b : Int} (h : FC w g a b) {p : Addr} (hp : g ≠ p.block) (v : Value) : FC (w.setCell p v) g a b := (Below.heap_setCell _ _ _ _ hp).trans h
theorem DgSt.setw {w W : World} {n1 n2 n3 : Nat} {d t u v : Int × Int} {A : Option Addr} {l : List Int} (h : DgSt w W n1 n2 n3 d t u v A l) (x y : Int) :
    DgSt w ((W.setCell ⟨n3, 0, none⟩ (.int .i64 x)).setCell ⟨n3, 1, none⟩ (.int .i64 y)) n1 n2 n3 d t (x, y) v A l := by
  have a1 := h.n12
  have a2 := h.n23
  have a3 := h.lo
  refine ⟨(h.f.other (p := ⟨n3, 0, none⟩) (by show n1 ≠ n3; omega) _).other (p := ⟨n3, 1, none⟩) (by show n1 ≠ n3; omega) _, (h.g.other (p := ⟨n3, 0, none⟩) (by show n2 ≠ n3; omega) _).other (p := ⟨n3, 1, none⟩) (by show n2 ≠ n3; omega) _, (h.w_.set0 x).set1 y, (h.v_.other (p := ⟨n3, 0, none⟩) (by show n3 + 1 ≠ n3; omega) _).other (p := ⟨n3, 1, none⟩) (by show n3 + 1 ≠ n3; omega) _, ?_, a1, a2, a3, below_fault h.b (by omega)⟩
  have hne : ∀ (k : Nat) (ad : Addr), A = some ad → ∀ (j : Nat) (c : Int), l[j]? = some c → ad.block ≠ (⟨n3, k, none⟩ : Addr).block := by
    intro k ad e j c hj
    obtain ⟨ad', e', hb, _⟩ := h.i_.cell j c hj
    rw [e] at e'; injection e' with e'; subst e'
    show ad.block ≠ n3
    omega
  refine ⟨fun j c hj => ?_⟩
  obtain ⟨ad, e, hb, hc⟩ := h.i_.cell j c hj
  refine ⟨ad, e, hb, ?_⟩
  rw [show ((W.setCell ⟨n3, 0, none⟩ (.int .i64 x)).setCell ⟨n3, 1, none⟩ (.int .i64 y)).cell? (ad.add j) = W.cell? (ad.add j) from by
    unfold World.cell?
    rw [Below.heap_setCell _ _ _ _ (by rw [add_block]; exact hne 1 ad e j c hj), Below.heap_setCell _ _ _ _ (by rw [add_block]; exact hne 0 ad e j c hj)]]
  exact hc
theorem DgSt.setv {w W : World} {n1 n2 n3 : Nat} {d t u v : Int × Int} {A : Option Addr} {l : List Int} (h : DgSt w W n1 n2 n3 d t u v A l) (x y : Int) :
    DgSt w ((W.setCell ⟨n3 + 1, 0, none⟩ (.int .i64 x)).setCell ⟨n3 + 1, 1, none⟩ (.int .i64 y)) n1 n2 n3 d t u (x, y) A l := by
  have a1 := h.n12
  have a2 := h.n23
  have a3 := h.lo
  refine ⟨(h.f.other (p := ⟨n3 + 1, 0, none⟩) (by show n1 ≠ n3 + 1; omega) _).other (p := ⟨n3 + 1, 1, none⟩) (by show n1 ≠ n3 + 1; omega) _, (h.g.other (p := ⟨n3 + 1, 0, none⟩) (by show n2 ≠ n3 + 1; omega) _).other (p := ⟨n3 + 1, 1, none⟩) (by show n2 ≠ n3 + 1; omega) _, (h.w_.other (p := ⟨n3 + 1, 0, none⟩) (by show n3 ≠ n3 + 1; omega) _).other (p := ⟨n3 + 1, 1, none⟩) (by show n3 ≠ n3 + 1; omega) _, (h.v_.set0 x).set1 y, ?_, a1, a2, a3, below_fault h.b (by omega)⟩
  have hne : ∀ (k : Nat) (ad : Addr), A = some ad → ∀ (j : Nat) (c : Int), l[j]? = some c → ad.block ≠ (⟨n3 + 1, k, none⟩ : Addr).block := by
    intro k ad e j c hj
    obtain ⟨ad', e', hb, _⟩ := h.i_.cell j c hj
    rw [e] at e'; injection e' with e'; subst e'
    show ad.block ≠ n3 + 1
    omega
  refine ⟨fun j c hj => ?_⟩
  obtain ⟨ad, e, hb, hc⟩ := h.i_.cell j c hj
  refine ⟨ad, e, hb, ?_⟩
  rw [show ((W.setCell ⟨n3 + 1, 0, none⟩ (.int .i64 x)).setCell ⟨n3 + 1, 1, none⟩ (.int .i64 y)).cell? (ad.add j) = W.cell? (ad.add j) from by
    unfold World.cell?
    rw [Below.heap_setCell _ _ _ _ (by rw [add_block]; exact hne 1 ad e j c hj), Below.heap_setCell _ _ _ _ (by rw [add_block]; exact hne 0 ad e j c hj)]]
  exact hc

theorem tmod_beq (b p : Int) : (b.tmod p == 0) = decide (b % p = 0) := by
  rw [Bool.eq_iff_iff]
  simp only [beq_iff_eq, decide_eq_true_eq]
  exact ⟨fun h => Int.emod_eq_zero_of_dvd (Int.dvd_of_tmod_eq_zero h), fun h => Int.tmod_eq_zero_of_dvd (Int.dvd_of_emod_eq_zero h)⟩

/-- what Digits' slice is to the law -/
def DgL (p k a b : Int) (v : Value) (A : Option Addr) (l : List Int) : Prop := (v = .slice none 0 0 ∧ (digF p k a b).1 ≠ 0 ∧ l = []) ∨ ∃ (X : Int) (c : Nat), (digF p k a b).1 = 0 ∧ v = .slice A k.toNat c ∧ DigOk p k a b X ∧ l = digs p X k.toNat

set_option maxRecDepth 100000 in
set_option maxHeartbeats 12800000 in
theorem pdigits_any (p k a b : Int) (w : World) (hT : TabW w) (hp0 : -9223372036854775808 ≤ p) (ha0 : -9223372036854775808 ≤ a) (ha1 : a ≤ 9223372036854775807) (hb0 : -9223372036854775808 ≤ b) (hb1 : b ≤ 9223372036854775807) :
    Calls Tryd.prog 4 #[.int .i64 p, .int .i64 k, .int .i64 a, .int .i64 b] w fun e w' => e = .returned (.bool true) ∧ Below w.heap.size w w' := by
  have CD := hide (digits_any p k a b w hT ha0 ha1 hb0 hb1)
  have CT := fun W (hW : TabW W) => hide (teich_any p k a W hW)
  have CP := fun W => hide (padicFault_any p k W hp0)
  have HT := hide hT
  have HAB := hide (And.intro ha0 (And.intro ha1 (And.intro hb0 hb1)))
  clear hT hp0 ha0 ha1 hb0 hb1
  go_enter Tryd.func4, Tryd.ntmps4
  go_wp2_with fail
  refine CD.out.mono ?_
  rintro e w1 ⟨v, rfl, hv1, hv2, hb⟩
  obtain ⟨A, l, hl, hli⟩ : ∃ (A : Option Addr) (l : List Int), DgL p k a b v A l ∧ Ints w1 w1.heap.size A l := by
    by_cases h : (digF p k a b).1 = 0
    · obtain ⟨X, A, c, e1, e2, e3⟩ := hv2 h
      exact ⟨A, _, .inr ⟨X, c, h, e1, e2, rfl⟩, e3⟩
    · exact ⟨none, [], .inl ⟨hv1 h, h, rfl⟩, ⟨fun j c hj => by simp at hj⟩⟩
  have HL := hide hl
  have HLI := hide hli
  have HB1 := hide hb
  clear hv1 hv2 hb hl hli CD
  obtain ⟨⟨d1, d2⟩, hd⟩ : ∃ d, digF p k a b = d := ⟨_, rfl⟩
  rw [hd]
  simp only [fv]
  have HD := hide hd
  have F1 := hide (FC.made w1 d1 d2)
  have HB2 := hide (HB1.out.alloc HB1.out.size (.cells #[.int .i64 d1, .int .i64 d2] 24))
  have HK1 := hide ((Below.refl w1.heap.size w1).alloc (Nat.le_refl _) (.cells #[.int .i64 d1, .int .i64 d2] 24))
  clear hd
  go_wp2_with fail
  refine (CT _ (HT.out.below HB2.out)).out.mono ?_
  rintro e w2 ⟨x, rfl, hx1, hx2, hb⟩
  have F1b := hide (F1.out.below hb)
  have HB3 := hide (HB2.out.trans (hb.mono HB2.out.size))
  have HX := hide (And.intro hx1 hx2)
  have hb0 := hb
  clear hb hx1 hx2 CT
  obtain ⟨⟨t1, t2⟩, ht⟩ : ∃ d, teiF p k a = d := ⟨_, rfl⟩
  rw [ht] at HX ⊢
  simp only [fv]
  have HTE := hide ht
  have F2 := hide (FC.made w2 t1 t2)
  have F1c := hide (F1b.out.below (bel_cells w2 (.cells #[.int .i64 t1, .int .i64 t2] 24)))
  have HB4 := hide (HB3.out.alloc HB3.out.size (.cells #[.int .i64 t1, .int .i64 t2] 24))
  have HK2 := hide (HK1.out.trans (hb0.mono HK1.out.size))
  have HK3 := hide (HK2.out.alloc HK2.out.size (.cells #[.int .i64 t1, .int .i64 t2] 24))
  have hl12 : w1.heap.size < w2.heap.size := F1b.out.lt
  clear hb0
  clear ht
  go_wp2_with fail
  refine (CP _).out.mono ?_
  rintro e w3 ⟨rfl, hb⟩
  have HB5 := hide (HB4.out.trans (hb.mono HB4.out.size))
  have G1 := hide (F1c.out.below hb)
  have G2 := hide (F2.out.below hb)
  have hl23 : w2.heap.size < w3.heap.size := G2.out.lt
  obtain ⟨M, hM⟩ : ∃ M, (if (padF p k).1 = 0 then p ^ k.toNat else 0) = M := ⟨_, rfl⟩
  rw [hM]
  obtain ⟨⟨u1, u2⟩, hu⟩ : ∃ d, padF p k = d := ⟨_, rfl⟩
  rw [hu]
  simp only [fv]
  have HU := hide hu
  have HM := hide hM
  have HST : Hid (DgSt w ((w3.alloc (.cells #[.int .i64 u1, .int .i64 u2] 24)).alloc (.cells #[.int .i64 u1, .int .i64 u2] 24)) w1.heap.size w2.heap.size w3.heap.size (d1, d2) (t1, t2) (u1, u2) (u1, u2) A l) := by
    have K2 : Below w3.heap.size w3 ((w3.alloc (.cells #[.int .i64 u1, .int .i64 u2] 24)).alloc (.cells #[.int .i64 u1, .int .i64 u2] 24)) := ((Below.refl _ _).alloc (Nat.le_refl _) _).alloc (by simp) _
    refine ⟨G1.out.below K2, G2.out.below K2, (FC.made w3 u1 u2).below (bel_cells _ _), ?_, ?_, hl12, hl23, HB1.out.size, HB5.out.trans (K2.mono HB5.out.size)⟩
    · have := FC.made (w3.alloc (.cells #[.int .i64 u1, .int .i64 u2] 24)) u1 u2
      rwa [World.size_alloc] at this
    · have k1 := HK3.out.trans (hb.mono HK3.out.size)
      exact HLI.out.below (k1.trans (K2.mono k1.size)) (Nat.le_refl _)
  clear hb hM hu G1 G2 F1 F1b F1c F2 HB2 HB3 HB4 CP
  obtain ⟨x0, x1, x2, x3⟩ := HST.out.w_.cells
  obtain ⟨y0, y1, y2, y3⟩ := HST.out.v_.cells
  go_upto_region 5 with (fail)
  clear x0 x1 x2 x3 y0 y1 y2 y3
  obtain ⟨W0, hW0⟩ : ∃ W, (w3.alloc (.cells #[.int .i64 u1, .int .i64 u2] 24)).alloc (.cells #[.int .i64 u1, .int .i64 u2] 24) = W := ⟨_, rfl⟩
  rw [hW0] at HST ⊢
  clear hW0
  have CF := fun c i W => hide (refF_any c i W)
  have CB := fun W (hW : TabW W) => hide (padicBegun_any W hW)
  by_cases hu1 : u1 = 0
  · as_aux_lemma =>
      subst hu1
      have hok := padF_ok (p := p) (k := k) (by rw [HU.out])
      obtain rfl : u2 = 0 := by have := HU.out.symm.trans hok.1; exact (Prod.mk.inj this).2
      have HZ : Hid ((padF p k).1 = 0) := by unfold Hid; rw [HU.out]
      have HDD := hide (dig2 (a := a) (b := b) HZ.out)
      have HPB : Hid (2 ≤ p ∧ p ≤ 1000000) := ⟨hok.2.1, hok.2.2.1⟩
      have CNa := fun W => hide (number_any a W)
      have CNb := fun W => hide (number_any b W)
      clear hok
      obtain ⟨x0, x1, x2, x3⟩ := HST.out.w_.cells
      obtain ⟨y0, y1, y2, y3⟩ := HST.out.v_.cells
      cases hoa : okB a
      · as_aux_lemma =>
          rw [hoa] at CNa
          obtain ⟨rfl, rfl⟩ : d1 = 3 ∧ d2 = 2 := by have := HD.out.symm.trans (HDD.out.trans (if_pos hoa)); exact Prod.mk.inj this
          have ha0 : a < 0 ∨ p ≤ a := by
            have h1 := HPB.out
            have h2 : ¬ (-1000000000000000000 ≤ a ∧ a ≤ 1000000000000000000) := fun h => by
              have : okB a = true := by unfold okB; simp; omega
              rw [hoa] at this; cases this
            omega
          clear hoa
          go_wp2_with fail
          refine (CNa _).out.mono ?_
          rintro e wn ⟨rfl, rfl⟩
          go_wp2_with fail
          refine (CF 3 2 _).out.mono ?_
          rintro e wa1 ⟨rfl, hb⟩
          have HS1 := hide (HST.out.below hb)
          clear hb HST
          clear x0 x1 x2 x3 y0 y1 y2 y3
          obtain ⟨x0, x1, x2, x3⟩ := HS1.out.w_.cells
          obtain ⟨y0, y1, y2, y3⟩ := HS1.out.v_.cells
          obtain ⟨p0, p1⟩ := HS1.out.w_.put 3 2
          have HS2 := hide (HS1.out.setw 3 2)
          go_upto_region 7 with (fail)
          clear HS1 x0 x1 x2 x3 y0 y1 y2 y3 p0 p1
          obtain ⟨W2, hW2⟩ : ∃ W, (wa1.setCell ⟨w3.heap.size, 0, none⟩ (.int .i64 3)).setCell ⟨w3.heap.size, 1, none⟩ (.int .i64 2) = W := ⟨_, rfl⟩
          rw [hW2] at HS2 ⊢
          clear hW2
          obtain ⟨x0, x1, x2, x3⟩ := HS2.out.w_.cells
          obtain ⟨y0, y1, y2, y3⟩ := HS2.out.v_.cells
          obtain ⟨rfl, rfl⟩ : t1 = 3 ∧ t2 = 2 := by have := HTE.out.symm.trans (teiF_out HZ.out ha0); exact Prod.mk.inj this
          have hh : decide (a < 0) = true ∨ (decide (a < 0) = false ∧ decide (p ≤ a) = true) := by simp only [decide_eq_true_eq, decide_eq_false_iff_not]; omega
          clear ha0
          rcases hh with r1 | ⟨r1, r2⟩
          · as_aux_lemma =>
              go_wp2_with fail
              refine (CF 3 2 _).out.mono ?_
              rintro e wa3 ⟨rfl, hb⟩
              have HS3 := hide (HS2.out.below hb)
              clear hb HS2
              clear x0 x1 x2 x3 y0 y1 y2 y3
              obtain ⟨x0, x1, x2, x3⟩ := HS3.out.w_.cells
              obtain ⟨y0, y1, y2, y3⟩ := HS3.out.v_.cells
              obtain ⟨p0, p1⟩ := HS3.out.v_.put 3 2
              have HS4 := hide (HS3.out.setv 3 2)
              go_upto_region 13 with (fail)
              clear HS3 x0 x1 x2 x3 y0 y1 y2 y3 p0 p1
              obtain ⟨W4, hW4⟩ : ∃ W, (wa3.setCell ⟨w3.heap.size + 1, 0, none⟩ (.int .i64 3)).setCell ⟨w3.heap.size + 1, 1, none⟩ (.int .i64 2) = W := ⟨_, rfl⟩
              rw [hW4] at HS4 ⊢
              clear hW4
              obtain ⟨x0, x1, x2, x3⟩ := HS4.out.w_.cells
              obtain ⟨y0, y1, y2, y3⟩ := HS4.out.v_.cells
              obtain rfl : v = .slice none 0 0 := by
                rcases HL.out with h | ⟨X, n, h, _⟩
                · exact h.1
                · rw [HD.out] at h; exact absurd h (by first | assumption | simp)
              obtain rfl : x = 0 := HX.out.2 (by first | assumption | simp)
              obtain ⟨a0, a1, a2, a3⟩ := HS4.out.f.cells
              obtain ⟨b0, b1, b2, b3⟩ := HS4.out.g.cells
              go_wp2_with fail
              refine (CB _ (HT.out.below HS4.out.b)).out.mono ?_
              rintro e wa5 ⟨rfl, hb⟩
              have HS5 := hide (HS4.out.below hb)
              clear hb HS4
              clear a0 a1 a2 a3 b0 b1 b2 b3
              clear x0 x1 x2 x3 y0 y1 y2 y3
              obtain ⟨a0, a1, a2, a3⟩ := HS5.out.f.cells
              obtain ⟨b0, b1, b2, b3⟩ := HS5.out.g.cells
              obtain ⟨x0, x1, x2, x3⟩ := HS5.out.w_.cells
              obtain ⟨y0, y1, y2, y3⟩ := HS5.out.v_.cells
              obtain ⟨x0, x1, x2, x3⟩ := HS5.out.w_.cells
              obtain ⟨y0, y1, y2, y3⟩ := HS5.out.v_.cells
              go_wp2_with fail
              go_ret
              exact ⟨rfl, HS5.out.b⟩
          · as_aux_lemma =>
              go_wp2_with fail
              refine (CF 3 2 _).out.mono ?_
              rintro e wa3 ⟨rfl, hb⟩
              have HS3 := hide (HS2.out.below hb)
              clear hb HS2
              clear x0 x1 x2 x3 y0 y1 y2 y3
              obtain ⟨x0, x1, x2, x3⟩ := HS3.out.w_.cells
              obtain ⟨y0, y1, y2, y3⟩ := HS3.out.v_.cells
              obtain ⟨p0, p1⟩ := HS3.out.v_.put 3 2
              have HS4 := hide (HS3.out.setv 3 2)
              go_upto_region 13 with (fail)
              clear HS3 x0 x1 x2 x3 y0 y1 y2 y3 p0 p1
              obtain ⟨W4, hW4⟩ : ∃ W, (wa3.setCell ⟨w3.heap.size + 1, 0, none⟩ (.int .i64 3)).setCell ⟨w3.heap.size + 1, 1, none⟩ (.int .i64 2) = W := ⟨_, rfl⟩
              rw [hW4] at HS4 ⊢
              clear hW4
              obtain ⟨x0, x1, x2, x3⟩ := HS4.out.w_.cells
              obtain ⟨y0, y1, y2, y3⟩ := HS4.out.v_.cells
              obtain rfl : v = .slice none 0 0 := by
                rcases HL.out with h | ⟨X, n, h, _⟩
                · exact h.1
                · rw [HD.out] at h; exact absurd h (by first | assumption | simp)
              obtain rfl : x = 0 := HX.out.2 (by first | assumption | simp)
              obtain ⟨a0, a1, a2, a3⟩ := HS4.out.f.cells
              obtain ⟨b0, b1, b2, b3⟩ := HS4.out.g.cells
              go_wp2_with fail
              refine (CB _ (HT.out.below HS4.out.b)).out.mono ?_
              rintro e wa5 ⟨rfl, hb⟩
              have HS5 := hide (HS4.out.below hb)
              clear hb HS4
              clear a0 a1 a2 a3 b0 b1 b2 b3
              clear x0 x1 x2 x3 y0 y1 y2 y3
              obtain ⟨a0, a1, a2, a3⟩ := HS5.out.f.cells
              obtain ⟨b0, b1, b2, b3⟩ := HS5.out.g.cells
              obtain ⟨x0, x1, x2, x3⟩ := HS5.out.w_.cells
              obtain ⟨y0, y1, y2, y3⟩ := HS5.out.v_.cells
              obtain ⟨x0, x1, x2, x3⟩ := HS5.out.w_.cells
              obtain ⟨y0, y1, y2, y3⟩ := HS5.out.v_.cells
              go_wp2_with fail
              go_ret
              exact ⟨rfl, HS5.out.b⟩
      · as_aux_lemma =>
          rw [hoa] at CNa
          have HDE := hide (HDD.out.trans (if_neg (by rw [hoa]; simp)))
          have haa := ok_bounds hoa
          clear HDD hoa
          go_wp2_with fail
          refine (CNa _).out.mono ?_
          rintro e wn ⟨rfl, rfl⟩
          cases hob : okB b
          · as_aux_lemma =>
              rw [hob] at CNb
              obtain ⟨rfl, rfl⟩ : d1 = 3 ∧ d2 = 3 := by have := HD.out.symm.trans (HDE.out.trans (if_pos hob)); exact Prod.mk.inj this
              clear hob HDE
              go_wp2_with fail
              refine (CNb _).out.mono ?_
              rintro e wn ⟨rfl, rfl⟩
              go_wp2_with fail
              refine (CF 3 3 _).out.mono ?_
              rintro e wa1 ⟨rfl, hb⟩
              have HS1 := hide (HST.out.below hb)
              clear hb HST
              clear x0 x1 x2 x3 y0 y1 y2 y3
              obtain ⟨x0, x1, x2, x3⟩ := HS1.out.w_.cells
              obtain ⟨y0, y1, y2, y3⟩ := HS1.out.v_.cells
              obtain ⟨p0, p1⟩ := HS1.out.w_.put 3 3
              have HS2 := hide (HS1.out.setw 3 3)
              go_upto_region 11 with (fail)
              clear HS1 x0 x1 x2 x3 y0 y1 y2 y3 p0 p1
              obtain ⟨W2, hW2⟩ : ∃ W, (wa1.setCell ⟨w3.heap.size, 0, none⟩ (.int .i64 3)).setCell ⟨w3.heap.size, 1, none⟩ (.int .i64 3) = W := ⟨_, rfl⟩
              rw [hW2] at HS2 ⊢
              clear hW2
              obtain ⟨x0, x1, x2, x3⟩ := HS2.out.w_.cells
              obtain ⟨y0, y1, y2, y3⟩ := HS2.out.v_.cells
              by_cases ha0 : a < 0 ∨ p ≤ a
              · as_aux_lemma =>
                  obtain ⟨rfl, rfl⟩ : t1 = 3 ∧ t2 = 2 := by have := HTE.out.symm.trans (teiF_out HZ.out ha0); exact Prod.mk.inj this
                  have hh : decide (a < 0) = true ∨ (decide (a < 0) = false ∧ decide (p ≤ a) = true) := by simp only [decide_eq_true_eq, decide_eq_false_iff_not]; omega
                  clear ha0
                  rcases hh with r1 | ⟨r1, r2⟩
                  · as_aux_lemma =>
                      go_wp2_with fail
                      refine (CF 3 2 _).out.mono ?_
                      rintro e wa3 ⟨rfl, hb⟩
                      have HS3 := hide (HS2.out.below hb)
                      clear hb HS2
                      clear x0 x1 x2 x3 y0 y1 y2 y3
                      obtain ⟨x0, x1, x2, x3⟩ := HS3.out.w_.cells
                      obtain ⟨y0, y1, y2, y3⟩ := HS3.out.v_.cells
                      obtain ⟨p0, p1⟩ := HS3.out.v_.put 3 2
                      have HS4 := hide (HS3.out.setv 3 2)
                      go_upto_region 13 with (fail)
                      clear HS3 x0 x1 x2 x3 y0 y1 y2 y3 p0 p1
                      obtain ⟨W4, hW4⟩ : ∃ W, (wa3.setCell ⟨w3.heap.size + 1, 0, none⟩ (.int .i64 3)).setCell ⟨w3.heap.size + 1, 1, none⟩ (.int .i64 2) = W := ⟨_, rfl⟩
                      rw [hW4] at HS4 ⊢
                      clear hW4
                      obtain ⟨x0, x1, x2, x3⟩ := HS4.out.w_.cells
                      obtain ⟨y0, y1, y2, y3⟩ := HS4.out.v_.cells
                      obtain rfl : v = .slice none 0 0 := by
                        rcases HL.out with h | ⟨X, n, h, _⟩
                        · exact h.1
                        · rw [HD.out] at h; exact absurd h (by first | assumption | simp)
                      obtain rfl : x = 0 := HX.out.2 (by first | assumption | simp)
                      obtain ⟨a0, a1, a2, a3⟩ := HS4.out.f.cells
                      obtain ⟨b0, b1, b2, b3⟩ := HS4.out.g.cells
                      go_wp2_with fail
                      refine (CB _ (HT.out.below HS4.out.b)).out.mono ?_
                      rintro e wa5 ⟨rfl, hb⟩
                      have HS5 := hide (HS4.out.below hb)
                      clear hb HS4
                      clear a0 a1 a2 a3 b0 b1 b2 b3
                      clear x0 x1 x2 x3 y0 y1 y2 y3
                      obtain ⟨a0, a1, a2, a3⟩ := HS5.out.f.cells
                      obtain ⟨b0, b1, b2, b3⟩ := HS5.out.g.cells
                      obtain ⟨x0, x1, x2, x3⟩ := HS5.out.w_.cells
                      obtain ⟨y0, y1, y2, y3⟩ := HS5.out.v_.cells
                      obtain ⟨x0, x1, x2, x3⟩ := HS5.out.w_.cells
                      obtain ⟨y0, y1, y2, y3⟩ := HS5.out.v_.cells
                      go_wp2_with fail
                      go_ret
                      exact ⟨rfl, HS5.out.b⟩
                  · as_aux_lemma =>
                      go_wp2_with fail
                      refine (CF 3 2 _).out.mono ?_
                      rintro e wa3 ⟨rfl, hb⟩
                      have HS3 := hide (HS2.out.below hb)
                      clear hb HS2
                      clear x0 x1 x2 x3 y0 y1 y2 y3
                      obtain ⟨x0, x1, x2, x3⟩ := HS3.out.w_.cells
                      obtain ⟨y0, y1, y2, y3⟩ := HS3.out.v_.cells
                      obtain ⟨p0, p1⟩ := HS3.out.v_.put 3 2
                      have HS4 := hide (HS3.out.setv 3 2)
                      go_upto_region 13 with (fail)
                      clear HS3 x0 x1 x2 x3 y0 y1 y2 y3 p0 p1
                      obtain ⟨W4, hW4⟩ : ∃ W, (wa3.setCell ⟨w3.heap.size + 1, 0, none⟩ (.int .i64 3)).setCell ⟨w3.heap.size + 1, 1, none⟩ (.int .i64 2) = W := ⟨_, rfl⟩
                      rw [hW4] at HS4 ⊢
                      clear hW4
                      obtain ⟨x0, x1, x2, x3⟩ := HS4.out.w_.cells
                      obtain ⟨y0, y1, y2, y3⟩ := HS4.out.v_.cells
                      obtain rfl : v = .slice none 0 0 := by
                        rcases HL.out with h | ⟨X, n, h, _⟩
                        · exact h.1
                        · rw [HD.out] at h; exact absurd h (by first | assumption | simp)
                      obtain rfl : x = 0 := HX.out.2 (by first | assumption | simp)
                      obtain ⟨a0, a1, a2, a3⟩ := HS4.out.f.cells
                      obtain ⟨b0, b1, b2, b3⟩ := HS4.out.g.cells
                      go_wp2_with fail
                      refine (CB _ (HT.out.below HS4.out.b)).out.mono ?_
                      rintro e wa5 ⟨rfl, hb⟩
                      have HS5 := hide (HS4.out.below hb)
                      clear hb HS4
                      clear a0 a1 a2 a3 b0 b1 b2 b3
                      clear x0 x1 x2 x3 y0 y1 y2 y3
                      obtain ⟨a0, a1, a2, a3⟩ := HS5.out.f.cells
                      obtain ⟨b0, b1, b2, b3⟩ := HS5.out.g.cells
                      obtain ⟨x0, x1, x2, x3⟩ := HS5.out.w_.cells
                      obtain ⟨y0, y1, y2, y3⟩ := HS5.out.v_.cells
                      obtain ⟨x0, x1, x2, x3⟩ := HS5.out.w_.cells
                      obtain ⟨y0, y1, y2, y3⟩ := HS5.out.v_.cells
                      go_wp2_with fail
                      go_ret
                      exact ⟨rfl, HS5.out.b⟩
              · as_aux_lemma =>
                  obtain ⟨rfl, rfl⟩ : t1 = 0 ∧ t2 = 0 := by have := HTE.out.symm.trans (teiF_ok HZ.out ha0); exact Prod.mk.inj this
                  have r1 : decide (a < 0) = false := by rw [decide_eq_false_iff_not]; omega
                  have r2 : decide (p ≤ a) = false := by rw [decide_eq_false_iff_not]; omega
                  clear ha0
                  obtain rfl : v = .slice none 0 0 := by
                    rcases HL.out with h | ⟨X, n, h, _⟩
                    · exact h.1
                    · rw [HD.out] at h; exact absurd h (by first | assumption | simp)
                  obtain ⟨a0, a1, a2, a3⟩ := HS2.out.f.cells
                  obtain ⟨b0, b1, b2, b3⟩ := HS2.out.g.cells
                  go_wp2_with fail
                  refine (CB _ (HT.out.below HS2.out.b)).out.mono ?_
                  rintro e wa3 ⟨rfl, hb⟩
                  have HS3 := hide (HS2.out.below hb)
                  clear hb HS2
                  clear a0 a1 a2 a3 b0 b1 b2 b3
                  clear x0 x1 x2 x3 y0 y1 y2 y3
                  obtain ⟨a0, a1, a2, a3⟩ := HS3.out.f.cells
                  obtain ⟨b0, b1, b2, b3⟩ := HS3.out.g.cells
                  obtain ⟨x0, x1, x2, x3⟩ := HS3.out.w_.cells
                  obtain ⟨y0, y1, y2, y3⟩ := HS3.out.v_.cells
                  have HTX := hide (tei_good HTE.out (fun _ => HX.out.1 (by simp)) HM.out)
                  have hPP : ¬ p = 0 := by have := HTX.out.2.2.2.2.1; omega
                  have CW := fun W => hide (power_ref x M p.toNat W (by have := HTX.out; omega) (by have := HTX.out; omega) (by have := HTX.out; omega) (by have := HTX.out; omega) (by have := HTX.out; omega))
                  rw [HTX.out.2.2.2.2.2.2, show ((p.toNat : Nat) : Int) = p from by have := HTX.out; omega] at CW
                  have q5 : decide (x < M) = true := by have := HTX.out; rw [decide_eq_true_eq]; omega
                  have q6 : decide (0 ≤ x) = true := by have := HTX.out; rw [decide_eq_true_eq]; omega
                  have q7 : x.tmod p = a := HTX.out.2.2.2.1
                  obtain ⟨x0, x1, x2, x3⟩ := HS3.out.w_.cells
                  obtain ⟨y0, y1, y2, y3⟩ := HS3.out.v_.cells
                  go_wp2_with fail
                  refine (CW _).out.mono ?_
                  rintro e wa4 ⟨rfl, hb⟩
                  have HS4 := hide (HS3.out.below hb)
                  clear hb HS3
                  go_wp2_with fail
                  go_ret
                  exact ⟨rfl, HS4.out.b⟩
          · as_aux_lemma =>
              rw [hob] at CNb
              have HDF := hide (HDE.out.trans (if_neg (by rw [hob]; simp)))
              clear HDE hob
              go_wp2_with fail
              refine (CNb _).out.mono ?_
              rintro e wn ⟨rfl, rfl⟩
              have hP0 : ¬ p = 0 := by have := HPB.out; omega
              by_cases hbp : b % p = 0
              · as_aux_lemma =>
                  obtain ⟨rfl, rfl⟩ : d1 = 4 ∧ d2 = 3 := by have := HD.out.symm.trans (HDF.out.trans (if_pos hbp)); exact Prod.mk.inj this
                  have hbt : b.tmod p = 0 := Int.tmod_eq_zero_of_dvd (Int.dvd_of_emod_eq_zero hbp)
                  clear hbp HDF
                  go_wp2_with fail
                  refine (CF 4 3 _).out.mono ?_
                  rintro e wa1 ⟨rfl, hb⟩
                  have HS1 := hide (HST.out.below hb)
                  clear hb HST
                  clear x0 x1 x2 x3 y0 y1 y2 y3
                  obtain ⟨x0, x1, x2, x3⟩ := HS1.out.w_.cells
                  obtain ⟨y0, y1, y2, y3⟩ := HS1.out.v_.cells
                  obtain ⟨p0, p1⟩ := HS1.out.w_.put 4 3
                  have HS2 := hide (HS1.out.setw 4 3)
                  go_upto_region 11 with (fail)
                  clear HS1 x0 x1 x2 x3 y0 y1 y2 y3 p0 p1
                  obtain ⟨W2, hW2⟩ : ∃ W, (wa1.setCell ⟨w3.heap.size, 0, none⟩ (.int .i64 4)).setCell ⟨w3.heap.size, 1, none⟩ (.int .i64 3) = W := ⟨_, rfl⟩
                  rw [hW2] at HS2 ⊢
                  clear hW2
                  obtain ⟨x0, x1, x2, x3⟩ := HS2.out.w_.cells
                  obtain ⟨y0, y1, y2, y3⟩ := HS2.out.v_.cells
                  by_cases ha0 : a < 0 ∨ p ≤ a
                  · as_aux_lemma =>
                      obtain ⟨rfl, rfl⟩ : t1 = 3 ∧ t2 = 2 := by have := HTE.out.symm.trans (teiF_out HZ.out ha0); exact Prod.mk.inj this
                      have hh : decide (a < 0) = true ∨ (decide (a < 0) = false ∧ decide (p ≤ a) = true) := by simp only [decide_eq_true_eq, decide_eq_false_iff_not]; omega
                      clear ha0
                      rcases hh with r1 | ⟨r1, r2⟩
                      · as_aux_lemma =>
                          go_wp2_with fail
                          refine (CF 3 2 _).out.mono ?_
                          rintro e wa3 ⟨rfl, hb⟩
                          have HS3 := hide (HS2.out.below hb)
                          clear hb HS2
                          clear x0 x1 x2 x3 y0 y1 y2 y3
                          obtain ⟨x0, x1, x2, x3⟩ := HS3.out.w_.cells
                          obtain ⟨y0, y1, y2, y3⟩ := HS3.out.v_.cells
                          obtain ⟨p0, p1⟩ := HS3.out.v_.put 3 2
                          have HS4 := hide (HS3.out.setv 3 2)
                          go_upto_region 13 with (fail)
                          clear HS3 x0 x1 x2 x3 y0 y1 y2 y3 p0 p1
                          obtain ⟨W4, hW4⟩ : ∃ W, (wa3.setCell ⟨w3.heap.size + 1, 0, none⟩ (.int .i64 3)).setCell ⟨w3.heap.size + 1, 1, none⟩ (.int .i64 2) = W := ⟨_, rfl⟩
                          rw [hW4] at HS4 ⊢
                          clear hW4
                          obtain ⟨x0, x1, x2, x3⟩ := HS4.out.w_.cells
                          obtain ⟨y0, y1, y2, y3⟩ := HS4.out.v_.cells
                          obtain rfl : v = .slice none 0 0 := by
                            rcases HL.out with h | ⟨X, n, h, _⟩
                            · exact h.1
                            · rw [HD.out] at h; exact absurd h (by first | assumption | simp)
                          obtain rfl : x = 0 := HX.out.2 (by first | assumption | simp)
                          obtain ⟨a0, a1, a2, a3⟩ := HS4.out.f.cells
                          obtain ⟨b0, b1, b2, b3⟩ := HS4.out.g.cells
                          go_wp2_with fail
                          refine (CB _ (HT.out.below HS4.out.b)).out.mono ?_
                          rintro e wa5 ⟨rfl, hb⟩
                          have HS5 := hide (HS4.out.below hb)
                          clear hb HS4
                          clear a0 a1 a2 a3 b0 b1 b2 b3
                          clear x0 x1 x2 x3 y0 y1 y2 y3
                          obtain ⟨a0, a1, a2, a3⟩ := HS5.out.f.cells
                          obtain ⟨b0, b1, b2, b3⟩ := HS5.out.g.cells
                          obtain ⟨x0, x1, x2, x3⟩ := HS5.out.w_.cells
                          obtain ⟨y0, y1, y2, y3⟩ := HS5.out.v_.cells
                          obtain ⟨x0, x1, x2, x3⟩ := HS5.out.w_.cells
                          obtain ⟨y0, y1, y2, y3⟩ := HS5.out.v_.cells
                          go_wp2_with fail
                          go_ret
                          exact ⟨rfl, HS5.out.b⟩
                      · as_aux_lemma =>
                          go_wp2_with fail
                          refine (CF 3 2 _).out.mono ?_
                          rintro e wa3 ⟨rfl, hb⟩
                          have HS3 := hide (HS2.out.below hb)
                          clear hb HS2
                          clear x0 x1 x2 x3 y0 y1 y2 y3
                          obtain ⟨x0, x1, x2, x3⟩ := HS3.out.w_.cells
                          obtain ⟨y0, y1, y2, y3⟩ := HS3.out.v_.cells
                          obtain ⟨p0, p1⟩ := HS3.out.v_.put 3 2
                          have HS4 := hide (HS3.out.setv 3 2)
                          go_upto_region 13 with (fail)
                          clear HS3 x0 x1 x2 x3 y0 y1 y2 y3 p0 p1
                          obtain ⟨W4, hW4⟩ : ∃ W, (wa3.setCell ⟨w3.heap.size + 1, 0, none⟩ (.int .i64 3)).setCell ⟨w3.heap.size + 1, 1, none⟩ (.int .i64 2) = W := ⟨_, rfl⟩
                          rw [hW4] at HS4 ⊢
                          clear hW4
                          obtain ⟨x0, x1, x2, x3⟩ := HS4.out.w_.cells
                          obtain ⟨y0, y1, y2, y3⟩ := HS4.out.v_.cells
                          obtain rfl : v = .slice none 0 0 := by
                            rcases HL.out with h | ⟨X, n, h, _⟩
                            · exact h.1
                            · rw [HD.out] at h; exact absurd h (by first | assumption | simp)
                          obtain rfl : x = 0 := HX.out.2 (by first | assumption | simp)
                          obtain ⟨a0, a1, a2, a3⟩ := HS4.out.f.cells
                          obtain ⟨b0, b1, b2, b3⟩ := HS4.out.g.cells
                          go_wp2_with fail
                          refine (CB _ (HT.out.below HS4.out.b)).out.mono ?_
                          rintro e wa5 ⟨rfl, hb⟩
                          have HS5 := hide (HS4.out.below hb)
                          clear hb HS4
                          clear a0 a1 a2 a3 b0 b1 b2 b3
                          clear x0 x1 x2 x3 y0 y1 y2 y3
                          obtain ⟨a0, a1, a2, a3⟩ := HS5.out.f.cells
                          obtain ⟨b0, b1, b2, b3⟩ := HS5.out.g.cells
                          obtain ⟨x0, x1, x2, x3⟩ := HS5.out.w_.cells
                          obtain ⟨y0, y1, y2, y3⟩ := HS5.out.v_.cells
                          obtain ⟨x0, x1, x2, x3⟩ := HS5.out.w_.cells
                          obtain ⟨y0, y1, y2, y3⟩ := HS5.out.v_.cells
                          go_wp2_with fail
                          go_ret
                          exact ⟨rfl, HS5.out.b⟩
                  · as_aux_lemma =>
                      obtain ⟨rfl, rfl⟩ : t1 = 0 ∧ t2 = 0 := by have := HTE.out.symm.trans (teiF_ok HZ.out ha0); exact Prod.mk.inj this
                      have r1 : decide (a < 0) = false := by rw [decide_eq_false_iff_not]; omega
                      have r2 : decide (p ≤ a) = false := by rw [decide_eq_false_iff_not]; omega
                      clear ha0
                      obtain rfl : v = .slice none 0 0 := by
                        rcases HL.out with h | ⟨X, n, h, _⟩
                        · exact h.1
                        · rw [HD.out] at h; exact absurd h (by first | assumption | simp)
                      obtain ⟨a0, a1, a2, a3⟩ := HS2.out.f.cells
                      obtain ⟨b0, b1, b2, b3⟩ := HS2.out.g.cells
                      go_wp2_with fail
                      refine (CB _ (HT.out.below HS2.out.b)).out.mono ?_
                      rintro e wa3 ⟨rfl, hb⟩
                      have HS3 := hide (HS2.out.below hb)
                      clear hb HS2
                      clear a0 a1 a2 a3 b0 b1 b2 b3
                      clear x0 x1 x2 x3 y0 y1 y2 y3
                      obtain ⟨a0, a1, a2, a3⟩ := HS3.out.f.cells
                      obtain ⟨b0, b1, b2, b3⟩ := HS3.out.g.cells
                      obtain ⟨x0, x1, x2, x3⟩ := HS3.out.w_.cells
                      obtain ⟨y0, y1, y2, y3⟩ := HS3.out.v_.cells
                      have HTX := hide (tei_good HTE.out (fun _ => HX.out.1 (by simp)) HM.out)
                      have hPP : ¬ p = 0 := by have := HTX.out.2.2.2.2.1; omega
                      have CW := fun W => hide (power_ref x M p.toNat W (by have := HTX.out; omega) (by have := HTX.out; omega) (by have := HTX.out; omega) (by have := HTX.out; omega) (by have := HTX.out; omega))
                      rw [HTX.out.2.2.2.2.2.2, show ((p.toNat : Nat) : Int) = p from by have := HTX.out; omega] at CW
                      have q5 : decide (x < M) = true := by have := HTX.out; rw [decide_eq_true_eq]; omega
                      have q6 : decide (0 ≤ x) = true := by have := HTX.out; rw [decide_eq_true_eq]; omega
                      have q7 : x.tmod p = a := HTX.out.2.2.2.1
                      obtain ⟨x0, x1, x2, x3⟩ := HS3.out.w_.cells
                      obtain ⟨y0, y1, y2, y3⟩ := HS3.out.v_.cells
                      go_wp2_with fail
                      refine (CW _).out.mono ?_
                      rintro e wa4 ⟨rfl, hb⟩
                      have HS4 := hide (HS3.out.below hb)
                      clear hb HS3
                      go_wp2_with fail
                      go_ret
                      exact ⟨rfl, HS4.out.b⟩
              · as_aux_lemma =>
                  obtain ⟨rfl, rfl⟩ : d1 = 0 ∧ d2 = 0 := by have := HD.out.symm.trans (HDF.out.trans (if_neg hbp)); exact Prod.mk.inj this
                  have hbt : (b.tmod p == 0) = false := by rw [tmod_beq]; simpa using hbp
                  clear hbp HDF
                  go_upto_region 11 with (fail)
                  by_cases ha0 : a < 0 ∨ p ≤ a
                  · as_aux_lemma =>
                      obtain ⟨rfl, rfl⟩ : t1 = 3 ∧ t2 = 2 := by have := HTE.out.symm.trans (teiF_out HZ.out ha0); exact Prod.mk.inj this
                      have hh : decide (a < 0) = true ∨ (decide (a < 0) = false ∧ decide (p ≤ a) = true) := by simp only [decide_eq_true_eq, decide_eq_false_iff_not]; omega
                      clear ha0
                      rcases hh with r1 | ⟨r1, r2⟩
                      · as_aux_lemma =>
                          go_wp2_with fail
                          refine (CF 3 2 _).out.mono ?_
                          rintro e wa1 ⟨rfl, hb⟩
                          have HS1 := hide (HST.out.below hb)
                          clear hb HST
                          clear x0 x1 x2 x3 y0 y1 y2 y3
                          obtain ⟨x0, x1, x2, x3⟩ := HS1.out.w_.cells
                          obtain ⟨y0, y1, y2, y3⟩ := HS1.out.v_.cells
                          obtain ⟨p0, p1⟩ := HS1.out.v_.put 3 2
                          have HS2 := hide (HS1.out.setv 3 2)
                          go_upto_region 13 with (fail)
                          clear HS1 x0 x1 x2 x3 y0 y1 y2 y3 p0 p1
                          obtain ⟨W2, hW2⟩ : ∃ W, (wa1.setCell ⟨w3.heap.size + 1, 0, none⟩ (.int .i64 3)).setCell ⟨w3.heap.size + 1, 1, none⟩ (.int .i64 2) = W := ⟨_, rfl⟩
                          rw [hW2] at HS2 ⊢
                          clear hW2
                          obtain ⟨x0, x1, x2, x3⟩ := HS2.out.w_.cells
                          obtain ⟨y0, y1, y2, y3⟩ := HS2.out.v_.cells
                          obtain rfl : x = 0 := HX.out.2 (by first | assumption | simp)
                          obtain ⟨X, cc, hv, hok, hl⟩ : ∃ (X : Int) (cc : Nat), v = .slice A k.toNat cc ∧ DigOk p k a b X ∧ l = digs p X k.toNat := by
                            rcases HL.out with h | ⟨X, cc, _, h1, h2, h3⟩
                            · exact absurd (by rw [HD.out]) h.2.1
                            · exact ⟨X, cc, h1, h2, h3⟩
                          subst hv hl
                          have HDG := hide (dig_good HD.out hok HM.out)
                          have HDR := hide (dig_rounds HDG.out.1 HDG.out.2.2.2.2.2.2.2.1 HDG.out.2.2.2.2.2.2.2.2.1 (by have := HM.out; rwa [if_pos HDG.out.2.2.2.2.1] at this) HDG.out.2.2.2.2.2.2.1)
                          clear hok
                          obtain ⟨a0, a1, a2, a3⟩ := HS2.out.f.cells
                          obtain ⟨b0, b1, b2, b3⟩ := HS2.out.g.cells
                          go_wp2_with fail
                          refine (CB _ (HT.out.below HS2.out.b)).out.mono ?_
                          rintro e wa3 ⟨rfl, hb⟩
                          have HS3 := hide (HS2.out.below hb)
                          clear hb HS2
                          clear a0 a1 a2 a3 b0 b1 b2 b3
                          clear x0 x1 x2 x3 y0 y1 y2 y3
                          obtain ⟨a0, a1, a2, a3⟩ := HS3.out.f.cells
                          obtain ⟨b0, b1, b2, b3⟩ := HS3.out.g.cells
                          obtain ⟨x0, x1, x2, x3⟩ := HS3.out.w_.cells
                          obtain ⟨y0, y1, y2, y3⟩ := HS3.out.v_.cells
                          have q0 : ((k.toNat : Int) != k) = false := by have := HDG.out; simp; omega
                          have hK60 : k ≤ 60 := HDG.out.2.2.2.1
                          have hK1 : 1 ≤ k := HDG.out.2.2.1
                          go_wp2_with fail
                          clear a0 a1 a2 a3 b0 b1 b2 b3 x0 x1 x2 x3 y0 y1 y2 y3
                          go_loop [16, 17] (fun y i => ∃ (t : Nat) (I Y : Int), i = .int .i64 I ∧ I = (t : Int) - 1 ∧ t ≤ k.toNat ∧ y = .int .i64 Y ∧ Hid (Y = X / p ^ t)) (fun _ i => (intOf i + 1).toNat)
                          case atStart => exact ⟨k.toNat, _, 0, rfl, by omega, Nat.le_refl _, rfl, HDR.out.1⟩
                          case round =>
                            obtain ⟨t, I, Y, rfl, hI, ht, rfl, HY⟩ := hrel
                            by_cases ht0 : t = 0
                            · as_aux_lemma =>
                                subst ht0
                                obtain rfl : I = -1 := by omega
                                obtain rfl : X = Y := by have := HY.out; rw [Int.pow_zero, Int.ediv_one] at this; exact this.symm
                                have HMB := HDG.out
                                have HABB := HAB.out
                                have CPr := fun W => hide (product_ref b X M W (by omega) (by omega) (by omega) (by omega) (by omega) (by omega))
                                rw [HMB.2.2.2.2.2.2.2.2.2] at CPr
                                have CLf := fun W => hide (left_ref a M W (by omega) (by omega) (by omega) (by omega))
                                obtain ⟨Z, hZ⟩ : ∃ Z, a % M = Z := ⟨_, rfl⟩
                                rw [hZ] at CPr CLf
                                have qz : (Z != Z) = false := by simp
                                clear HMB HABB hZ hI
                                go_wp2_with fail
                                refine (CPr _).out.mono ?_
                                rintro e wa4 ⟨rfl, hb⟩
                                have HS4 := hide (HS3.out.below hb)
                                clear hb HS3
                                go_wp2_with fail
                                refine (CLf _).out.mono ?_
                                rintro e wa5 ⟨rfl, rfl⟩
                                clear CLf CPr qz
                                obtain ⟨x0, x1, x2, x3⟩ := HS4.out.w_.cells
                                obtain ⟨y0, y1, y2, y3⟩ := HS4.out.v_.cells
                                go_wp2_with fail
                                go_ret
                                exact ⟨rfl, HS4.out.b⟩
                            · as_aux_lemma =>
                                obtain ⟨s, rfl⟩ : ∃ s, t = s + 1 := ⟨t - 1, by omega⟩
                                obtain rfl : I = (s : Int) := by omega
                                obtain ⟨ad, hAd, hadb, hcell⟩ := HS3.out.i_.cell s _ (digs_get p X k.toNat s (by omega))
                                subst hAd
                                have hst := HDR.out.2 s
                                rw [← HY.out] at hst
                                obtain ⟨D, hD⟩ : ∃ D, X / p ^ s % p = D := ⟨_, rfl⟩
                                rw [hD] at hcell hst
                                have hPb : 2 ≤ p ∧ p ≤ 1000000 := ⟨HDG.out.1, HDG.out.2.1⟩
                                obtain ⟨s1, s2, s3, s4, s5, s6⟩ := hst
                                have q1 : decide (D < 0) = false := by rw [decide_eq_false_iff_not]; omega
                                have q2 : decide (p ≤ D) = false := by rw [decide_eq_false_iff_not]; omega
                                have q3 : decide (0 ≤ (s : Int)) = true := by rw [decide_eq_true_eq]; omega
                                have HYY : Hid (Y * p + D = X / p ^ s) := s1
                                have s7 : Y * p + D ≤ 1000000000000000000 := by omega
                                clear hD s1 s6 hI
                                go_wp2_with fail
                                exact ⟨⟨s, _, _, rfl, rfl, by omega, rfl, HYY⟩, by first | (simp [intOf]; done) | (simp [intOf]; omega)⟩
                      · as_aux_lemma =>
                          go_wp2_with fail
                          refine (CF 3 2 _).out.mono ?_
                          rintro e wa1 ⟨rfl, hb⟩
                          have HS1 := hide (HST.out.below hb)
                          clear hb HST
                          clear x0 x1 x2 x3 y0 y1 y2 y3
                          obtain ⟨x0, x1, x2, x3⟩ := HS1.out.w_.cells
                          obtain ⟨y0, y1, y2, y3⟩ := HS1.out.v_.cells
                          obtain ⟨p0, p1⟩ := HS1.out.v_.put 3 2
                          have HS2 := hide (HS1.out.setv 3 2)
                          go_upto_region 13 with (fail)
                          clear HS1 x0 x1 x2 x3 y0 y1 y2 y3 p0 p1
                          obtain ⟨W2, hW2⟩ : ∃ W, (wa1.setCell ⟨w3.heap.size + 1, 0, none⟩ (.int .i64 3)).setCell ⟨w3.heap.size + 1, 1, none⟩ (.int .i64 2) = W := ⟨_, rfl⟩
                          rw [hW2] at HS2 ⊢
                          clear hW2
                          obtain ⟨x0, x1, x2, x3⟩ := HS2.out.w_.cells
                          obtain ⟨y0, y1, y2, y3⟩ := HS2.out.v_.cells
                          obtain rfl : x = 0 := HX.out.2 (by first | assumption | simp)
                          obtain ⟨X, cc, hv, hok, hl⟩ : ∃ (X : Int) (cc : Nat), v = .slice A k.toNat cc ∧ DigOk p k a b X ∧ l = digs p X k.toNat := by
                            rcases HL.out with h | ⟨X, cc, _, h1, h2, h3⟩
                            · exact absurd (by rw [HD.out]) h.2.1
                            · exact ⟨X, cc, h1, h2, h3⟩
                          subst hv hl
                          have HDG := hide (dig_good HD.out hok HM.out)
                          have HDR := hide (dig_rounds HDG.out.1 HDG.out.2.2.2.2.2.2.2.1 HDG.out.2.2.2.2.2.2.2.2.1 (by have := HM.out; rwa [if_pos HDG.out.2.2.2.2.1] at this) HDG.out.2.2.2.2.2.2.1)
                          clear hok
                          obtain ⟨a0, a1, a2, a3⟩ := HS2.out.f.cells
                          obtain ⟨b0, b1, b2, b3⟩ := HS2.out.g.cells
                          go_wp2_with fail
                          refine (CB _ (HT.out.below HS2.out.b)).out.mono ?_
                          rintro e wa3 ⟨rfl, hb⟩
                          have HS3 := hide (HS2.out.below hb)
                          clear hb HS2
                          clear a0 a1 a2 a3 b0 b1 b2 b3
                          clear x0 x1 x2 x3 y0 y1 y2 y3
                          obtain ⟨a0, a1, a2, a3⟩ := HS3.out.f.cells
                          obtain ⟨b0, b1, b2, b3⟩ := HS3.out.g.cells
                          obtain ⟨x0, x1, x2, x3⟩ := HS3.out.w_.cells
                          obtain ⟨y0, y1, y2, y3⟩ := HS3.out.v_.cells
                          have q0 : ((k.toNat : Int) != k) = false := by have := HDG.out; simp; omega
                          have hK60 : k ≤ 60 := HDG.out.2.2.2.1
                          have hK1 : 1 ≤ k := HDG.out.2.2.1
                          go_wp2_with fail
                          clear a0 a1 a2 a3 b0 b1 b2 b3 x0 x1 x2 x3 y0 y1 y2 y3
                          go_loop [16, 17] (fun y i => ∃ (t : Nat) (I Y : Int), i = .int .i64 I ∧ I = (t : Int) - 1 ∧ t ≤ k.toNat ∧ y = .int .i64 Y ∧ Hid (Y = X / p ^ t)) (fun _ i => (intOf i + 1).toNat)
                          case atStart => exact ⟨k.toNat, _, 0, rfl, by omega, Nat.le_refl _, rfl, HDR.out.1⟩
                          case round =>
                            obtain ⟨t, I, Y, rfl, hI, ht, rfl, HY⟩ := hrel
                            by_cases ht0 : t = 0
                            · as_aux_lemma =>
                                subst ht0
                                obtain rfl : I = -1 := by omega
                                obtain rfl : X = Y := by have := HY.out; rw [Int.pow_zero, Int.ediv_one] at this; exact this.symm
                                have HMB := HDG.out
                                have HABB := HAB.out
                                have CPr := fun W => hide (product_ref b X M W (by omega) (by omega) (by omega) (by omega) (by omega) (by omega))
                                rw [HMB.2.2.2.2.2.2.2.2.2] at CPr
                                have CLf := fun W => hide (left_ref a M W (by omega) (by omega) (by omega) (by omega))
                                obtain ⟨Z, hZ⟩ : ∃ Z, a % M = Z := ⟨_, rfl⟩
                                rw [hZ] at CPr CLf
                                have qz : (Z != Z) = false := by simp
                                clear HMB HABB hZ hI
                                go_wp2_with fail
                                refine (CPr _).out.mono ?_
                                rintro e wa4 ⟨rfl, hb⟩
                                have HS4 := hide (HS3.out.below hb)
                                clear hb HS3
                                go_wp2_with fail
                                refine (CLf _).out.mono ?_
                                rintro e wa5 ⟨rfl, rfl⟩
                                clear CLf CPr qz
                                obtain ⟨x0, x1, x2, x3⟩ := HS4.out.w_.cells
                                obtain ⟨y0, y1, y2, y3⟩ := HS4.out.v_.cells
                                go_wp2_with fail
                                go_ret
                                exact ⟨rfl, HS4.out.b⟩
                            · as_aux_lemma =>
                                obtain ⟨s, rfl⟩ : ∃ s, t = s + 1 := ⟨t - 1, by omega⟩
                                obtain rfl : I = (s : Int) := by omega
                                obtain ⟨ad, hAd, hadb, hcell⟩ := HS3.out.i_.cell s _ (digs_get p X k.toNat s (by omega))
                                subst hAd
                                have hst := HDR.out.2 s
                                rw [← HY.out] at hst
                                obtain ⟨D, hD⟩ : ∃ D, X / p ^ s % p = D := ⟨_, rfl⟩
                                rw [hD] at hcell hst
                                have hPb : 2 ≤ p ∧ p ≤ 1000000 := ⟨HDG.out.1, HDG.out.2.1⟩
                                obtain ⟨s1, s2, s3, s4, s5, s6⟩ := hst
                                have q1 : decide (D < 0) = false := by rw [decide_eq_false_iff_not]; omega
                                have q2 : decide (p ≤ D) = false := by rw [decide_eq_false_iff_not]; omega
                                have q3 : decide (0 ≤ (s : Int)) = true := by rw [decide_eq_true_eq]; omega
                                have HYY : Hid (Y * p + D = X / p ^ s) := s1
                                have s7 : Y * p + D ≤ 1000000000000000000 := by omega
                                clear hD s1 s6 hI
                                go_wp2_with fail
                                exact ⟨⟨s, _, _, rfl, rfl, by omega, rfl, HYY⟩, by first | (simp [intOf]; done) | (simp [intOf]; omega)⟩
                  · as_aux_lemma =>
                      obtain ⟨rfl, rfl⟩ : t1 = 0 ∧ t2 = 0 := by have := HTE.out.symm.trans (teiF_ok HZ.out ha0); exact Prod.mk.inj this
                      have r1 : decide (a < 0) = false := by rw [decide_eq_false_iff_not]; omega
                      have r2 : decide (p ≤ a) = false := by rw [decide_eq_false_iff_not]; omega
                      clear ha0
                      obtain ⟨X, cc, hv, hok, hl⟩ : ∃ (X : Int) (cc : Nat), v = .slice A k.toNat cc ∧ DigOk p k a b X ∧ l = digs p X k.toNat := by
                        rcases HL.out with h | ⟨X, cc, _, h1, h2, h3⟩
                        · exact absurd (by rw [HD.out]) h.2.1
                        · exact ⟨X, cc, h1, h2, h3⟩
                      subst hv hl
                      have HDG := hide (dig_good HD.out hok HM.out)
                      have HDR := hide (dig_rounds HDG.out.1 HDG.out.2.2.2.2.2.2.2.1 HDG.out.2.2.2.2.2.2.2.2.1 (by have := HM.out; rwa [if_pos HDG.out.2.2.2.2.1] at this) HDG.out.2.2.2.2.2.2.1)
                      clear hok
                      obtain ⟨a0, a1, a2, a3⟩ := HST.out.f.cells
                      obtain ⟨b0, b1, b2, b3⟩ := HST.out.g.cells
                      go_wp2_with fail
                      refine (CB _ (HT.out.below HST.out.b)).out.mono ?_
                      rintro e wa1 ⟨rfl, hb⟩
                      have HS1 := hide (HST.out.below hb)
                      clear hb HST
                      clear a0 a1 a2 a3 b0 b1 b2 b3
                      clear x0 x1 x2 x3 y0 y1 y2 y3
                      obtain ⟨a0, a1, a2, a3⟩ := HS1.out.f.cells
                      obtain ⟨b0, b1, b2, b3⟩ := HS1.out.g.cells
                      obtain ⟨x0, x1, x2, x3⟩ := HS1.out.w_.cells
                      obtain ⟨y0, y1, y2, y3⟩ := HS1.out.v_.cells
                      have q0 : ((k.toNat : Int) != k) = false := by have := HDG.out; simp; omega
                      have hK60 : k ≤ 60 := HDG.out.2.2.2.1
                      have hK1 : 1 ≤ k := HDG.out.2.2.1
                      go_wp2_with fail
                      clear a0 a1 a2 a3 b0 b1 b2 b3 x0 x1 x2 x3 y0 y1 y2 y3
                      go_loop [16, 17] (fun y i => ∃ (t : Nat) (I Y : Int), i = .int .i64 I ∧ I = (t : Int) - 1 ∧ t ≤ k.toNat ∧ y = .int .i64 Y ∧ Hid (Y = X / p ^ t)) (fun _ i => (intOf i + 1).toNat)
                      case atStart => exact ⟨k.toNat, _, 0, rfl, by omega, Nat.le_refl _, rfl, HDR.out.1⟩
                      case round =>
                        obtain ⟨t, I, Y, rfl, hI, ht, rfl, HY⟩ := hrel
                        by_cases ht0 : t = 0
                        · as_aux_lemma =>
                            subst ht0
                            obtain rfl : I = -1 := by omega
                            obtain rfl : X = Y := by have := HY.out; rw [Int.pow_zero, Int.ediv_one] at this; exact this.symm
                            have HMB := HDG.out
                            have HABB := HAB.out
                            have CPr := fun W => hide (product_ref b X M W (by omega) (by omega) (by omega) (by omega) (by omega) (by omega))
                            rw [HMB.2.2.2.2.2.2.2.2.2] at CPr
                            have CLf := fun W => hide (left_ref a M W (by omega) (by omega) (by omega) (by omega))
                            obtain ⟨Z, hZ⟩ : ∃ Z, a % M = Z := ⟨_, rfl⟩
                            rw [hZ] at CPr CLf
                            have qz : (Z != Z) = false := by simp
                            clear HMB HABB hZ hI
                            go_wp2_with fail
                            refine (CPr _).out.mono ?_
                            rintro e wa2 ⟨rfl, hb⟩
                            have HS2 := hide (HS1.out.below hb)
                            clear hb HS1
                            go_wp2_with fail
                            refine (CLf _).out.mono ?_
                            rintro e wa3 ⟨rfl, rfl⟩
                            clear CLf CPr qz
                            have HTX := hide (tei_good HTE.out (fun _ => HX.out.1 (by simp)) HM.out)
                            have hPP : ¬ p = 0 := by have := HTX.out.2.2.2.2.1; omega
                            have CW := fun W => hide (power_ref x M p.toNat W (by have := HTX.out; omega) (by have := HTX.out; omega) (by have := HTX.out; omega) (by have := HTX.out; omega) (by have := HTX.out; omega))
                            rw [HTX.out.2.2.2.2.2.2, show ((p.toNat : Nat) : Int) = p from by have := HTX.out; omega] at CW
                            have q5 : decide (x < M) = true := by have := HTX.out; rw [decide_eq_true_eq]; omega
                            have q6 : decide (0 ≤ x) = true := by have := HTX.out; rw [decide_eq_true_eq]; omega
                            have q7 : x.tmod p = a := HTX.out.2.2.2.1
                            obtain ⟨x0, x1, x2, x3⟩ := HS2.out.w_.cells
                            obtain ⟨y0, y1, y2, y3⟩ := HS2.out.v_.cells
                            go_wp2_with fail
                            refine (CW _).out.mono ?_
                            rintro e wa4 ⟨rfl, hb⟩
                            have HS4 := hide (HS2.out.below hb)
                            clear hb HS2
                            go_wp2_with fail
                            go_ret
                            exact ⟨rfl, HS4.out.b⟩
                        · as_aux_lemma =>
                            obtain ⟨s, rfl⟩ : ∃ s, t = s + 1 := ⟨t - 1, by omega⟩
                            obtain rfl : I = (s : Int) := by omega
                            obtain ⟨ad, hAd, hadb, hcell⟩ := HS1.out.i_.cell s _ (digs_get p X k.toNat s (by omega))
                            subst hAd
                            have hst := HDR.out.2 s
                            rw [← HY.out] at hst
                            obtain ⟨D, hD⟩ : ∃ D, X / p ^ s % p = D := ⟨_, rfl⟩
                            rw [hD] at hcell hst
                            have hPb : 2 ≤ p ∧ p ≤ 1000000 := ⟨HDG.out.1, HDG.out.2.1⟩
                            obtain ⟨s1, s2, s3, s4, s5, s6⟩ := hst
                            have q1 : decide (D < 0) = false := by rw [decide_eq_false_iff_not]; omega
                            have q2 : decide (p ≤ D) = false := by rw [decide_eq_false_iff_not]; omega
                            have q3 : decide (0 ≤ (s : Int)) = true := by rw [decide_eq_true_eq]; omega
                            have HYY : Hid (Y * p + D = X / p ^ s) := s1
                            have s7 : Y * p + D ≤ 1000000000000000000 := by omega
                            clear hD s1 s6 hI
                            go_wp2_with fail
                            exact ⟨⟨s, _, _, rfl, rfl, by omega, rfl, HYY⟩, by first | (simp [intOf]; done) | (simp [intOf]; omega)⟩
  · as_aux_lemma =>
      obtain ⟨rfl, rfl⟩ : d1 = u1 ∧ d2 = u2 := by have := HD.out.symm.trans ((dig1 (by rw [HU.out]; exact hu1)).trans HU.out); exact Prod.mk.inj this
      obtain ⟨rfl, rfl⟩ : t1 = d1 ∧ t2 = d2 := by have := HTE.out.symm.trans ((teiF_bad (by rw [HU.out]; exact hu1)).trans HU.out); exact Prod.mk.inj this
      have q8 : (t1 == 0) = false := by simpa using hu1
      have q9 : (t1 != 0) = true := by simpa using hu1
      obtain ⟨x0, x1, x2, x3⟩ := HST.out.w_.cells
      obtain ⟨y0, y1, y2, y3⟩ := HST.out.v_.cells
      obtain rfl : v = .slice none 0 0 := by
        rcases HL.out with h | ⟨X, n, h, _⟩
        · exact h.1
        · rw [HD.out] at h; exact absurd h (by first | assumption | simp)
      obtain rfl : x = 0 := HX.out.2 (by first | assumption | simp)
      obtain ⟨a0, a1, a2, a3⟩ := HST.out.f.cells
      obtain ⟨b0, b1, b2, b3⟩ := HST.out.g.cells
      go_wp2_with fail
      refine (CB _ (HT.out.below HST.out.b)).out.mono ?_
      rintro e wa1 ⟨rfl, hb⟩
      have HS1 := hide (HST.out.below hb)
      clear hb HST
      clear a0 a1 a2 a3 b0 b1 b2 b3
      clear x0 x1 x2 x3 y0 y1 y2 y3
      obtain ⟨a0, a1, a2, a3⟩ := HS1.out.f.cells
      obtain ⟨b0, b1, b2, b3⟩ := HS1.out.g.cells
      obtain ⟨x0, x1, x2, x3⟩ := HS1.out.w_.cells
      obtain ⟨y0, y1, y2, y3⟩ := HS1.out.v_.cells
      obtain ⟨x0, x1, x2, x3⟩ := HS1.out.w_.cells
      obtain ⟨y0, y1, y2, y3⟩ := HS1.out.v_.cells
      go_wp2_with fail
      go_ret
      exact ⟨rfl, HS1.out.b⟩

theorem wfd_low {n : Int} (h : (Lit.int .i64 n).wf = true) : -9223372036854775808 ≤ n := by
  have h1 : IntKind.i64.min = -9223372036854775808 := rfl
  have h2 : IntKind.i64.max = 9223372036854775807 := rfl
  simp only [Lit.wf, Bool.and_eq_true, decide_eq_true_eq] at h
  omega
theorem wfd_high {n : Int} (h : (Lit.int .i64 n).wf = true) : n ≤ 9223372036854775807 := by
  have h1 : IntKind.i64.min = -9223372036854775808 := rfl
  have h2 : IntKind.i64.max = 9223372036854775807 := rfl
  simp only [Lit.wf, Bool.and_eq_true, decide_eq_true_eq] at h
  omega
theorem pdigits_row (p k a b : Int) (w : World) (hT : TabW w) (w0 : (Lit.int .i64 p).wf = true) (_ : (Lit.int .i64 k).wf = true) (w2 : (Lit.int .i64 a).wf = true) (w3 : (Lit.int .i64 b).wf = true) :
    Calls Tryd.prog 4 #[.int .i64 p, .int .i64 k, .int .i64 a, .int .i64 b] w fun e w' => e = .returned (.bool true) ∧ Below w.heap.size w w' :=
  pdigits_any p k a b w hT (wfd_low w0) (wfd_low w2) (wfd_high w2) (wfd_low w3) (wfd_high w3)
end Go.Proofs.YticgnjapgbjfiaaDoor
