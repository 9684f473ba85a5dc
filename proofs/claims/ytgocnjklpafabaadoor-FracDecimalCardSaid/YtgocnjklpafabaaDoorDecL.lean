/- The walk of the law FracDecimal. -/
import Derived.Test.YtgocnjklpafabaaDoorDOfW
import Derived.Test.YtgocnjklpafabaaDoorFFault
import Derived.Test.YtgocnjklpafabaaDoorFracB
import Derived.Deep.DeepCutAuto
import Derived.Deep.RegionHeld3
namespace Go.Proofs.YtgocnjklpafabaaDoor
open Go.RowKit


/-- the blocks of the law's frame: the fraction, the fault that came, the fault that should -/
structure DcSt (w W : World) (a b : Int) (n1 n2 : Nat) (u v : Int × Int) : Prop where
  x : W.heap[w.heap.size]? = some (.cells #[.int .i64 a, .int .i64 b] 31 (0, 0))
  f : FC W n1 u.1 u.2
  g : FC W n2 v.1 v.2
  n12 : n1 < n2
  lo : w.heap.size < n1
  b : Below w.heap.size w W
theorem DcSt.below {w W W' : World} {a b : Int} {n1 n2 : Nat} {u v : Int × Int} (h : DcSt w W a b n1 n2 u v) (k : Below W.heap.size W W') : DcSt w W' a b n1 n2 u v :=
  ⟨(k.block _ (heap_lt h.x)).trans h.x, h.f.below k, h.g.below k, h.n12, h.lo, h.b.trans (k.mono h.b.size)⟩
theorem fc_awy {w : World} {g : Nat} {a b : Int} (h : FC w g a b) {p : Addr} (hp : g ≠ p.block) (v : Value) : FC (w.setCell p v) g a b := (Below.heap_setCell _ _ _ _ hp).trans h
theorem DcSt.setg {w W : World} {a b : Int} {n1 n2 : Nat} {u v : Int × Int} (h : DcSt w W a b n1 n2 u v) (x y : Int) : DcSt w ((W.setCell ⟨n2, 0, none⟩ (.int .i64 x)).setCell ⟨n2, 1, none⟩ (.int .i64 y)) a b n1 n2 u (x, y) := by
  have a1 := h.n12
  have a2 := h.lo
  exact ⟨(Below.heap_setCell _ ⟨n2, 1, none⟩ _ w.heap.size (by show w.heap.size ≠ n2; omega)).trans ((Below.heap_setCell _ ⟨n2, 0, none⟩ _ w.heap.size (by show w.heap.size ≠ n2; omega)).trans h.x), fc_awy (fc_awy h.f (p := ⟨n2, 0, none⟩) (by show n1 ≠ n2; omega) _) (p := ⟨n2, 1, none⟩) (by show n1 ≠ n2; omega) _, (h.g.set0 x).set1 y, a1, a2, below_fault h.b (by omega)⟩
theorem DcSt.setf {w W : World} {a b : Int} {n1 n2 : Nat} {u v : Int × Int} (h : DcSt w W a b n1 n2 u v) (x y : Int) : DcSt w ((W.setCell ⟨n1, 0, none⟩ (.int .i64 x)).setCell ⟨n1, 1, none⟩ (.int .i64 y)) a b n1 n2 (x, y) v := by
  have a1 := h.n12
  have a2 := h.lo
  exact ⟨(Below.heap_setCell _ ⟨n1, 1, none⟩ _ w.heap.size (by show w.heap.size ≠ n1; omega)).trans ((Below.heap_setCell _ ⟨n1, 0, none⟩ _ w.heap.size (by show w.heap.size ≠ n1; omega)).trans h.x), (h.f.set0 x).set1 y, fc_awy (fc_awy h.g (p := ⟨n1, 0, none⟩) (by show n2 ≠ n1; omega) _) (p := ⟨n1, 1, none⟩) (by show n2 ≠ n1; omega) _, a1, a2, below_fault h.b (by omega)⟩
theorem DcSt.cells {w W : World} {a b : Int} {n1 n2 : Nat} {u v : Int × Int} (h : DcSt w W a b n1 n2 u v) : (W.cell? ⟨w.heap.size, 0, none⟩ = some (.int .i64 a) ∧ W.cell? ⟨w.heap.size, 1, none⟩ = some (.int .i64 b)) ∧ (W.cell? ⟨n1, 0, none⟩ = some (.int .i64 u.1) ∧ W.cell? ⟨n1, 1, none⟩ = some (.int .i64 u.2) ∧ W.frozen? ⟨n1, 0, none⟩ = false ∧ W.frozen? ⟨n1, 1, none⟩ = false) ∧ (W.cell? ⟨n2, 0, none⟩ = some (.int .i64 v.1) ∧ W.cell? ⟨n2, 1, none⟩ = some (.int .i64 v.2) ∧ W.frozen? ⟨n2, 0, none⟩ = false ∧ W.frozen? ⟨n2, 1, none⟩ = false) := by
  have hx := h.x
  exact ⟨⟨by simp [World.cell?, hx], by simp [World.cell?, hx]⟩, h.f.cells, h.g.cells⟩

/-- the fault behind the first test is the fault that comes -/
theorem decF_two (a b : Int) : decF a b = if (fracF a b).1 = 0 ∧ 5000 < b then (2, 0) else fracF a b := by
  unfold decF
  by_cases h1 : (fracF a b).1 = 0
  · rw [if_neg (by rw [h1]; simp)]
    by_cases h2 : 5000 < b
    · rw [if_pos h2, if_pos ⟨h1, h2⟩]
    · rw [if_neg h2, if_neg (fun h => h2 h.2), (fracF_ok h1).1]
  · rw [if_pos h1, if_neg (fun h => h1 h.1)]

set_option maxRecDepth 100000 in
set_option maxHeartbeats 6400000 in
theorem fdec_any (a b : Int) (w : World) (hT : TabW w) (hP : PowW w) :
    Calls Tryd.prog 4 #[.agg #[.int .i64 a, .int .i64 b]] w fun e w' => e = .returned (.bool true) ∧ Below w.heap.size w w' := by
  have hx := heap_alloc_new w (.cells #[.int .i64 a, .int .i64 b] 31)
  have HB0 := hide (bel_f w (.cells #[.int .i64 a, .int .i64 b] 31))
  obtain ⟨W0, hW0⟩ : ∃ W, w.alloc (.cells #[.int .i64 a, .int .i64 b] 31) = W := ⟨_, rfl⟩
  have hsz : w.heap.size < W0.heap.size := by rw [← hW0]; simp
  rw [hW0] at hx HB0
  have HX := hide hx
  have hx0 : W0.cell? ⟨w.heap.size, 0, none⟩ = some (.int .i64 a) := by simp [World.cell?, hx]
  have hx1 : W0.cell? ⟨w.heap.size, 1, none⟩ = some (.int .i64 b) := by simp [World.cell?, hx]
  have HT := hide hT
  have HP := hide hP
  have C1 := hide (decimal_any a b W0 (HT.out.below HB0.out) (HP.out.below HB0.out))
  have C2 := fun W => hide (fracFault_any a b W)
  have CF := fun c i W => hide (refF_any c i W)
  clear hx hT hP
  go_enter Tryd.func4, Tryd.ntmps4
  go_wp2_with fail
  refine C1.out.mono ?_
  rintro e w1 ⟨s, rfl, hs1, hs2, hb⟩
  have HS1 := hide (And.intro hs1 hs2)
  have hx2 := (hb.block _ hsz).trans HX.out
  have HX2 := hide hx2
  have HB1 := hide (HB0.out.trans (hb.mono HB0.out.size))
  obtain ⟨⟨u1, u2⟩, hu⟩ : ∃ F, decF a b = F := ⟨_, rfl⟩
  rw [hu] at HS1 ⊢
  simp only [fv]
  obtain ⟨q, hq⟩ : ∃ q : ByteArray, (⟨s.toArray⟩ : ByteArray) = q := ⟨_, rfl⟩
  rw [hq]
  have HQ := hide hq
  clear hq
  have HU := hide hu
  have hlt1 : w.heap.size < w1.heap.size := heap_lt hx2
  have x0 : w1.cell? ⟨w.heap.size, 0, none⟩ = some (.int .i64 a) := by simp [World.cell?, hx2]
  have x1 : w1.cell? ⟨w.heap.size, 1, none⟩ = some (.int .i64 b) := by simp [World.cell?, hx2]
  clear hb hs1 hs2 hx2 hu C1 hx0 hx1
  go_wp2_with fail
  refine (C2 _).out.mono ?_
  rintro e w2 ⟨rfl, hb⟩
  obtain ⟨⟨v1, v2⟩, hv⟩ : ∃ F, fracF a b = F := ⟨_, rfl⟩
  rw [hv]
  simp only [fv]
  have HV := hide hv
  have K1 := bel_f w1 (.cells #[.int .i64 u1, .int .i64 u2] 25)
  have K2 := bel_f w2 (.cells #[.int .i64 v1, .int .i64 v2] 25)
  have K3 := K1.trans (hb.mono K1.size)
  have HS : Hid (DcSt w (w2.alloc (.cells #[.int .i64 v1, .int .i64 v2] 25)) a b w1.heap.size w2.heap.size (u1, u2) (v1, v2)) :=
    ⟨((K3.trans (K2.mono K3.size)).block _ hlt1).trans HX2.out, ((FC.made w1 u1 u2).below hb).below K2, FC.made w2 v1 v2, ((FC.made w1 u1 u2).below hb).lt, hlt1, HB1.out.trans ((K3.trans (K2.mono K3.size)).mono HB1.out.size)⟩
  clear hb hv K1 K2 K3 HB0 HX hlt1 x0 x1
  obtain ⟨W2, hW2⟩ : ∃ W, w2.alloc (.cells #[.int .i64 v1, .int .i64 v2] 25) = W := ⟨_, rfl⟩
  go_upto_region 3 with (fail)
  rw [hW2] at HS
  obtain ⟨n1, hn1⟩ : ∃ n, w1.heap.size = n := ⟨_, rfl⟩
  obtain ⟨n2, hn2⟩ : ∃ n, w2.heap.size = n := ⟨_, rfl⟩
  rw [hn1, hn2] at HS ⊢
  clear hW2 hn1 hn2 C2
  go_cut [20] (fun t wd => ∃ B : Bool, t = .bool B ∧ Hid (B = decide (v1 = 0 ∧ 5000 < b)) ∧ wd = W2)
  case first => as_aux_lemma =>
    obtain ⟨⟨x0, x1⟩, ⟨f0, f1, f2, f3⟩, ⟨g0, g1, g2, g3⟩⟩ := HS.out.cells
    by_cases hv1 : v1 = 0
    · subst hv1
      by_cases ha : 5000 < b
      · have q1 : decide (5000 < b) = true := by simpa using ha
        have HE : Hid (true = decide ((0 : Int) = 0 ∧ 5000 < b)) := by unfold Hid; simp [ha]
        go_wp2_with fail
        go_meet
        exact ⟨true, rfl, HE, rfl⟩
      · have q1 : decide (5000 < b) = false := by simpa using ha
        have HE : Hid (false = decide ((0 : Int) = 0 ∧ 5000 < b)) := by unfold Hid; simp; omega
        go_wp2_with fail
        go_meet
        exact ⟨false, rfl, HE, rfl⟩
    · have q0 : (v1 == 0) = false := by simpa using hv1
      have HE : Hid (false = decide (v1 = 0 ∧ 5000 < b)) := by unfold Hid; simp [hv1]
      go_wp2_with fail
      go_meet
      exact ⟨false, rfl, HE, rfl⟩
  case rest => as_aux_lemma =>
   obtain ⟨B, rfl, HBB, hww⟩ := hcut
   subst hww
   go_upto_if 20 with (fail)
   have HPF := hide (decF_two a b)
   go_cut [] (fun wd => Hid (DcSt w wd a b n1 n2 (u1, u2) (u1, u2)))
   case first => as_aux_lemma =>
    cases B
    · have HU2 : Hid ((u1, u2) = (v1, v2)) := by
        have h := HPF.out
        have h0 := HBB.out
        rw [if_neg (fun h2 => by
          rw [HV.out] at h2
          have h3 : v1 = 0 ∧ 5000 < b := h2
          rw [decide_eq_true h3] at h0
          cases h0), HU.out, HV.out] at h
        exact h
      go_wp2_with fail
      go_meet
      have h := HS.out
      rw [← HU2.out] at h
      exact h
    · have HU2 : Hid ((u1, u2) = (2, 0)) := by
        have h := HPF.out
        have h2 : v1 = 0 ∧ 5000 < b := by simpa using HBB.out.symm
        rw [if_pos (by rw [HV.out]; exact h2), HU.out] at h
        exact h
      go_wp2_with fail
      refine (CF 2 0 _).out.mono ?_
      rintro e w6 ⟨rfl, hb⟩
      have HS6 := hide (HS.out.below hb)
      obtain ⟨_, _, ⟨h0, h1, h2, h3⟩⟩ := HS6.out.cells
      clear hb
      go_wp2_with fail
      go_meet
      have h := HS6.out.setg 2 0
      rw [← HU2.out] at h
      exact h
   case rest => as_aux_lemma =>
    have HS3 := hcut
    clear HS HV hcut HBB
    go_upto_region 5 with (fail)
    go_cut [28] (fun t wd => t = .bool false ∧ Hid (DcSt w wd a b n1 n2 (u1, u2) (u1, u2)))
    case first => as_aux_lemma =>
      have CB := hide (fracBegun_any wc (HT.out.below HS3.out.b) (HP.out.below HS3.out.b))
      go_wp2_with fail
      refine CB.out.mono ?_
      rintro e w3 ⟨rfl, hb⟩
      have HS4 := hide (HS3.out.below hb)
      obtain ⟨_, ⟨f0, f1, f2, f3⟩, ⟨g0, g1, g2, g3⟩⟩ := HS4.out.cells
      clear hb
      go_wp2_with fail
      go_meet
      exact ⟨rfl, HS4⟩
    case rest => as_aux_lemma =>
      obtain ⟨rfl, HS4⟩ := hcut
      clear HS3
      obtain ⟨⟨x0, x1⟩, ⟨f0, f1, f2, f3⟩, ⟨g0, g1, g2, g3⟩⟩ := HS4.out.cells
      by_cases hu1 : u1 = 0
      · as_aux_lemma =>
        subst hu1
        have hS := HS1.out.2 rfl
        have hF : (fracF a b).1 = 0 ∧ ¬ 5000 < b := by
          have h := HPF.out
          rw [HU.out] at h
          by_cases h1 : (fracF a b).1 = 0 ∧ 5000 < b
          · rw [if_pos h1] at h
            simp at h
          · rw [if_neg h1] at h
            have h2 : (fracF a b).1 = 0 := by rw [← h]
            exact ⟨h2, fun h3 => h1 ⟨h2, h3⟩⟩
        obtain ⟨hF0, hoa, hob, hb1, hg⟩ := fracF_ok hF.1
        have la := ok_lims hoa
        have h5 := hF.2
        obtain ⟨D, rfl⟩ : ∃ D : Nat, b = D := ⟨b.toNat, by omega⟩
        have CD := fun W => hide (decof_any a D s W (by omega) (by omega) (by omega) hS)
        rw [HQ.out] at CD
        clear hS hF hF0 hoa hob hb1 hg la h5 HS1 HU HQ HPF
        go_wp2_with fail
        refine (CD _).out.mono ?_
        rintro e w6 ⟨rfl, hb⟩
        have HS6 := hide (HS4.out.below hb)
        clear hb
        go_wp2_with fail
        go_ret
        exact ⟨by simp, HS6.out.b⟩
      · as_aux_lemma =>
        have hs2 := HS1.out.1 hu1
        have hq2 := HQ.out
        rw [hs2] at hq2
        subst hq2
        have q0 : (u1 != 0) = true := by simpa using hu1
        go_wp2_with fail
        go_ret
        exact ⟨rfl, HS4.out.b⟩

theorem fdec_row (a b : Int) (w : World) (hT : TabW w) (hP : PowW w) :
    Calls Tryd.prog 4 #[.agg #[.int .i64 a, .int .i64 b]] w fun e w' => e = .returned (.bool true) ∧ Below w.heap.size w w' := fdec_any a b w hT hP
end Go.Proofs.YtgocnjklpafabaaDoor
