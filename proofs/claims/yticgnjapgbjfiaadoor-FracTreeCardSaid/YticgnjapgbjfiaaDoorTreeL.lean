/- The walk of the law FracTree. -/
import Derived.Test.YticgnjapgbjfiaaDoorWalkW
import Derived.Test.YticgnjapgbjfiaaDoorFracB
import Derived.Deep.DeepCutAuto
import Derived.Deep.RegionHeld3
import Derived.LoopN
namespace Go.Proofs.YticgnjapgbjfiaaDoor
open Go.RowKit

/-- the blocks of the law's frame: the fraction, the fault that came, the fault that should -/
structure TrSt (w W : World) (a b : Int) (n1 n2 : Nat) (u v : Int × Int) : Prop where
  x : W.heap[w.heap.size]? = some (.cells #[.int .i64 a, .int .i64 b] 49 (0, 0))
  f : FC W n1 u.1 u.2
  g : FC W n2 v.1 v.2
  n12 : n1 < n2
  lo : w.heap.size < n1
  b : Below w.heap.size w W
theorem TrSt.below {w W W' : World} {a b : Int} {n1 n2 : Nat} {u v : Int × Int} (h : TrSt w W a b n1 n2 u v) (k : Below W.heap.size W W') : TrSt w W' a b n1 n2 u v :=
  ⟨(k.block _ (heap_lt h.x)).trans h.x, h.f.below k, h.g.below k, h.n12, h.lo, h.b.trans (k.mono h.b.size)⟩
theorem fc_away {w : World} {g : Nat} {a b : Int} (h : FC w g a b) {p : Addr} (hp : g ≠ p.block) (v : Value) : FC (w.setCell p v) g a b := (Below.heap_setCell _ _ _ _ hp).trans h
theorem TrSt.setg {w W : World} {a b : Int} {n1 n2 : Nat} {u v : Int × Int} (h : TrSt w W a b n1 n2 u v) (x y : Int) : TrSt w ((W.setCell ⟨n2, 0, none⟩ (.int .i64 x)).setCell ⟨n2, 1, none⟩ (.int .i64 y)) a b n1 n2 u (x, y) := by
  have a1 := h.n12
  have a2 := h.lo
  exact ⟨(Below.heap_setCell _ ⟨n2, 1, none⟩ _ w.heap.size (by show w.heap.size ≠ n2; omega)).trans ((Below.heap_setCell _ ⟨n2, 0, none⟩ _ w.heap.size (by show w.heap.size ≠ n2; omega)).trans h.x), fc_away (fc_away h.f (p := ⟨n2, 0, none⟩) (by show n1 ≠ n2; omega) _) (p := ⟨n2, 1, none⟩) (by show n1 ≠ n2; omega) _, (h.g.set0 x).set1 y, a1, a2, below_fault h.b (by omega)⟩
theorem TrSt.setf {w W : World} {a b : Int} {n1 n2 : Nat} {u v : Int × Int} (h : TrSt w W a b n1 n2 u v) (x y : Int) : TrSt w ((W.setCell ⟨n1, 0, none⟩ (.int .i64 x)).setCell ⟨n1, 1, none⟩ (.int .i64 y)) a b n1 n2 (x, y) v := by
  have a1 := h.n12
  have a2 := h.lo
  exact ⟨(Below.heap_setCell _ ⟨n1, 1, none⟩ _ w.heap.size (by show w.heap.size ≠ n1; omega)).trans ((Below.heap_setCell _ ⟨n1, 0, none⟩ _ w.heap.size (by show w.heap.size ≠ n1; omega)).trans h.x), (h.f.set0 x).set1 y, fc_away (fc_away h.g (p := ⟨n1, 0, none⟩) (by show n2 ≠ n1; omega) _) (p := ⟨n1, 1, none⟩) (by show n2 ≠ n1; omega) _, a1, a2, below_fault h.b (by omega)⟩
theorem TrSt.cells {w W : World} {a b : Int} {n1 n2 : Nat} {u v : Int × Int} (h : TrSt w W a b n1 n2 u v) : (W.cell? ⟨w.heap.size, 0, none⟩ = some (.int .i64 a) ∧ W.cell? ⟨w.heap.size, 1, none⟩ = some (.int .i64 b)) ∧ (W.cell? ⟨n1, 0, none⟩ = some (.int .i64 u.1) ∧ W.cell? ⟨n1, 1, none⟩ = some (.int .i64 u.2) ∧ W.frozen? ⟨n1, 0, none⟩ = false ∧ W.frozen? ⟨n1, 1, none⟩ = false) ∧ (W.cell? ⟨n2, 0, none⟩ = some (.int .i64 v.1) ∧ W.cell? ⟨n2, 1, none⟩ = some (.int .i64 v.2) ∧ W.frozen? ⟨n2, 0, none⟩ = false ∧ W.frozen? ⟨n2, 1, none⟩ = false) := by
  have hx := h.x
  exact ⟨⟨by simp [World.cell?, hx], by simp [World.cell?, hx]⟩, h.f.cells, h.g.cells⟩

theorem icmp_self (X : Int) : icmp X X = 0 := by unfold icmp; rw [if_neg (by omega), if_neg (by omega)]
/-- the same with the fraction that came -/
structure TrS2 (w W : World) (n1 n2 n3 : Nat) (u v y : Int × Int) : Prop where
  f : FC W n1 u.1 u.2
  g : FC W n2 v.1 v.2
  y : W.heap[n3]? = some (.cells #[.int .i64 y.1, .int .i64 y.2] 49 (0, 0))
  n12 : n1 < n2
  n23 : n2 < n3
  lo : w.heap.size < n1
  b : Below w.heap.size w W
theorem TrS2.below {w W W' : World} {n1 n2 n3 : Nat} {u v y : Int × Int} (h : TrS2 w W n1 n2 n3 u v y) (k : Below W.heap.size W W') : TrS2 w W' n1 n2 n3 u v y :=
  ⟨h.f.below k, h.g.below k, (k.block _ (heap_lt h.y)).trans h.y, h.n12, h.n23, h.lo, h.b.trans (k.mono h.b.size)⟩
theorem TrS2.setg {w W : World} {n1 n2 n3 : Nat} {u v y : Int × Int} (h : TrS2 w W n1 n2 n3 u v y) (c d : Int) : TrS2 w ((W.setCell ⟨n2, 0, none⟩ (.int .i64 c)).setCell ⟨n2, 1, none⟩ (.int .i64 d)) n1 n2 n3 u (c, d) y := by
  have a1 := h.n12
  have a2 := h.lo
  have a3 := h.n23
  exact ⟨fc_away (fc_away h.f (p := ⟨n2, 0, none⟩) (by show n1 ≠ n2; omega) _) (p := ⟨n2, 1, none⟩) (by show n1 ≠ n2; omega) _, (h.g.set0 c).set1 d, (Below.heap_setCell _ ⟨n2, 1, none⟩ _ n3 (by show n3 ≠ n2; omega)).trans ((Below.heap_setCell _ ⟨n2, 0, none⟩ _ n3 (by show n3 ≠ n2; omega)).trans h.y), a1, a3, a2, below_fault h.b (by omega)⟩
theorem TrS2.setf {w W : World} {n1 n2 n3 : Nat} {u v y : Int × Int} (h : TrS2 w W n1 n2 n3 u v y) (c d : Int) : TrS2 w ((W.setCell ⟨n1, 0, none⟩ (.int .i64 c)).setCell ⟨n1, 1, none⟩ (.int .i64 d)) n1 n2 n3 (c, d) v y := by
  have a1 := h.n12
  have a2 := h.lo
  have a3 := h.n23
  exact ⟨(h.f.set0 c).set1 d, fc_away (fc_away h.g (p := ⟨n1, 0, none⟩) (by show n2 ≠ n1; omega) _) (p := ⟨n1, 1, none⟩) (by show n2 ≠ n1; omega) _, (Below.heap_setCell _ ⟨n1, 1, none⟩ _ n3 (by show n3 ≠ n1; omega)).trans ((Below.heap_setCell _ ⟨n1, 0, none⟩ _ n3 (by show n3 ≠ n1; omega)).trans h.y), a1, a3, a2, below_fault h.b (by omega)⟩
theorem TrS2.cells {w W : World} {n1 n2 n3 : Nat} {u v y : Int × Int} (h : TrS2 w W n1 n2 n3 u v y) : (W.cell? ⟨n1, 0, none⟩ = some (.int .i64 u.1) ∧ W.cell? ⟨n1, 1, none⟩ = some (.int .i64 u.2) ∧ W.frozen? ⟨n1, 0, none⟩ = false ∧ W.frozen? ⟨n1, 1, none⟩ = false) ∧ (W.cell? ⟨n2, 0, none⟩ = some (.int .i64 v.1) ∧ W.cell? ⟨n2, 1, none⟩ = some (.int .i64 v.2) ∧ W.frozen? ⟨n2, 0, none⟩ = false ∧ W.frozen? ⟨n2, 1, none⟩ = false) ∧ (W.cell? ⟨n3, 0, none⟩ = some (.int .i64 y.1) ∧ W.cell? ⟨n3, 1, none⟩ = some (.int .i64 y.2)) := by
  have hy := h.y
  exact ⟨h.f.cells, h.g.cells, by simp [World.cell?, hy], by simp [World.cell?, hy]⟩
theorem TrS2.start {w W : World} {a b : Int} {n1 n2 : Nat} {u v : Int × Int} (h : TrSt w W a b n1 n2 u v) (y1 y2 : Int) : TrS2 w (W.alloc (.cells #[.int .i64 y1, .int .i64 y2] 49)) n1 n2 W.heap.size u v (y1, y2) := by
  have k := h.below (bel_f W (.cells #[.int .i64 y1, .int .i64 y2] 49))
  exact ⟨k.f, k.g, heap_alloc_new W _, h.n12, h.g.lt, h.lo, k.b⟩
/-- the fault behind the first test -/
def tf1 (a b : Int) : Int × Int := if (fracF a b).1 = 0 ∧ a < 1 then (3, 0) else fracF a b
theorem tf1_path (a b : Int) : pathF a b = if (tf1 a b).1 = 0 ∧ 20000 < steps a b then (9, 0) else tf1 a b := by
  by_cases h1 : (fracF a b).1 = 0
  · by_cases h2 : a < 1
    · have e : tf1 a b = (3, 0) := by unfold tf1; rw [if_pos ⟨h1, h2⟩]
      rw [e]
      unfold pathF
      rw [if_neg (by rw [h1]; simp), if_pos h2, if_neg (by simp)]
    · have e : tf1 a b = (0, 0) := by unfold tf1; rw [if_neg (fun h => h2 h.2)]; exact (fracF_ok h1).1
      rw [e]
      unfold pathF
      rw [if_neg (by rw [h1]; simp), if_neg h2]
      by_cases h4 : 20000 < steps a b
      · rw [if_pos h4, if_pos ⟨rfl, h4⟩]
      · rw [if_neg h4, if_neg (fun h => h4 h.2)]
  · have e : tf1 a b = fracF a b := by unfold tf1; rw [if_neg (fun h => h1 h.1)]
    rw [e]
    unfold pathF
    rw [if_pos h1, if_neg (fun h => h1 h.1)]

theorem path_node {l : List Bool} {N1 N2 : Nat} (hl : node l = (N1, N2)) (hll : l.length ≤ 20000) (h1 : N1 ≤ 1000000000000000000) (h2 : N2 ≤ 1000000000000000000) : pathF (N1 : Int) N2 = (0, 0) := by
  have hp := node_pos l
  have hg := node_gcd l
  have hq := node_quot l
  rw [hl] at hp hg hq
  have hp1 : 1 ≤ N1 := hp.1
  have hp2 : 1 ≤ N2 := hp.2
  have hg : Nat.gcd N1 N2 = 1 := hg
  have hq : quot N1 N2 = l.length + 1 := hq
  have hst : steps (N1 : Int) N2 = quot N1 N2 - 1 := rfl
  have hF : fracF (N1 : Int) N2 = (0, 0) := by
    unfold fracF
    rw [if_neg (by
      have e1 : okB (N1 : Int) = true := by unfold okB; simp; omega
      have e2 : okB (N2 : Int) = true := by unfold okB; simp; omega
      rw [e1, e2]; simp), if_neg]
    intro h
    rcases h with h | h
    · omega
    · exact h hg
  unfold pathF
  rw [hF, if_neg (by simp), if_neg (by omega), if_neg (by omega)]
theorem s2_keep {w w5 W : World} {n1 n2 n3 : Nat} {u v y : Int × Int} (h : TrS2 w w5 n1 n2 n3 u v y) (k : Below w5.heap.size w5 W) : (W.cell? ⟨n1, 0, none⟩ = some (.int .i64 u.1) ∧ W.cell? ⟨n1, 1, none⟩ = some (.int .i64 u.2) ∧ W.cell? ⟨n3, 0, none⟩ = some (.int .i64 y.1) ∧ W.cell? ⟨n3, 1, none⟩ = some (.int .i64 y.2)) ∧ Hid (Below w5.heap.size w5 W) :=
  ⟨⟨(h.below k).cells.1.1, (h.below k).cells.1.2.1, (h.below k).cells.2.2.1, (h.below k).cells.2.2.2⟩, k⟩

set_option maxRecDepth 100000 in
set_option maxHeartbeats 12800000 in
theorem ftree_any (a b : Int) (p : ByteArray) (w : World) (hT : TabW w) (hP : PowW w) :
    Calls Tryd.prog 10 #[.agg #[.int .i64 a, .int .i64 b], .string p] w fun e w' => e = .returned (.bool true) ∧ Below w.heap.size w w' := by
  have hx := heap_alloc_new w (.cells #[.int .i64 a, .int .i64 b] 49)
  have HB0 := hide (bel_f w (.cells #[.int .i64 a, .int .i64 b] 49))
  obtain ⟨W0, hW0⟩ : ∃ W, w.alloc (.cells #[.int .i64 a, .int .i64 b] 49) = W := ⟨_, rfl⟩
  have hsz : w.heap.size < W0.heap.size := by rw [← hW0]; simp
  rw [hW0] at hx HB0
  have HX := hide hx
  have hx0 : W0.cell? ⟨w.heap.size, 0, none⟩ = some (.int .i64 a) := by simp [World.cell?, hx]
  have hx1 : W0.cell? ⟨w.heap.size, 1, none⟩ = some (.int .i64 b) := by simp [World.cell?, hx]
  have C1 := hide (path_any a b W0)
  have C2 := fun W => hide (fracFault_any a b W)
  have CF := fun c i W => hide (refF_any c i W)
  have HT := hide hT
  have HP := hide hP
  clear hx hT hP
  go_enter Tryd.func10, Tryd.ntmps10
  go_wp2_with fail
  refine C1.out.mono ?_
  rintro e w1 ⟨s, rfl, hs1, hs2, hb⟩
  have HS1 := hide (And.intro hs1 hs2)
  have hx2 := (hb.block _ hsz).trans HX.out
  have HX2 := hide hx2
  have HB1 := hide (HB0.out.trans (hb.mono HB0.out.size))
  obtain ⟨⟨u1, u2⟩, hu⟩ : ∃ F, pathF a b = F := ⟨_, rfl⟩
  rw [hu] at HS1 ⊢
  simp only [fv]
  obtain ⟨q, hq⟩ : ∃ q : ByteArray, (⟨s.toArray⟩ : ByteArray) = q := ⟨_, rfl⟩
  rw [hq]
  have HQ := hide hq
  clear hq
  have HU := hide hu
  have hlt1 : w.heap.size < w1.heap.size := heap_lt hx2
  have x0 : w1.cell? ⟨w.heap.size, 0, none⟩ = some (.int .i64 a) := by simp [World.cell?, hx2]
  have x1 : w1.cell? ⟨w.heap.size, 1, none⟩ = some (.int .i64 b) := by simp [World.cell?, hx2]
  clear hb hs1 hs2 hx2 hu C1 hx0 hx1
  go_wp2_with fail
  refine (C2 _).out.mono ?_
  rintro e w2 ⟨rfl, hb⟩
  obtain ⟨⟨v1, v2⟩, hv⟩ : ∃ F, fracF a b = F := ⟨_, rfl⟩
  rw [hv]
  simp only [fv]
  have HV := hide hv
  have K1 := bel_f w1 (.cells #[.int .i64 u1, .int .i64 u2] 24)
  have K2 := bel_f w2 (.cells #[.int .i64 v1, .int .i64 v2] 24)
  have K3 := K1.trans (hb.mono K1.size)
  have HS : Hid (TrSt w (w2.alloc (.cells #[.int .i64 v1, .int .i64 v2] 24)) a b w1.heap.size w2.heap.size (u1, u2) (v1, v2)) :=
    ⟨((K3.trans (K2.mono K3.size)).block _ hlt1).trans HX2.out, ((FC.made w1 u1 u2).below hb).below K2, FC.made w2 v1 v2, ((FC.made w1 u1 u2).below hb).lt, hlt1, HB1.out.trans ((K3.trans (K2.mono K3.size)).mono HB1.out.size)⟩
  clear hb hv K1 K2 K3 HB0 HX hlt1 x0 x1
  obtain ⟨W2, hW2⟩ : ∃ W, w2.alloc (.cells #[.int .i64 v1, .int .i64 v2] 24) = W := ⟨_, rfl⟩
  go_upto_region 3 with (fail)
  rw [hW2] at HS
  obtain ⟨n1, hn1⟩ : ∃ n, w1.heap.size = n := ⟨_, rfl⟩
  obtain ⟨n2, hn2⟩ : ∃ n, w2.heap.size = n := ⟨_, rfl⟩
  rw [hn1, hn2] at HS ⊢
  clear hW2 hn1 hn2 C2
  go_cut [32] (fun t wd => ∃ B : Bool, t = .bool B ∧ Hid (B = decide (v1 = 0 ∧ a < 1)) ∧ wd = W2)
  case first => as_aux_lemma =>
    obtain ⟨⟨x0, x1⟩, ⟨f0, f1, f2, f3⟩, ⟨g0, g1, g2, g3⟩⟩ := HS.out.cells
    by_cases hv1 : v1 = 0
    · subst hv1
      by_cases ha : a < 1
      · have q1 : decide (a < 1) = true := by simpa using ha
        have HE : Hid (true = decide ((0 : Int) = 0 ∧ a < 1)) := by unfold Hid; simp [ha]
        go_wp2_with fail
        go_meet
        exact ⟨true, rfl, HE, rfl⟩
      · have q1 : decide (a < 1) = false := by simpa using ha
        have HE : Hid (false = decide ((0 : Int) = 0 ∧ a < 1)) := by unfold Hid; simp; omega
        go_wp2_with fail
        go_meet
        exact ⟨false, rfl, HE, rfl⟩
    · have q0 : (v1 == 0) = false := by simpa using hv1
      have HE : Hid (false = decide (v1 = 0 ∧ a < 1)) := by unfold Hid; simp [hv1]
      go_wp2_with fail
      go_meet
      exact ⟨false, rfl, HE, rfl⟩
  case rest => as_aux_lemma =>
   obtain ⟨B, rfl, HBB, hww⟩ := hcut
   subst hww
   go_upto_if 32 with (fail)
   go_cut [] (fun wd => ∃ c i : Int, Hid ((c, i) = tf1 a b) ∧ Hid (TrSt w wd a b n1 n2 (u1, u2) (c, i)))
   case first => as_aux_lemma =>
    cases B
    · have HE : Hid ((v1, v2) = tf1 a b) := by
        have h := HBB.out
        unfold Hid tf1
        rw [if_neg (fun h2 => by
          rw [HV.out] at h2
          have h3 : v1 = 0 ∧ a < 1 := h2
          rw [decide_eq_true h3] at h
          cases h), HV.out]
      go_wp2_with fail
      go_meet
      exact ⟨v1, v2, HE, HS⟩
    · have HE : Hid ((3, 0) = tf1 a b) := by
        have h := HBB.out
        have h2 : v1 = 0 ∧ a < 1 := by simpa using h.symm
        unfold Hid tf1
        rw [if_pos (by rw [HV.out]; exact h2)]
      go_wp2_with fail
      refine (CF 3 0 _).out.mono ?_
      rintro e w3 ⟨rfl, hb⟩
      have HS3 := hide (HS.out.below hb)
      obtain ⟨_, _, ⟨h0, h1, h2, h3⟩⟩ := HS3.out.cells
      clear hb
      go_wp2_with fail
      go_meet
      exact ⟨3, 0, HE, HS3.out.setg 3 0⟩
   case rest => as_aux_lemma =>
    obtain ⟨c, i, HE, HS2⟩ := hcut
    clear HS HV
    go_upto_region 5 with (fail)
    go_cut [43] (fun t wd => ∃ B : Bool, t = .bool B ∧ Hid (B = decide (c = 0 ∧ 20000 < steps a b)) ∧ Hid (TrSt w wd a b n1 n2 (u1, u2) (c, i)))
    case first => as_aux_lemma =>
      obtain ⟨⟨x0, x1⟩, ⟨f0, f1, f2, f3⟩, ⟨g0, g1, g2, g3⟩⟩ := HS2.out.cells
      by_cases hc : c = 0
      · subst hc
        have hfr : (fracF a b).1 = 0 ∧ ¬ a < 1 := by
          have h := HE.out
          unfold tf1 at h
          by_cases h1 : (fracF a b).1 = 0
          · refine ⟨h1, fun h2 => ?_⟩
            rw [if_pos ⟨h1, h2⟩] at h
            simp at h
          · rw [if_neg (fun h2 => h1 h2.1)] at h
            exact absurd (by rw [← h]) h1
        obtain ⟨hF0, hoa, hob, hb1, hg⟩ := fracF_ok hfr.1
        have la := ok_lims hoa
        have lb := ok_lims hob
        obtain ⟨A, rfl⟩ : ∃ A : Nat, a = A := ⟨a.toNat, by omega⟩
        obtain ⟨B, rfl⟩ : ∃ B : Nat, b = B := ⟨b.toNat, by omega⟩
        have hqp : 1 ≤ quot A B := by
          have h2 : Nat.gcd A B = 1 := by simpa [Int.gcd] using hg
          obtain ⟨L, hL⟩ := node_all (A + B) A B (Nat.le_refl _) (by omega) (by omega) h2
          have h3 := node_quot L
          rw [hL] at h3
          have h3 : quot A B = L.length + 1 := h3
          omega
        have hst : steps (A : Int) B = quot A B - 1 := rfl
        have hql := quot_le A B
        have CS := fun W => hide (steps_any A B W (by omega) (by omega))
        have he : (quot A B : Int) - 1 = ((steps (A : Int) B : Nat) : Int) := by rw [hst]; omega
        rw [he] at CS
        obtain ⟨T, hTe⟩ : ∃ T, steps (A : Int) B = T := ⟨_, rfl⟩
        rw [hTe] at CS hst
        have HTE := hide hTe
        have hT18 : T ≤ 2000000000000000000 := by omega
        clear hfr hF0 hoa hob hb1 hg la lb hqp hql he hTe hst
        go_wp2_with fail
        refine (CS _).out.mono ?_
        rintro e w3 ⟨gs, rfl, hgs, hi, hb⟩
        have O3 := hide (Own.cons (Own.start wc) hb hgs hi)
        clear hgs hi hb CS
        go_wp2_with fail
        refine (b_own O3.out 20000 (by omega) (by omega)).mono ?_
        rintro e w4 ⟨gt, rfl, O⟩
        have CC := hide (cmp_own O 1 0 rfl rfl (big18 (by omega)) (big18 (by decide)))
        clear O
        by_cases hb20 : 20000 < T
        · rw [show icmp (T : Int) 20000 = 1 from icmp_gt (by omega)] at CC
          have HU2 : Hid (true = decide ((0 : Int) = 0 ∧ 20000 < steps (A : Int) (B : Int))) := by unfold Hid; rw [HTE.out]; simp [hb20]
          go_wp2_with fail
          refine CC.out.mono ?_
          rintro e w5 ⟨rfl, O⟩
          have HS5 := hide (HS2.out.below O.bel)
          clear O CC O3
          go_wp2_with fail
          go_meet
          exact ⟨true, rfl, HU2, HS5⟩
        · obtain ⟨z, hz, q5⟩ := icmp_le (X := (T : Int)) (Y := 20000) (by omega)
          rw [hz] at CC
          have HU2 : Hid (false = decide ((0 : Int) = 0 ∧ 20000 < steps (A : Int) (B : Int))) := by unfold Hid; rw [HTE.out]; simp; omega
          clear hz
          go_wp2_with fail
          refine CC.out.mono ?_
          rintro e w5 ⟨rfl, O⟩
          have HS5 := hide (HS2.out.below O.bel)
          clear O CC O3
          go_wp2_with fail
          go_meet
          exact ⟨false, rfl, HU2, HS5⟩
      · have q0 : (c == 0) = false := by simpa using hc
        have HU2 : Hid (false = decide (c = 0 ∧ 20000 < steps a b)) := by unfold Hid; simp [hc]
        go_wp2_with fail
        go_meet
        exact ⟨false, rfl, HU2, HS2⟩
    case rest => as_aux_lemma =>
     obtain ⟨B, rfl, HBB, HS2b⟩ := hcut
     clear HS2
     have HS2 := HS2b
     clear HS2b
     have HPF := hide (tf1_path a b)
     go_upto_if 43 with (fail)
     go_cut [] (fun wd => Hid (TrSt w wd a b n1 n2 (u1, u2) (u1, u2)))
     case first => as_aux_lemma =>
      cases B
      · have HU2 : Hid ((u1, u2) = (c, i)) := by
          have h := HPF.out
          have h0 := HBB.out
          rw [if_neg (fun h2 => by
            rw [← HE.out] at h2
            have h3 : c = 0 ∧ 20000 < steps a b := h2
            rw [decide_eq_true h3] at h0
            cases h0), HU.out, ← HE.out] at h
          exact h
        go_wp2_with fail
        go_meet
        have h := HS2.out
        rw [← HU2.out] at h
        exact h
      · have HU2 : Hid ((u1, u2) = (9, 0)) := by
          have h := HPF.out
          have h2 : c = 0 ∧ 20000 < steps a b := by simpa using HBB.out.symm
          rw [if_pos (by rw [← HE.out]; exact h2), HU.out] at h
          exact h
        go_wp2_with fail
        refine (CF 9 0 _).out.mono ?_
        rintro e w6 ⟨rfl, hb⟩
        have HS6 := hide (HS2.out.below hb)
        obtain ⟨_, _, ⟨h0, h1, h2, h3⟩⟩ := HS6.out.cells
        clear hb
        go_wp2_with fail
        go_meet
        have h := HS6.out.setg 9 0
        rw [← HU2.out] at h
        exact h
     case rest => as_aux_lemma =>
      have HS3 := hcut
      clear HS2 HE hcut HBB HPF
      have hs : u1 ≠ 0 → s = [] := HS1.out.1
      go_upto_region 7 with (fail)
      go_cut [60] (fun t wd => t = .bool false ∧ Hid (TrSt w wd a b n1 n2 (u1, u2) (u1, u2)))
      case first => as_aux_lemma =>
        have CB := hide (fracBegun_any wc (HT.out.below HS3.out.b) (HP.out.below HS3.out.b))
        by_cases hu1 : u1 = 0
        · subst hu1
          clear hs
          go_wp2_with fail
          refine CB.out.mono ?_
          rintro e w3 ⟨rfl, hb⟩
          have HS4 := hide (HS3.out.below hb)
          obtain ⟨_, ⟨f0, f1, f2, f3⟩, ⟨g0, g1, g2, g3⟩⟩ := HS4.out.cells
          clear hb
          go_wp2_with fail
          go_meet
          exact ⟨rfl, HS4⟩
        · have hs2 := hs hu1
          have hq2 := HQ.out
          rw [hs2] at hq2
          subst hq2
          have q0 : (u1 != 0) = true := by simpa using hu1
          clear hs
          go_wp2_with fail
          refine CB.out.mono ?_
          rintro e w3 ⟨rfl, hb⟩
          have HS4 := hide (HS3.out.below hb)
          obtain ⟨_, ⟨f0, f1, f2, f3⟩, ⟨g0, g1, g2, g3⟩⟩ := HS4.out.cells
          clear hb
          go_wp2_with fail
          go_meet
          exact ⟨rfl, HS4⟩
      case rest => as_aux_lemma =>
        obtain ⟨rfl, HS4⟩ := hcut
        clear HS3 hs
        obtain ⟨⟨x0, x1⟩, ⟨f0, f1, f2, f3⟩, ⟨g0, g1, g2, g3⟩⟩ := HS4.out.cells
        go_upto_if 63 with (fail)
        clear x0 x1 f0 f1 f2 f3 g0 g1 g2 g3
        go_cut [] (fun wd => Hid (TrSt w wd a b n1 n2 (u1, u2) (u1, u2)))
        case first => as_aux_lemma =>
          by_cases hu1 : u1 = 0
          · subst hu1
            obtain ⟨l, rfl, hl, hll⟩ := HS1.out.2 rfl
            have hF : (fracF a b).1 = 0 := by
              have h := HU.out
              unfold pathF at h
              by_cases h1 : (fracF a b).1 = 0
              · exact h1
              · rw [if_pos h1] at h
                exact (h1 (by rw [h])).elim
            obtain ⟨hF0, hoa, hob, hb1, hg⟩ := fracF_ok hF
            have la := ok_lims hoa
            have lb := ok_lims hob
            have hnp := node_pos l
            rw [hl] at hnp
            have hnp1 : 1 ≤ a.toNat := hnp.1
            obtain ⟨A, rfl⟩ : ∃ A : Nat, a = A := ⟨a.toNat, by omega⟩
            obtain ⟨B, rfl⟩ : ∃ B : Nat, b = B := ⟨b.toNat, by omega⟩
            have hl2 : node l = (A, B) := hl
            have HN := hide hl2
            have HFit : Hid (FitTo l l.length) := fun j _ => by
              have h := go_take_le l j
              rw [hl2] at h
              exact ⟨Nat.le_trans h.1 (by show A ≤ _; omega), Nat.le_trans h.2 (by show B ≤ _; omega)⟩
            have HW : Hid (IsWay q l) := HQ.out ▸ way_wb l
            have hqs : q.size ≤ 20000 := by rw [HW.out.1]; exact hll
            have HLL := hide hll
            have hA18 : A ≤ 1000000000000000000 := by omega
            have hB18 : B ≤ 1000000000000000000 := by omega
            clear hF hF0 hoa hob hb1 hg la lb hnp hnp1 hl hl2 hll HS1 HU HQ
            go_wp2_with fail
            go_loopg [8] q.size (fun J iv wr => ∃ i : Nat, J = q.size - i ∧ iv = .int .i64 i ∧ i ≤ q.size ∧ wr = wc)
            case atStart => exact ⟨0, by omega, rfl, by omega, rfl⟩
            case round =>
              obtain ⟨i, hJ, rfl, hi, rfl⟩ := hrel
              by_cases hil : i < q.size
              · obtain ⟨x, hx⟩ : ∃ x, l[i]? = some x := ⟨l[i]'(by rw [← HW.out.1]; exact hil), List.getElem?_eq_getElem (by rw [← HW.out.1]; exact hil)⟩
                have e0 := HW.out.2 i x hil hx
                have q1 : decide ((i : Int) < (q.size : Int)) = true := by rw [decide_eq_true_eq]; omega
                have s1 : (i : Int) < (q.size : Int) := by omega
                cases x
                · rw [if_neg (by decide)] at e0
                  go_wp2_with fail
                  go_roundg (q.size - (i + 1))
                  case measure => omega
                  case rel => exact ⟨i + 1, rfl, by simp, by omega, rfl⟩
                · rw [if_pos rfl] at e0
                  go_wp2_with fail
                  go_roundg (q.size - (i + 1))
                  case measure => omega
                  case rel => exact ⟨i + 1, rfl, by simp, by omega, rfl⟩
              · obtain rfl : i = q.size := by omega
                have q1 : decide ((q.size : Int) < (q.size : Int)) = false := by simp
                have CW := hide (walked_any q l wr HW.out HLL.out)
                go_wp2_with fail
                refine CW.out.mono ?_
                rintro e w3 ⟨hres, hb⟩
                rcases hres with ⟨_, h1, h2, rfl, O⟩ | ⟨i, hi, _, hnf, _⟩
                · rw [HN.out] at O
                  have O3 : Hid (Own wr w3 [(h1, (A : Int)), (h2, (B : Int))]) := O
                  have HL : Hid ((A : Int).natAbs < lim ∧ (B : Int).natAbs < lim) := ⟨big18 (by omega), big18 (by omega)⟩
                  have HS5 := hide (HS4.out.below O.bel)
                  obtain ⟨⟨x0, x1⟩, _, _⟩ := HS5.out.cells
                  clear O hb CW
                  go_wp2_with fail
                  refine (b_own O3.out (A : Int) (by omega) (by omega)).mono ?_
                  rintro e w4 ⟨h3, rfl, O⟩
                  have CC := hide (cmp_own O 1 0 rfl rfl HL.out.1 HL.out.1)
                  rw [icmp_self] at CC
                  clear O
                  go_wp2_with fail
                  refine CC.out.mono ?_
                  rintro e w5 ⟨rfl, O⟩
                  have O5 := hide O
                  have HS6 := hide (HS4.out.below O.bel)
                  obtain ⟨⟨y0, y1⟩, _, _⟩ := HS6.out.cells
                  clear O CC O3
                  go_wp2_with fail
                  refine (b_own O5.out (B : Int) (by omega) (by omega)).mono ?_
                  rintro e w6 ⟨h4, rfl, O⟩
                  have CC := hide (cmp_own O 3 0 rfl rfl HL.out.2 HL.out.2)
                  rw [icmp_self] at CC
                  clear O
                  go_wp2_with fail
                  refine CC.out.mono ?_
                  rintro e w7 ⟨rfl, O⟩
                  have HS7 := hide (HS4.out.below O.bel)
                  clear O CC O5
                  go_wp2_with fail
                  go_meet
                  exact HS7
                · exact (hnf (HFit.out (i + 1) (by omega))).elim
          · have q0 : (u1 == 0) = false := by simpa using hu1
            go_wp2_with fail
            go_meet
            exact HS4
        case rest => as_aux_lemma =>
          have HS5 := hcut
          clear HS4 hcut HS1 HU HQ
          go_upto_region 18 with (fail)
          by_cases hp20 : 20000 < p.size
          · as_aux_lemma =>
            have CN := hide (node_long p wc hp20)
            have q0 : decide ((20000 : Int) < (p.size : Int)) = true := by rw [decide_eq_true_eq]; omega
            have q1 : decide ((0 : Int) < (p.size : Int)) = true := by rw [decide_eq_true_eq]; omega
            go_wp2_with fail
            refine CN.out.mono ?_
            rintro e w3 ⟨rfl, hb⟩
            simp only [fv]
            have HS6 := hide (TrS2.start (HS5.out.below hb) 0 0)
            obtain ⟨⟨x0, x1, x2, x3⟩, _, _⟩ := HS6.out.cells
            have HS7 := hide (HS6.out.setf 2 0)
            obtain ⟨_, ⟨y0, y1, y2, y3⟩, _⟩ := HS7.out.cells
            have HS8 := hide (HS7.out.setg 0 0)
            obtain ⟨n3, hn3⟩ : ∃ n, w3.heap.size = n := ⟨_, rfl⟩
            rw [hn3] at HS8
            clear hb HS5 CN
            go_wp2_with fail
            refine (CF 2 0 _).out.mono ?_
            rintro e w4 ⟨rfl, hb⟩
            have HS9 := hide (HS8.out.below hb)
            obtain ⟨_, ⟨z0, z1, z2, z3⟩, _⟩ := HS9.out.cells
            have HSA := hide (HS9.out.setg 2 0)
            obtain ⟨⟨a0, a1, a2, a3⟩, ⟨b0, b1, b2, b3⟩, ⟨c0, c1⟩⟩ := HSA.out.cells
            clear hb
            go_wp2_with fail
            refine wp_loop_rounds 1 ?_
            rw [rounds_succ]
            go_wp2_with fail
            go_ret
            exact ⟨rfl, HSA.out.b⟩
          · rcases way_or_bad p with ⟨l, hl⟩ | ⟨i0, hbad⟩
            · have HW := hide hl
              have hll : l.length ≤ 20000 := by rw [← HW.out.1]; omega
              have HLL := hide hll
              have HPE := hide (way_eq hl).symm
              have CN := hide (node_good p l wc hl hll)
              have q0 : decide ((20000 : Int) < (p.size : Int)) = false := by rw [decide_eq_false_iff_not]; omega
              have q0' : decide (20000 < p.size) = false := by rw [decide_eq_false_iff_not]; omega
              clear hl hll
              go_wp2_with fail
              refine CN.out.mono ?_
              rintro e w3 ⟨hres, hb⟩
              rcases hres with ⟨hfit, rfl⟩ | ⟨i, hi, hft, hnf, rfl⟩
              · as_aux_lemma =>
                have h0 := hfit l.length (Nat.le_refl _)
                rw [List.take_length] at h0
                have h1 := one_node l
                obtain ⟨⟨N1, N2⟩, hN⟩ : ∃ N, node l = N := ⟨_, rfl⟩
                rw [hN] at h1
                have hN1 : N1 ≤ 1000000000000000000 := by have := h0.1; rw [h1.1] at this; exact this
                have hN2 : N2 ≤ 1000000000000000000 := by have := h0.2; rw [h1.2] at this; exact this
                have HN := hide hN
                have HFit := hide hfit
                have HPF := hide (path_node hN HLL.out hN1 hN2)
                rw [hN]
                simp only [fv]
                clear h0 h1 hN hfit
                have HS6 := hide (TrS2.start (HS5.out.below hb) (N1 : Int) (N2 : Int))
                obtain ⟨⟨x0, x1, x2, x3⟩, _, _⟩ := HS6.out.cells
                have HS7 := hide (HS6.out.setf 0 0)
                obtain ⟨_, ⟨y0, y1, y2, y3⟩, _⟩ := HS7.out.cells
                have HS8 := hide (HS7.out.setg 0 0)
                obtain ⟨n3, hn3⟩ : ∃ n, w3.heap.size = n := ⟨_, rfl⟩
                rw [hn3] at HS8
                clear hb HS5 CN
                go_wp2_with fail
                go_loopg [13] p.size (fun J iv wr => ∃ i : Nat, J = p.size - i ∧ iv = .int .i64 i ∧ i ≤ p.size ∧ Hid (TrS2 w wr n1 n2 n3 (0, 0) (0, 0) ((N1 : Int), (N2 : Int))))
                case atStart => exact ⟨0, by omega, rfl, by omega, HS8.out⟩
                case round =>
                  clear HS6 HS7 HS8 x0 x1 x2 x3 y0 y1 y2 y3
                  obtain ⟨i, hJ, rfl, hi, HS8⟩ := hrel
                  obtain ⟨⟨a0, a1, a2, a3⟩, ⟨b0, b1, b2, b3⟩, ⟨c0, c1⟩⟩ := HS8.out.cells
                  by_cases hil : i < p.size
                  · obtain ⟨x, hx⟩ : ∃ x, l[i]? = some x := ⟨l[i]'(by rw [← HW.out.1]; exact hil), List.getElem?_eq_getElem (by rw [← HW.out.1]; exact hil)⟩
                    have e0 := HW.out.2 i x hil hx
                    have q1 : decide ((i : Int) < (p.size : Int)) = true := by rw [decide_eq_true_eq]; omega
                    have s1 : (i : Int) < (p.size : Int) := by omega
                    clear hx
                    cases x
                    · rw [if_neg (by decide)] at e0
                      go_wp2_with fail
                      go_roundg (p.size - (i + 1))
                      case measure => omega
                      case rel => exact ⟨i + 1, rfl, by simp, by omega, HS8⟩
                    · rw [if_pos rfl] at e0
                      go_wp2_with fail
                      go_roundg (p.size - (i + 1))
                      case measure => omega
                      case rel => exact ⟨i + 1, rfl, by simp, by omega, HS8⟩
                  · obtain rfl : i = p.size := by omega
                    have q1 : decide ((p.size : Int) < (p.size : Int)) = false := by simp
                    have CW := hide (walked_any p l wr HW.out HLL.out)
                    obtain ⟨W5, rfl⟩ : ∃ W5, W5 = wr := ⟨_, rfl⟩
                    go_wp2_with fail
                    refine CW.out.mono ?_
                    rintro e w5 ⟨hres, hb⟩
                    rcases hres with ⟨_, h1, h2, rfl, O⟩ | ⟨i, hi, _, hnf, _⟩
                    · rw [HN.out] at O
                      have O3 : Hid (Own W5 w5 [(h1, (N1 : Int)), (h2, (N2 : Int))]) := O
                      have HL : Hid ((N1 : Int).natAbs < lim ∧ (N2 : Int).natAbs < lim) := ⟨big18 (by omega), big18 (by omega)⟩
                      have HS9 := hide (HS8.out.below O.bel)
                      obtain ⟨⟨d0, d1, d2, d3⟩, _, ⟨e0, e1⟩⟩ := HS9.out.cells
                      clear O hb CW
                      go_wp2_with fail
                      refine (b_own O3.out (N1 : Int) (by omega) (by omega)).mono ?_
                      rintro e w6 ⟨h3, rfl, O⟩
                      have CC := hide (cmp_own O 1 0 rfl rfl HL.out.1 HL.out.1)
                      rw [icmp_self] at CC
                      clear O
                      go_wp2_with fail
                      refine CC.out.mono ?_
                      rintro e w7 ⟨rfl, O⟩
                      have O5 := hide O
                      have HSA := hide (HS8.out.below O.bel)
                      obtain ⟨⟨g0, g1, g2, g3⟩, _, ⟨k0, k1⟩⟩ := HSA.out.cells
                      clear O CC O3
                      go_wp2_with fail
                      refine (b_own O5.out (N2 : Int) (by omega) (by omega)).mono ?_
                      rintro e w8 ⟨h4, rfl, O⟩
                      have CC := hide (cmp_own O 3 0 rfl rfl HL.out.2 HL.out.2)
                      rw [icmp_self] at CC
                      clear O
                      go_wp2_with fail
                      refine CC.out.mono ?_
                      rintro e w9 ⟨rfl, O⟩
                      have HSB := hide (HS8.out.below O.bel)
                      obtain ⟨⟨m0, m1, m2, m3⟩, _, ⟨o0, o1⟩⟩ := HSB.out.cells
                      have CP := hide (path_any (N1 : Int) (N2 : Int) w9)
                      clear O CC O5
                      go_wp2_with fail
                      refine CP.out.mono ?_
                      rintro e wa ⟨s2, rfl, _, hs2, hb⟩
                      rw [HPF.out] at hs2 ⊢
                      obtain ⟨l2, rfl, hl2, _⟩ := hs2 rfl
                      obtain rfl : l2 = l := node_inj _ _ (by rw [HN.out]; exact hl2)
                      rw [HPE.out]
                      simp only [fv]
                      have HSC := hide (HSB.out.below hb)
                      obtain ⟨⟨p0, p1, p2, p3⟩, _, _⟩ := HSC.out.cells
                      have HSD := hide (HSC.out.setf 0 0)
                      obtain ⟨⟨r0, r1, r2, r3⟩, _, _⟩ := HSD.out.cells
                      clear hb hs2 hl2 CP
                      go_wp2_with fail
                      go_ret
                      exact ⟨by simp, HSD.out.b⟩
                    · exact (hnf (HFit.out (i + 1) (by omega))).elim
              · as_aux_lemma =>
                have HFT := hide hft
                have HNF := hide (And.intro hi hnf)
                simp only [fv]
                clear hft hnf hi
                have HS6 := hide (TrS2.start (HS5.out.below hb) 0 0)
                obtain ⟨⟨x0, x1, x2, x3⟩, _, _⟩ := HS6.out.cells
                have HS7 := hide (HS6.out.setf 9 (i : Int))
                obtain ⟨_, ⟨y0, y1, y2, y3⟩, _⟩ := HS7.out.cells
                have HS8 := hide (HS7.out.setg 0 0)
                obtain ⟨n3, hn3⟩ : ∃ n, w3.heap.size = n := ⟨_, rfl⟩
                rw [hn3] at HS8
                clear hb HS5 CN
                go_wp2_with fail
                go_loopg [13] p.size (fun J iv wr => ∃ ii : Nat, J = p.size - ii ∧ iv = .int .i64 ii ∧ ii ≤ p.size ∧ Hid (TrS2 w wr n1 n2 n3 (9, (i : Int)) (0, 0) (0, 0)))
                case atStart => exact ⟨0, by omega, rfl, by omega, HS8.out⟩
                case round =>
                  clear HS6 HS7 HS8 x0 x1 x2 x3 y0 y1 y2 y3
                  obtain ⟨i2, hJ, rfl, hi2, HS8⟩ := hrel
                  obtain ⟨⟨a0, a1, a2, a3⟩, ⟨b0, b1, b2, b3⟩, ⟨c0, c1⟩⟩ := HS8.out.cells
                  by_cases hil : i2 < p.size
                  · obtain ⟨x, hx⟩ : ∃ x, l[i2]? = some x := ⟨l[i2]'(by rw [← HW.out.1]; exact hil), List.getElem?_eq_getElem (by rw [← HW.out.1]; exact hil)⟩
                    have e0 := HW.out.2 i2 x hil hx
                    have q1 : decide ((i2 : Int) < (p.size : Int)) = true := by rw [decide_eq_true_eq]; omega
                    have s1 : (i2 : Int) < (p.size : Int) := by omega
                    clear hx
                    cases x
                    · rw [if_neg (by decide)] at e0
                      go_wp2_with fail
                      go_roundg (p.size - (i2 + 1))
                      case measure => omega
                      case rel => exact ⟨i2 + 1, rfl, by simp, by omega, HS8⟩
                    · rw [if_pos rfl] at e0
                      go_wp2_with fail
                      go_roundg (p.size - (i2 + 1))
                      case measure => omega
                      case rel => exact ⟨i2 + 1, rfl, by simp, by omega, HS8⟩
                  · obtain rfl : i2 = p.size := by omega
                    have q1 : decide ((p.size : Int) < (p.size : Int)) = false := by simp
                    have CW := hide (walked_any p l wr HW.out HLL.out)
                    obtain ⟨W5, rfl⟩ : ∃ W5, W5 = wr := ⟨_, rfl⟩
                    go_wp2_with fail
                    refine CW.out.mono ?_
                    rintro e w5 ⟨hres, hb⟩
                    have hres2 : ∃ i : Nat, e = .returned (.tuple #[.pointer none, .pointer none, .int .i64 i]) ∧ i < l.length ∧ FitTo l i ∧ ¬ Fits (Mid.one.go (l.take (i + 1))) := by
                      rcases hres with ⟨hf, _⟩ | ⟨i4, hi4, hf4, hn4, he4⟩
                      · exact (HNF.out.2 (hf (i + 1) (by have := HNF.out.1; omega))).elim
                      · exact ⟨i4, he4, hi4, hf4, hn4⟩
                    obtain ⟨i4, rfl, hi4, hf4, hn4⟩ := hres2
                    obtain rfl : i4 = i := by
                      rcases Nat.lt_trichotomy i4 i with h | h | h
                      · exact (hn4 (HFT.out (i4 + 1) (by omega))).elim
                      · exact h
                      · exact (HNF.out.2 (hf4 (i + 1) (by omega))).elim
                    have HS9 := hide (HS8.out.below hb)
                    have K := fun W (k : Below w5.heap.size w5 W) => hide (s2_keep HS9.out k)
                    have s5 : (0 : Int) ≤ (i4 : Int) := by omega
                    clear hres hf4 hn4 hb CW a0 a1 a2 a3 b0 b1 b2 b3 c0 c1
                    go_wp2_with fail
                    go_region_held3 (fun W => (W.cell? ⟨n1, 0, none⟩ = some (.int .i64 9) ∧ W.cell? ⟨n1, 1, none⟩ = some (.int .i64 i4) ∧ W.cell? ⟨n3, 0, none⟩ = some (.int .i64 0) ∧ W.cell? ⟨n3, 1, none⟩ = some (.int .i64 0)) ∧ Hid (Below w5.heap.size w5 W)) (first | exact (K _ (below_drewN (Below.refl _ _) 1)).out | exact (K _ ((below_drewN (Below.refl _ _) 1).trans (hb.mono (Nat.le_refl _)))).out) (first | (go_at_call 14; refine (CF 9 (i4 : Int) _).out.mono ?_; rintro e w6 ⟨rfl, hb⟩))
                    all_goals
                      rename_i hS
                      have HB5 := hide (HS9.out.b.trans (hS.2.out.mono HS9.out.b.size))
                      clear hS
                      go_wp2_with fail
                      go_ret
                      exact ⟨by simp, HB5.out⟩
            · as_aux_lemma =>
              have CN := hide (node_bad p i0 wc (by omega) hbad)
              have q0 : decide ((20000 : Int) < (p.size : Int)) = false := by rw [decide_eq_false_iff_not]; omega
              have q0' : decide (20000 < p.size) = false := by rw [decide_eq_false_iff_not]; omega
              obtain ⟨⟨hi0, hb1, hb2⟩, hb3⟩ := hbad
              have HB3 := hide hb3
              have HB12 := hide (And.intro hb1 hb2)
              clear hb1 hb2 hb3
              go_wp2_with fail
              refine CN.out.mono ?_
              rintro e w3 ⟨rfl, hb⟩
              simp only [fv]
              have HS6 := hide (TrS2.start (HS5.out.below hb) 0 0)
              obtain ⟨⟨x0, x1, x2, x3⟩, _, _⟩ := HS6.out.cells
              have HS7 := hide (HS6.out.setf 1 (i0 : Int))
              obtain ⟨_, ⟨y0, y1, y2, y3⟩, _⟩ := HS7.out.cells
              have HS8 := hide (HS7.out.setg 0 0)
              obtain ⟨n3, hn3⟩ : ∃ n, w3.heap.size = n := ⟨_, rfl⟩
              rw [hn3] at HS8
              clear hb HS5 CN
              go_wp2_with fail
              go_loopg [13] (i0 + 2) (fun J iv wr => ∃ (i : Nat) (v : Int × Int), J = i0 + 2 - i ∧ iv = .int .i64 i ∧ i ≤ i0 + 1 ∧ v = (if i ≤ i0 then ((0 : Int), (0 : Int)) else (1, (i0 : Int))) ∧ Hid (TrS2 w wr n1 n2 n3 (1, (i0 : Int)) v (0, 0)))
              case atStart => exact ⟨0, (0, 0), by omega, rfl, by omega, by rw [if_pos (by omega)], HS8.out⟩
              case round =>
                clear HS6 HS7 HS8 x0 x1 x2 x3 y0 y1 y2 y3
                obtain ⟨i, v, hJ, rfl, hi, hv, HS8⟩ := hrel
                by_cases hii : i ≤ i0
                · rw [if_pos hii] at hv
                  subst hv
                  obtain ⟨⟨a0, a1, a2, a3⟩, ⟨b0, b1, b2, b3⟩, ⟨c0, c1⟩⟩ := HS8.out.cells
                  have q1 : decide ((i : Int) < (p.size : Int)) = true := by rw [decide_eq_true_eq]; omega
                  have s1 : (i : Int) < (p.size : Int) := by omega
                  by_cases hil : i < i0
                  · rcases HB3.out i (by omega) hil with e0 | e0
                    · go_wp2_with fail
                      go_roundg (i0 + 2 - (i + 1))
                      case measure => omega
                      case rel => exact ⟨i + 1, (0, 0), rfl, by simp, by omega, by rw [if_pos (by omega)], HS8⟩
                    · go_wp2_with fail
                      go_roundg (i0 + 2 - (i + 1))
                      case measure => omega
                      case rel => exact ⟨i + 1, (0, 0), rfl, by simp, by omega, by rw [if_pos (by omega)], HS8⟩
                  · obtain rfl : i = i0 := by omega
                    obtain ⟨c, hc⟩ : ∃ c, (p[i]'hi0).toNat = c := ⟨_, rfl⟩
                    have hc1 := HB12.out.1
                    have hc2 := HB12.out.2
                    rw [hc] at hc1 hc2
                    have r1 : ((c : Int) != 76) = true := by simp; omega
                    have r2 : ((c : Int) != 82) = true := by simp; omega
                    have r3 : (c != 76) = true := by simpa using hc1
                    have r4 : (c != 82) = true := by simpa using hc2
                    clear hc1 hc2
                    go_wp2_with fail
                    refine (CF 1 (i : Int) _).out.mono ?_
                    rintro e w4 ⟨rfl, hb⟩
                    have HS9 := hide (HS8.out.below hb)
                    obtain ⟨_, ⟨z0, z1, z2, z3⟩, _⟩ := HS9.out.cells
                    have HSA := hide (HS9.out.setg 1 (i : Int))
                    clear hb
                    go_wp2_with fail
                    go_roundg 1
                    case measure => omega
                    case rel => exact ⟨i + 1, (1, (i : Int)), by omega, by simp, by omega, by rw [if_neg (by omega)], HSA⟩
                · obtain rfl : i = i0 + 1 := by omega
                  rw [if_neg hii] at hv
                  subst hv
                  obtain ⟨⟨a0, a1, a2, a3⟩, ⟨b0, b1, b2, b3⟩, ⟨c0, c1⟩⟩ := HS8.out.cells
                  by_cases hie : i0 + 1 < p.size
                  · have q1 : decide (((i0 + 1 : Nat) : Int) < (p.size : Int)) = true := by rw [decide_eq_true_eq]; omega
                    have q2 : decide ((i0 : Int) + 1 < (p.size : Int)) = true := by rw [decide_eq_true_eq]; omega
                    go_wp2_with fail
                    go_ret
                    exact ⟨by simp, HS8.out.b⟩
                  · have q1 : decide (((i0 + 1 : Nat) : Int) < (p.size : Int)) = false := by rw [decide_eq_false_iff_not]; omega
                    have q2 : decide ((i0 : Int) + 1 < (p.size : Int)) = false := by rw [decide_eq_false_iff_not]; omega
                    go_wp2_with fail
                    go_ret
                    exact ⟨by simp, HS8.out.b⟩
end Go.Proofs.YticgnjapgbjfiaaDoor
