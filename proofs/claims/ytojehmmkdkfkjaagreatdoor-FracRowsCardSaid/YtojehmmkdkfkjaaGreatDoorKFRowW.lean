/- The walk of frac.Row. -/
import Derived.Test.YtojehmmkdkfkjaaGreatDoorKFNextW
import Derived.Deep.OwnRows
import Derived.Laws.OwnMore
import Derived.OwnWalk
import Derived.Sort.OwnSortedInts
import Derived.Deep.Onto
namespace Go.Proofs.YtojehmmkdkfkjaaGreatDoor
open Go.RowKit
open FA

theorem info_partsQ {P : Program} {e : TypeId} {z : Value} {size bytes : Nat} (h : (P.info? e).map (fun i => (i.zero, i.size, i.bytes)) = some (some z, size, bytes)) : ∃ i, P.info? e = some i ∧ i.zero = some z ∧ i.size = size ∧ i.bytes = bytes := by
  obtain ⟨i, hi, hzz⟩ := Option.map_eq_some_iff.1 h
  simp only [Prod.mk.injEq] at hzz
  exact ⟨i, hi, hzz.1, hzz.2.1, hzz.2.2⟩
theorem qinfo : (Tryz.prog.info? 23).map (fun i => (i.zero, i.size, i.bytes)) = some (some (.agg #[.int .i64 0, .int .i64 0]), 2, 16) := by kernel_rfl
/-- a fraction's cells -/
def encQ (x : Int × Int) : List Value := [.int .i64 x.1, .int .i64 x.2]
/-- a slice of fractions that a call has made -/
def QRow (w : World) (base : Nat) (v : Value) (L : List (Int × Int)) : Prop := w.ownsRow base 23 2 v L.length (L.flatMap encQ)
theorem QRow.below {w w' : World} {base : Nat} {v : Value} {L : List (Int × Int)} (h : QRow w base v L) (k : Below w.heap.size w w') : QRow w' base v L := by
  obtain ⟨h1, h2⟩ := h
  refine ⟨h1, ?_⟩
  rcases h2 with h2 | ⟨g, cap, cur, hv, hg, hh, r⟩
  · exact .inl h2
  · exact .inr ⟨g, cap, cur, hv, hg, (k.block g (heap_lt hh)).trans hh, r⟩
theorem QRow.off {w : World} {base q : Nat} {v : Value} {L : List (Int × Int)} (h : QRow w base v L) (hq : ∀ k, v.ownBlock = some k → k ≠ q) (i : Nat) (u : Value) : QRow (w.setCell ⟨q, i, none⟩ u) base v L := by
  obtain ⟨h1, h2⟩ := h
  refine ⟨h1, ?_⟩
  rcases h2 with h2 | ⟨k, cap, cur, hv, hk, hh, z⟩
  · exact .inl h2
  · exact .inr ⟨k, cap, cur, hv, hk, by rw [Below.heap_setCell _ _ _ _ (hq k (by rw [hv]; rfl))]; exact hh, z⟩
theorem QRow.own {w : World} {base : Nat} {v : Value} {L : List (Int × Int)} (h : QRow w base v L) : ∀ k, v.ownBlock = some k → base ≤ k ∧ k < w.heap.size := fun k hk => h.lt k hk
theorem QRow.grow {w : World} {base : Nat} {v : Value} {L : List (Int × Int)} {x y : Int} (h : w.ownsRow base 23 2 v (L.length + 1) (L.flatMap encQ ++ [.int .i64 x, .int .i64 y])) : QRow w base v (L ++ [(x, y)]) := by
  unfold QRow
  rw [List.length_append, List.flatMap_append]
  exact h
theorem encQ_get (L : List (Int × Int)) (i : Nat) (t : Int × Int) (h : L[i]? = some t) : (L.flatMap encQ)[i * 2]? = some (.int .i64 t.1) ∧ (L.flatMap encQ)[i * 2 + 1]? = some (.int .i64 t.2) := by
  induction L generalizing i with
  | nil => simp at h
  | cons g l ih =>
    rw [List.flatMap_cons]
    have hl : (encQ g).length = 2 := rfl
    cases i with
    | zero => simp at h; subst h; simp [encQ]
    | succ i =>
      simp at h
      obtain ⟨h1, h2⟩ := ih i h
      constructor
      · rw [List.getElem?_append_right (by rw [hl]; omega), hl, show (i + 1) * 2 - 2 = i * 2 from by omega]; exact h1
      · rw [List.getElem?_append_right (by rw [hl]; omega), hl, show (i + 1) * 2 + 1 - 2 = i * 2 + 1 from by omega]; exact h2
theorem QRow.open_ {w : World} {base : Nat} {v : Value} {L : List (Int × Int)} (h : QRow w base v L) : ∃ A c, v = .slice A L.length c ∧ ∀ (j : Nat) (t : Int × Int), L[j]? = some t → ∃ g, A = some ⟨g, 0, none⟩ ∧ g < w.heap.size ∧ w.cell? ⟨g, j * 2, none⟩ = some (.int .i64 t.1) ∧ w.cell? ⟨g, j * 2 + 1, none⟩ = some (.int .i64 t.2) := by
  have hc := fun g (hg : v.ownBlock = some g) => h.cells hg
  obtain ⟨_, h2⟩ := h
  rcases h2 with ⟨rfl, h2⟩ | ⟨g, cap, cur, rfl, hg, hh, _⟩
  · rw [List.eq_nil_of_length_eq_zero h2]
    exact ⟨none, 0, rfl, fun j f hf => by simp at hf⟩
  · refine ⟨_, cap, rfl, fun j f hf => ⟨g, rfl, heap_lt hh, ?_⟩⟩
    obtain ⟨h1, h2⟩ := encQ_get L j f hf
    have hcc := hc g rfl
    have ea : ∀ k, (⟨g, 0, none⟩ : Addr).add k = ⟨g, k, none⟩ := by
      intro k
      by_cases hk : k = 0 <;> simp [Addr.add, hk]
    have e : ∀ k u, (L.flatMap encQ)[k]? = some u → w.cell? ⟨g, k, none⟩ = some u := fun k u h => by rw [← ea]; exact hcc k u h
    exact ⟨e _ _ h1, e _ _ h2⟩
theorem two_newQ (W : World) (a b : Value) (T : TypeId) : ∀ (j : Nat) (u : Value), [a, b][j]? = some u → (W.alloc (.cells #[a, b] T)).cell? ((⟨W.heap.size, 0, none⟩ : Addr).add j) = some u := by
  intro j u hu
  have hb : (W.alloc (.cells #[a, b] T)).heap[W.heap.size]? = some (.cells #[a, b] T (0, 0)) := blk_new _ _ _
  generalize W.alloc (.cells #[a, b] T) = W2 at hb
  generalize W.heap.size = g at hb
  match j, hu with
  | 0, hu => simp at hu; subst hu; simp [World.cell?, Addr.add, hb]
  | 1, hu => simp at hu; subst hu; simp [World.cell?, Addr.add, hb]

/-- the first t + 2 fractions of the row -/
def ci (a : Nat × Nat) : Int × Int := ((a.1 : Int), (a.2 : Int))
def rl (n : Nat) : Nat → List (Int × Int)
  | 0 => [(0, 1), (1, (n : Int))]
  | t + 1 => rl n t ++ [ci (fs n (t + 1)).2]
theorem rl_len (n t : Nat) : (rl n t).length = t + 2 := by
  induction t with
  | zero => rfl
  | succ t ih => rw [rl, List.length_append, ih]; rfl
theorem rl_get (n : Nat) : ∀ t j : Nat, j ≤ t → (rl n t)[j]? = some (ci (fs n j).1) ∧ (rl n t)[j + 1]? = some (ci (fs n j).2) := by
  intro t
  induction t with
  | zero =>
    intro j hj
    obtain rfl : j = 0 := by omega
    exact ⟨rfl, rfl⟩
  | succ t ih =>
    intro j hj
    rw [rl]
    by_cases h : j ≤ t
    · obtain ⟨a, b⟩ := ih j h
      exact ⟨by rw [List.getElem?_append_left (by rw [rl_len]; omega)]; exact a, by rw [List.getElem?_append_left (by rw [rl_len]; omega)]; exact b⟩
    · obtain rfl : j = t + 1 := by omega
      constructor
      · rw [List.getElem?_append_left (by rw [rl_len]; omega)]
        exact (ih t (Nat.le_refl _)).2
      · rw [List.getElem?_append_right (by rw [rl_len]; omega), rl_len]
        simp
/-- what Row hands back -/
def RetRow (w : World) (n : Nat) : Ending → World → Prop := fun e w' => ∃ v, e = .returned (.tuple #[v, .agg #[.int .i64 0, .int .i64 0]]) ∧ QRow w' w.heap.size v (rl n (phis n - 1)) ∧ Below w.heap.size w w'

set_option maxRecDepth 100000 in
set_option maxHeartbeats 1600000 in
theorem row_bad (n : Int) (w : World) (h : n < 1 ∨ 50 < n) : Calls Tryz.prog 9 #[.int .i64 n] w fun e w' => e = .returned (.tuple #[.slice none 0 0, .agg #[.int .i64 3, .int .i64 0]]) ∧ Below w.heap.size w w' := by
  have CE := fun W => hide (ffault_any 3 0 W)
  have H0 := hide (FC.made w 0 0)
  have B0 := hide (bel_new w (.cells #[.int .i64 0, .int .i64 0] 25))
  have hc : decide (n < 1) = true ∨ (decide (n < 1) = false ∧ decide (50 < n) = true) := by
    by_cases h0 : n < 1
    · left; simpa using h0
    · right
      refine ⟨by simpa using h0, ?_⟩
      simp; omega
  clear h
  go_enter Tryz.func9, Tryz.ntmps9
  go_upto_region 1 with (fail)
  obtain ⟨W0, hW⟩ : ∃ Z, w.alloc (.cells #[.int .i64 0, .int .i64 0] 25) = Z := ⟨_, rfl⟩
  rw [hW] at H0 B0
  (try rw [hW])
  clear hW
  rcases hc with h0 | ⟨h0, h1⟩
  all_goals
    go_wp2_with fail
    refine (CE _).out.mono ?_
    rintro e w1 ⟨rfl, hb⟩
    have H1 := H0.out.below hb
    obtain ⟨e0, e1, e2, e3⟩ := H1.cells
    have HB := hide (B0.out.trans (hb.mono B0.out.size))
    have HP := hide (H1.put 3 0)
    have HS := hide ((H1.set0 3).set1 0)
    clear hb CE
    go_wp2_with fail
    obtain ⟨G0, G1, _, _⟩ := HS.out.cells
    exact bodyPost_ret (v := .tuple #[.slice none 0 0, .agg #[.int .i64 3, .int .i64 0]]) (by simp [results, Tryz.results9, go_sem, G0, G1]) rfl ⟨rfl, (HB.out.setCell (p := ⟨w.heap.size, 0, none⟩) (Nat.le_refl _) _).setCell (p := ⟨w.heap.size, 1, none⟩) (Nat.le_refl _) _⟩

/-- Row's memory at its loop -/
structure RS (w W : World) (q : Nat) (v : Value) (n t : Nat) : Prop where
  e : FC W w.heap.size 0 0
  r : QRow W (w.heap.size + 1) v (rl n t)
  l : QC W q (ci (fs n t).2).1 (ci (fs n t).2).2
  o : ∀ k, v.ownBlock = some k → k < q
  b : Below w.heap.size w W
theorem RS.q {w W : World} {q : Nat} {v : Value} {n t : Nat} (h : RS w W q v n t) : w.heap.size < q := by
  obtain ⟨A, c, hv, ha⟩ := h.r.open_
  obtain ⟨g, rfl, _⟩ := ha 0 _ (rl_get n t 0 (Nat.zero_le _)).1
  have := h.o g (by rw [hv]; rfl)
  have := (h.r.own g (by rw [hv]; rfl)).1
  omega

set_option maxRecDepth 100000 in
set_option maxHeartbeats 3200000 in
theorem row_ok (n : Nat) (w : World) (h1 : 1 ≤ n) (h2 : n ≤ 50) : Calls Tryz.prog 9 #[.int .i64 n] w (RetRow w n) := by
  obtain ⟨R1, R2, R3⟩ := rows h1 h2
  have HR := hide (And.intro R1 (And.intro R2 R3))
  obtain ⟨i0, hi, hz0, hz1, hz2⟩ := info_partsQ qinfo
  have HI := hide (And.intro hi (And.intro hz0 (And.intro hz1 hz2)))
  have c1 : decide ((n : Int) < 1) = false := by simp; omega
  have c2 : decide ((50 : Int) < (n : Int)) = false := by simp; omega
  have HPH := hide (phis_pos h1)
  have HN := hide (And.intro h1 h2)
  have H0 := hide (FC.made w 0 0)
  have B0 := hide (bel_new w (.cells #[.int .i64 0, .int .i64 0] 25))
  have HT : Hid (phis n ≤ 1000000) := by
    unfold Hid
    have : ∀ m, phis m ≤ m * m := by
      intro m
      induction m with
      | zero => decide
      | succ m ih =>
        rw [phis]
        have : phiN (m + 1) ≤ m + 1 := by
          unfold phiN
          exact Nat.le_trans (List.length_filter_le _ _) (by rw [List.length_range]; exact Nat.le_refl _)
        have e : (m + 1) * (m + 1) = m * m + 2 * m + 1 := by grind
        omega
    have := this n
    have := Nat.mul_le_mul h2 h2
    omega
  clear h1 h2 R1 R2 R3 hi hz0 hz1 hz2
  go_enter Tryz.func9, Tryz.ntmps9
  go_upto_region 1 with (fail)
  have hsz : (w.alloc (.cells #[.int .i64 0, .int .i64 0] 25)).heap.size = w.heap.size + 1 := World.size_alloc ..
  obtain ⟨W0, hW⟩ : ∃ Z, w.alloc (.cells #[.int .i64 0, .int .i64 0] 25) = Z := ⟨_, rfl⟩
  rw [hW] at H0 B0 hsz
  (try rw [hW])
  clear hW
  go_upto_region 4 with (fail)
  have hrow : QRow (W0.alloc (.cells #[.int .i64 0, .int .i64 1, .int .i64 1, .int .i64 n] 23)) (w.heap.size + 1) (.slice (some ⟨w.heap.size + 1, 0, none⟩) 2 2) (rl n 0) := by
    have := World.ownsRow_lit (base := w.heap.size + 1) (e := 23) (size := 2) W0 #[.int .i64 0, .int .i64 1, .int .i64 1, .int .i64 n] 2 (by omega) (by simp [maxLen]) rfl
    rw [hsz] at this
    exact this
  have hblk : (W0.alloc (.cells #[.int .i64 0, .int .i64 1, .int .i64 1, .int .i64 n] 23)).heap[w.heap.size + 1]? = some (.cells #[.int .i64 0, .int .i64 1, .int .i64 1, .int .i64 n] 23 (0, 0)) := by
    rw [← hsz]; exact blk_new _ _ _
  have hsz2 : (W0.alloc (.cells #[.int .i64 0, .int .i64 1, .int .i64 1, .int .i64 n] 23)).heap.size = w.heap.size + 1 + 1 := by rw [World.size_alloc, hsz]
  have hF1 := H0.out.below (bel_new W0 (.cells #[.int .i64 0, .int .i64 1, .int .i64 1, .int .i64 n] 23))
  have hB1 := B0.out.alloc (by omega) (.cells #[.int .i64 0, .int .i64 1, .int .i64 1, .int .i64 n] 23)
  obtain ⟨W1, hW1⟩ : ∃ Z, W0.alloc (.cells #[.int .i64 0, .int .i64 1, .int .i64 1, .int .i64 n] 23) = Z := ⟨_, rfl⟩
  rw [hW1] at hrow hblk hsz2 hF1 hB1
  (try rw [hW1])
  have x2 : W1.cell? ⟨w.heap.size + 1, 2, none⟩ = some (.int .i64 1) := by simp [World.cell?, hblk]
  have x3 : W1.cell? ⟨w.heap.size + 1, 3, none⟩ = some (.int .i64 (n : Int)) := by simp [World.cell?, hblk]
  have HS0 : Hid (RS w (W1.alloc (.cells #[.int .i64 1, .int .i64 n] 23)) (w.heap.size + 1 + 1) (.slice (some ⟨w.heap.size + 1, 0, none⟩) 2 2) n 0) := by
    have hl := QC.made W1 1 (n : Int)
    rw [hsz2] at hl
    exact hide ⟨hF1.below (bel_new _ _), hrow.below (bel_new _ _), hl, fun k hk => by simp [Value.ownBlock] at hk; omega, hB1.alloc hB1.size _⟩
  clear hrow hblk hF1 hB1 hW1 H0 B0 hsz
  obtain ⟨T, hT⟩ : ∃ T, phis n - 1 = T := ⟨_, rfl⟩
  rw [hT] at HR
  have HTT := hide hT
  clear hT
  go_wp2_with fail
  obtain ⟨W2, hW2⟩ : ∃ Z, W1.alloc (.cells #[.int .i64 1, .int .i64 n] 23) = Z := ⟨_, rfl⟩
  rw [hW2] at HS0
  (try rw [hW2])
  clear hW2 x2 x3 hsz2
  go_loopg [4, 5] T (fun M ov pv wr => ∃ t q : Nat, M = T - t ∧ t ≤ T ∧ pv = .pointer (some ⟨q, 0, none⟩) ∧ Hid (RS w wr q ov n t))
  case atStart => exact ⟨0, _, rfl, by omega, rfl, HS0⟩
  case round =>
    clear HS0
    obtain ⟨t, q, rfl, ht, rfl, HS⟩ := hrel
    obtain ⟨wo, rfl⟩ : ∃ Z, Z = wr := ⟨_, rfl⟩
    obtain ⟨l0, l1, l2, l3⟩ := HS.out.l.cells
    by_cases htT : t < T
    · have hfq := HR.out.2.1 t htT
      have hfp := HR.out.1 t ht
      have hfp1 := HR.out.1 (t + 1) htT
      have ha12 : (fs n t).1.1 ≤ n ∧ (fs n t).1.2 ≤ n := by
        have hn := HN.out
        cases t with
        | zero => exact ⟨by show (0 : Nat) ≤ n; omega, by show 1 ≤ n; omega⟩
        | succ s => have := HR.out.1 s (by omega); exact ⟨this.up, this.hi⟩
      obtain ⟨oA, oc, rfl, hcell⟩ := HS.out.r.open_
      obtain ⟨gr, rfl, hgl, ca, cb⟩ := hcell t _ (rl_get n t t (Nat.le_refl _)).1
      have HRL : Hid (rl n (t + 1) = rl n t ++ [ci (fs n (t + 1)).2]) := hide rfl
      have hfs : (fs n (t + 1)).2 = fstep n (fs n t).1 (fs n t).2 := rfl
      have hfs1 : (fs n (t + 1)).1 = (fs n t).2 := rfl
      rw [hfs1] at hfp1
      obtain ⟨⟨a1, a2⟩, ha⟩ : ∃ a, (fs n t).1 = a := ⟨_, rfl⟩
      obtain ⟨⟨b1, b2⟩, hb⟩ : ∃ b, (fs n t).2 = b := ⟨_, rfl⟩
      obtain ⟨⟨x, y⟩, hx⟩ : ∃ x, (fs n (t + 1)).2 = x := ⟨_, rfl⟩
      rw [hx, ha, hb] at hfs
      rw [hx] at hfp1 HRL
      rw [ha] at hfq hfp ha12 ca cb
      rw [hb] at hfq hfp hfp1 l0 l1
      have HX := hide hx
      obtain ⟨K, hK⟩ : ∃ K, (n + a2) / b2 = K := ⟨_, rfl⟩
      have hk1 : a1 ≤ K * b1 := by rw [← hK]; exact hfq.k1
      have hk2 : a2 ≤ K * b2 := by rw [← hK]; exact hfq.k2
      have hxe : x = K * b1 - a1 ∧ y = K * b2 - a2 := by
        unfold fstep at hfs
        simp only [hK] at hfs
        injection hfs with e1 e2
        exact ⟨e1, e2⟩
      have hb2 : 1 ≤ b2 := hfp.lo
      have hb2n : b2 ≤ n := hfp.hi
      have hb1n : b1 ≤ n := hfp.up
      have hxn : x ≤ n := hfp1.up
      have hyn : y ≤ n := hfp1.hi
      have hn50 := HN.out.2
      have ha1n : a1 ≤ n := ha12.1
      have ha2n : a2 ≤ n := ha12.2
      have hKl : K ≤ 100 := by rw [← hK]; exact Nat.le_trans (Nat.div_le_self _ _) (by omega)
      have hne : b1 ≠ 1 ∨ b2 ≠ 1 := by
        by_cases h : b1 = 1
        · right; intro h2; exact hfq.ne (by rw [h, h2])
        · exact .inl h
      have hkb1 : K * b1 = x + a1 := by omega
      have hkb2 : K * b2 = y + a2 := by omega
      obtain ⟨N, hN⟩ : ∃ N, (rl n t).length = N := ⟨_, rfl⟩
      have hNt : N = t + 2 := by rw [← hN, rl_len]
      have ht6 : t ≤ 1000000 := by have := HT.out; have := HTT.out; omega
      rw [hN]
      have HNN := hide hN
      have J0 : wrap64 ((N : Int) - 2) = (t : Int) := by unfold wrap64; omega
      have J0' : (t : Int) < (N : Int) := by omega
      have hcast1 : (K : Int) * (b1 : Int) = (x : Int) + (a1 : Int) := by exact_mod_cast hkb1
      have hcast2 : (K : Int) * (b2 : Int) = (y : Int) + (a2 : Int) := by exact_mod_cast hkb2
      have hdiv : ((n : Int) + (a2 : Int)) / (b2 : Int) = (K : Int) := by rw [← hK]; exact_mod_cast rfl
      have hne' : ¬ (b1 : Int) = 1 ∨ ¬ (b2 : Int) = 1 := by omega
      have hb0 : ¬ (b2 : Int) = 0 := by omega
      obtain ⟨A1, hA1⟩ : ∃ A : Int, (a1 : Int) = A := ⟨_, rfl⟩
      obtain ⟨A2, hA2⟩ : ∃ A : Int, (a2 : Int) = A := ⟨_, rfl⟩
      obtain ⟨B1, hB1⟩ : ∃ A : Int, (b1 : Int) = A := ⟨_, rfl⟩
      obtain ⟨B2, hB2⟩ : ∃ A : Int, (b2 : Int) = A := ⟨_, rfl⟩
      obtain ⟨X, hX⟩ : ∃ A : Int, (x : Int) = A := ⟨_, rfl⟩
      obtain ⟨Y, hY⟩ : ∃ A : Int, (y : Int) = A := ⟨_, rfl⟩
      obtain ⟨KK, hKK⟩ : ∃ A : Int, (K : Int) = A := ⟨_, rfl⟩
      obtain ⟨S, hS⟩ : ∃ A : Int, (n : Int) + A2 = A := ⟨_, rfl⟩
      have ca' : wo.cell? ⟨gr, t * 2, none⟩ = some (.int .i64 A1) := by rw [← hA1]; exact ca
      have cb' : wo.cell? ⟨gr, t * 2 + 1, none⟩ = some (.int .i64 A2) := by rw [← hA2]; exact cb
      have l0' : wo.cell? ⟨q, 0, none⟩ = some (.int .i64 B1) := by rw [← hB1]; exact l0
      have l1' : wo.cell? ⟨q, 1, none⟩ = some (.int .i64 B2) := by rw [← hB2]; exact l1
      rw [hKK, hB1, hX, hA1] at hcast1
      rw [hKK, hB2, hY, hA2] at hcast2
      rw [hA2, hB2, hKK, hS] at hdiv
      rw [hB1, hB2] at hne'
      rw [hB2] at hb0
      have J1 : wrap64 ((n : Int) + A2) = S := by rw [hS]; unfold wrap64; omega
      have J2 : S.tdiv B2 = KK := by rw [Int.tdiv_eq_ediv_of_nonneg (by omega)]; exact hdiv
      have J3 : wrap64 KK = KK := by unfold wrap64; omega
      have J4 : wrap64 (KK * B1) = X + A1 := by rw [hcast1]; unfold wrap64; omega
      have J5 : wrap64 (X + A1 - A1) = X := by unfold wrap64; omega
      have J6 : wrap64 (KK * B2) = Y + A2 := by rw [hcast2]; unfold wrap64; omega
      have J7 : wrap64 (Y + A2 - A2) = Y := by unfold wrap64; omega
      have J8 : X + A1 - A1 = X := by omega
      have J9 : Y + A2 - A2 = Y := by omega
      have J10 : wrap64 X = X := by unfold wrap64; omega
      have J11 : wrap64 Y = Y := by unfold wrap64; omega
      have HRL2 : Hid (rl n (t + 1) = rl n t ++ [(X, Y)]) := by
        have h := HRL.out
        unfold ci at h
        simp only at h
        rw [hX, hY] at h
        exact hide h
      have HCI : Hid (ci (fs n (t + 1)).2 = (X, Y)) := by
        unfold Hid ci
        rw [HX.out]
        simp only
        rw [hX, hY]
      have HTL := hide htT
      have HNB := hide (show N + 2 ≤ 2000000 from by omega)
      clear ca cb l0 l1 hfs hfs1 hfp hfq hfp1 ha12 ha hb hx HX HRL hK hk1 hk2 hxe hb2 hb2n hb1n hxn hyn hn50 ha1n ha2n hKl hne hkb1 hkb2 hN hNt ht6 hcast1 hcast2 hdiv hA1 hA2 hB1 hB2 hX hY hKK hS hcell
      rcases hne' with hne' | hne'
      all_goals
        go_upto_region 7 with (fail)
        have hqa := QC.made wo A1 A2
        have hF6 := HS.out.e.below (bel_new wo (.cells #[.int .i64 A1, .int .i64 A2] 23))
        have hR6 := HS.out.r.below (bel_new wo (.cells #[.int .i64 A1, .int .i64 A2] 23))
        rw [HNN.out] at hR6
        have hL6 := HS.out.l.below (bel_new wo (.cells #[.int .i64 A1, .int .i64 A2] 23))
        have hB6 := HS.out.b.alloc HS.out.b.size (.cells #[.int .i64 A1, .int .i64 A2] 23)
        have hqm := HS.out.q
        have hgq : gr < q := HS.out.o gr rfl
        have hgm := (HS.out.r.own gr rfl).1
        have hql := HS.out.l.lt
        have c0 := ca'
        have c1 := cb'
        obtain ⟨p6, hp6⟩ : ∃ p, wo.heap.size = p := ⟨_, rfl⟩
        obtain ⟨W6, hW6⟩ : ∃ Z, wo.alloc (.cells #[.int .i64 A1, .int .i64 A2] 23) = Z := ⟨_, rfl⟩
        rw [hW6, hp6] at hqa
        rw [hW6] at hF6 hR6 hL6 hB6
        (try rw [hW6])
        (try rw [hp6])
        have m0 : W6.cell? ⟨q, 0, none⟩ = some (.int .i64 B1) := by
          rw [← hW6]
          exact ((bel_new wo (.cells #[.int .i64 A1, .int .i64 A2] 23)).cell (p := ⟨q, 0, none⟩) hql).trans l0'
        have m1 : W6.cell? ⟨q, 1, none⟩ = some (.int .i64 B2) := by
          rw [← hW6]
          exact ((bel_new wo (.cells #[.int .i64 A1, .int .i64 A2] 23)).cell (p := ⟨q, 1, none⟩) hql).trans l1'
        obtain ⟨_, _, m2, m3⟩ := hL6.cells
        obtain ⟨z0, z1, _, _⟩ := hqa.cells
        have HF7 : Hid (FC ((W6.setCell ⟨q, 0, none⟩ (.int .i64 X)).setCell ⟨q, 1, none⟩ (.int .i64 Y)) w.heap.size 0 0) := hide ((Below.heap_setCell (W6.setCell ⟨q, 0, none⟩ (.int .i64 X)) ⟨q, 1, none⟩ (.int .i64 Y) w.heap.size (by simp; omega)).trans ((Below.heap_setCell W6 ⟨q, 0, none⟩ (.int .i64 X) w.heap.size (by simp; omega)).trans hF6))
        have HR7 := hide ((hR6.off (q := q) (fun k hk => by simp [Value.ownBlock] at hk; omega) 0 (.int .i64 X)).off (q := q) (fun k hk => by simp [Value.ownBlock] at hk; omega) 1 (.int .i64 Y))
        have HL7 := hide (hL6.put X Y)
        have HB7 := hide ((hB6.setCell (p := ⟨q, 0, none⟩) (Nat.le_of_lt hqm) (.int .i64 X)).setCell (p := ⟨q, 1, none⟩) (Nat.le_of_lt hqm) (.int .i64 Y))
        have HLT := hide (And.intro hqm (And.intro hgq hgm))
        clear hF6 hR6 hL6 hB6 hqa hW6 hp6 hqm hgq hgm ca' cb' l0' l1' HS hql c0 c1
        go_upto_region 9 with (fail)
        obtain ⟨W7, hW7⟩ : ∃ Z, (W6.setCell ⟨q, 0, none⟩ (.int .i64 X)).setCell ⟨q, 1, none⟩ (.int .i64 Y) = Z := ⟨_, rfl⟩
        rw [hW7] at HF7 HR7 HL7 HB7
        (try rw [hW7])
        clear hW7 m0 m1 m2 m3 z0 z1 J0 J0' J1 J2 J3 J4 J5 J6 J7 J8 J9 J10 J11 hne' hb0
        obtain ⟨m0, m1, m2, m3⟩ := HL7.out.cells
        go_wp2_with (at_builtin; refine wpList_append_own _ rfl _ _ 32 rfl (w.heap.size + 1) 23 i0 (.agg #[.int .i64 0, .int .i64 0]) 2 16 Tryz.underlying32 HI.out.1 HI.out.2.1 HI.out.2.2.1 HI.out.2.2.2 rfl (by decide) (.slice (some ⟨gr, 0, none⟩) N oc) _ _ rfl (HR7.out.below (bel_new W7 (.cells #[.int .i64 X, .int .i64 Y] 23))) ⟨W7.heap.size, 0, none⟩ 1 1 [.int .i64 X, .int .i64 Y] rfl rfl (two_newQ _ _ _ _) ?c2 ?c3 ?c4 ?c5 ?_)
        case c2 => intro u hu; simp at hu; rcases hu with rfl | rfl <;> rfl
        case c3 => have := HNB.out; rw [HNN.out]; simp only [maxLen]; omega
        case c4 => have := HNB.out; rw [HNN.out]; omega
        case c5 => have h1 := HL7.out.lt; have h2 := HLT.out.1; simp only [World.size_alloc]; omega
        intro v' w9 hown hg _
        have hr9 : QRow w9 (w.heap.size + 1) v' (rl n (t + 1)) := by
          rw [HRL2.out]
          exact QRow.grow hown
        have hL8 := HL7.out.below (bel_new W7 (.cells #[.int .i64 X, .int .i64 Y] 23))
        have hF8 := HF7.out.below (bel_new W7 (.cells #[.int .i64 X, .int .i64 Y] 23))
        have hL9 : QC w9 q X Y := (hg.block q hL8.lt (by intro e; simp [Value.ownBlock] at e; have := HLT.out; omega)).trans hL8
        have hF9 : FC w9 w.heap.size 0 0 := (hg.block _ hF8.lt (by intro e; simp [Value.ownBlock] at e; have := HLT.out; omega)).trans hF8
        have hB9 : Below w.heap.size w w9 := (HB7.out.alloc HB7.out.size (.cells #[.int .i64 X, .int .i64 Y] 23)).grown hg (by have := HB7.out.size; simp only [World.size_alloc]; omega) (fun k hk => by simp [Value.ownBlock] at hk; have := HLT.out; omega)
        have HRS : Hid (RS w (w9.alloc (.cells #[.int .i64 X, .int .i64 Y] 23)) w9.heap.size v' n (t + 1)) := by
          have hq9 := QC.made w9 X Y
          refine hide ⟨hF9.below (bel_new _ _), hr9.below (bel_new _ _), ?_, fun k hk => (hr9.own k hk).2, hB9.alloc hB9.size _⟩
          rw [HCI.out]
          exact hq9
        obtain ⟨m0, m1, m2, m3⟩ := hL9.cells
        clear hown hg hr9 hL8 hF8 hL9 hF9 hB9 HF7 HR7 HL7 HB7
        go_wp2_with fail
        go_roundg (T - (t + 1))
        case measure => have := HTL.out; omega
        case rel => exact ⟨t + 1, _, rfl, HTL.out, rfl, HRS⟩
    · obtain rfl : t = T := by omega
      rw [HR.out.2.2] at l0 l1
      have l0' : wo.cell? ⟨q, 0, none⟩ = some (.int .i64 1) := l0
      have l1' : wo.cell? ⟨q, 1, none⟩ = some (.int .i64 1) := l1
      obtain ⟨e0, e1, e2, e3⟩ := HS.out.e.cells
      have HF := hide ((HS.out.e.set0 0).set1 0)
      have HQ := hide (show QRow ((wo.setCell ⟨w.heap.size, 0, none⟩ (.int .i64 0)).setCell ⟨w.heap.size, 1, none⟩ (.int .i64 0)) w.heap.size u4 (rl n (phis n - 1)) from by
        have hne : ∀ k, Value.ownBlock u4 = some k → k ≠ w.heap.size := fun k hk => by have := (HS.out.r.own k hk).1; omega
        rw [HTT.out]
        exact World.ownsRow.mono ((HS.out.r.off hne 0 (.int .i64 0)).off hne 1 (.int .i64 0)) (Nat.le_succ _))
      have HB := hide ((HS.out.b.setCell (p := ⟨w.heap.size, 0, none⟩) (Nat.le_refl _) (.int .i64 0)).setCell (p := ⟨w.heap.size, 1, none⟩) (Nat.le_refl _) (.int .i64 0))
      clear l0 l1 htT ht HR HS
      go_wp2_with fail
      obtain ⟨G0, G1, _, _⟩ := HF.out.cells
      exact bodyPost_ret (v := .tuple #[u4, .agg #[.int .i64 0, .int .i64 0]]) (by simp [results, Tryz.results9, go_sem, G0, G1]) rfl ⟨u4, rfl, HQ.out, HB.out⟩
end Go.Proofs.YtojehmmkdkfkjaaGreatDoor
