/- The walks of the answers' MarkovIs, MarkovOf and Threes, and of the law's ahead. -/
import Derived.Test.YtgocnjklpafabaaMarkW
import Derived.Test.YtgocnjklpafabaaOwn
import Derived.Deep.RegionHeld3
import Derived.ChangeKeysEq
namespace Go.Proofs.Ytgocnjklpafabaa
open Go.RowKit

theorem at0 {α : Type} {a : α} {l : List α} : (a :: l)[0]? = some a := rfl
theorem at1 {α : Type} {a b : α} {l : List α} : (a :: b :: l)[1]? = some b := rfl
theorem at2 {α : Type} {a b c : α} {l : List α} : (a :: b :: c :: l)[2]? = some c := rfl
theorem at3 {α : Type} {a b c d : α} {l : List α} : (a :: b :: c :: d :: l)[3]? = some d := rfl
theorem at4 {α : Type} {a b c d e : α} {l : List α} : (a :: b :: c :: d :: e :: l)[4]? = some e := rfl
theorem Own.drw {w0 w : World} {L : List (Nat × Int)} (h : Own w0 w L) : Own w0 w.drew L := h.below (below_drewN (Below.refl _ _) 1)
theorem calls_mono {P : Program} {f : Nat} {args : Array Value} {w : World} {Q R : Ending → World → Prop} (h : Calls P f args w Q) (k : ∀ e w', Q e w' → R e w') : Calls P f args w R := h.mono k

def nthT (t : T3) : Nat → Nat
  | 0 => t.1
  | 1 => t.2.1
  | _ => t.2.2
def sS (t : T3) : Nat → Nat
  | 0 => 0
  | i + 1 => sS t i + nthT t i * nthT t i
def pP (t : T3) : Nat → Nat
  | 0 => 3
  | i + 1 => pP t i * nthT t i
def isM (t : T3) : Bool := decide (t.1 * t.1 + t.2.1 * t.2.1 + t.2.2 * t.2.2 = 3 * t.1 * t.2.1 * t.2.2)
theorem nthT_le {t : T3} (h : SmallT t) (i : Nat) : nthT t i ≤ 1000000000000000000 := by
  obtain ⟨a, b, c⟩ := h
  unfold nthT
  split <;> assumption
theorem sS_le {t : T3} (h : SmallT t) : ∀ i, sS t i ≤ i * (1000000000000000000 * 1000000000000000000)
  | 0 => by rw [sS]; omega
  | i + 1 => by
    have h1 := sS_le h i
    have h2 := Nat.mul_le_mul (nthT_le h i) (nthT_le h i)
    rw [sS, Nat.succ_mul]
    exact Nat.add_le_add h1 h2
theorem pP_le {t : T3} (h : SmallT t) : ∀ i, pP t i ≤ 3 * 1000000000000000000 ^ i
  | 0 => by rw [pP]; omega
  | i + 1 => by
    have h1 := Nat.mul_le_mul (pP_le h i) (nthT_le h i)
    rw [pP, Nat.pow_succ, ← Nat.mul_assoc]
    exact h1
/-- the bounds of one round -/
theorem mis_lims {t : T3} (h : SmallT t) {i : Nat} (hi : i ≤ 3) : (((sS t i : Nat) : Int).natAbs < lim ∧ ((pP t i : Nat) : Int).natAbs < lim ∧ ((nthT t i : Nat) : Int).natAbs < lim) ∧ (((nthT t i : Nat) : Int) * ((nthT t i : Nat) : Int)).natAbs < lim := by
  have h1 := sS_le h i
  have h2 := pP_le h i
  have h3 := nthT_le h i
  have h4 := Nat.mul_le_mul h3 h3
  have h5 : 1000000000000000000 ^ i ≤ 1000000000000000000 ^ 3 := Nat.pow_le_pow_right (by omega) hi
  have h6 : i * (1000000000000000000 * 1000000000000000000) ≤ 3 * (1000000000000000000 * 1000000000000000000) := Nat.mul_le_mul_right _ hi
  have h7 : (((nthT t i : Nat) : Int) * ((nthT t i : Nat) : Int)).natAbs = nthT t i * nthT t i := by rw [Int.natAbs_mul]; rfl
  refine ⟨⟨lim_256 ?_, lim_256 ?_, lim_256 ?_⟩, lim_256 ?_⟩
  · show sS t i < _
    omega
  · show pP t i < _
    omega
  · show nthT t i < _
    omega
  · rw [h7]; omega
theorem sS_cast (t : T3) (i : Nat) : ((sS t i : Nat) : Int) + ((nthT t i : Nat) : Int) * ((nthT t i : Nat) : Int) = ((sS t (i + 1) : Nat) : Int) := by rw [sS]; push_cast; rfl
theorem pP_cast (t : T3) (i : Nat) : ((pP t i : Nat) : Int) * ((nthT t i : Nat) : Int) = ((pP t (i + 1) : Nat) : Int) := by rw [pP]; push_cast; rfl
theorem nth_cell {W : World} {g : Nat} {t : T3} {T : TypeId} (h : W.heap[g]? = some (.cells #[.int .i64 (t.1 : Nat), .int .i64 (t.2.1 : Nat), .int .i64 (t.2.2 : Nat)] T (0, 0))) {i : Nat} (hi : i < 3) : W.cell? ⟨g, i, none⟩ = some (.int .i64 (nthT t i : Nat)) := by
  have : i = 0 ∨ i = 1 ∨ i = 2 := by omega
  rcases this with rfl | rfl | rfl <;> simp [World.cell?, h, nthT]
theorem isM_icmp (t : T3) : decide (icmp ((sS t 3 : Nat) : Int) ((pP t 3 : Nat) : Int) = 0) = isM t := by
  have e1 : sS t 3 = t.1 * t.1 + t.2.1 * t.2.1 + t.2.2 * t.2.2 := by simp [sS, nthT]
  have e2 : pP t 3 = 3 * t.1 * t.2.1 * t.2.2 := by simp [pP, nthT]
  unfold isM icmp
  rw [e1, e2]
  generalize t.1 * t.1 + t.2.1 * t.2.1 + t.2.2 * t.2.2 = a
  generalize 3 * t.1 * t.2.1 * t.2.2 = b
  by_cases h : a = b
  · subst h; simp
  · by_cases h2 : (a : Int) < (b : Int)
    · simp [h, h2]
    · have h3 : (b : Int) < (a : Int) := by omega
      simp [h, h2, h3]

set_option maxRecDepth 100000 in
set_option maxHeartbeats 1600000 in
theorem markovIs_any (t : T3) (w : World) (h : SmallT t) :
    Calls Try.prog 21 #[tv t] w fun e w' => e = .returned (.bool (isM t)) ∧ Below w.heap.size w w' := by
  have HT := hide h
  have HM := hide (isM_icmp t)
  have B0 := hide (bel_e w (.cells #[.int .i64 (t.1 : Nat), .int .i64 (t.2.1 : Nat), .int .i64 (t.2.2 : Nat)] 47))
  have CB := hide (heap_alloc_new w (.cells #[.int .i64 (t.1 : Nat), .int .i64 (t.2.1 : Nat), .int .i64 (t.2.2 : Nat)] 47))
  have hs1 : (w.alloc (.cells #[.int .i64 (t.1 : Nat), .int .i64 (t.2.1 : Nat), .int .i64 (t.2.2 : Nat)] 47)).heap.size = w.heap.size + 1 := World.size_alloc ..
  clear h
  unfold tv
  go_enter Try.func21, Try.ntmps21
  go_wp2_with fail
  obtain ⟨W1, hW1⟩ : ∃ Z, w.alloc (.cells #[.int .i64 (t.1 : Nat), .int .i64 (t.2.1 : Nat), .int .i64 (t.2.2 : Nat)] 47) = Z := ⟨_, rfl⟩
  obtain ⟨b, hb⟩ : ∃ q, w.heap.size = q := ⟨_, rfl⟩
  rw [hW1] at B0 CB hs1
  rw [hb] at CB hs1
  (try rw [hW1])
  (try rw [hb])
  have hbl : b < W1.heap.size := by omega
  clear hW1
  refine (b_own (Own.start W1) 0 (by omega) (by omega)).mono ?_
  rintro e w2 ⟨gs, rfl, O⟩
  have O1 := hide O
  clear O
  go_wp2_with fail
  refine (b_own O1.out 3 (by omega) (by omega)).mono ?_
  rintro e w3 ⟨gp, rfl, O⟩
  have O2 := hide O
  clear O O1
  go_wp2_with fail
  go_loopw [5] (fun iv wr => ∃ i : Nat, i ≤ 3 ∧ iv = .int .i64 i ∧ Hid (Own W1 wr [(gp, ((pP t i : Nat) : Int)), (gs, ((sS t i : Nat) : Int))])) (fun iv _ => 3 - (intOf iv).toNat)
  case atStart => exact ⟨0, by omega, rfl, O2⟩
  case round =>
    clear O2
    obtain ⟨i, hi, rfl, HO⟩ := hrel
    by_cases hi3 : i < 3
    · have O := HO
      have c1 := (HO.out.bel.cell (p := ⟨b, i, none⟩) hbl).trans (nth_cell CB.out hi3)
      have K := fun W (k : Below W1.heap.size W1 W) => hide (show W.cell? ⟨b, i, none⟩ = some (.int .i64 (nthT t i : Nat)) ∧ Hid (Below W1.heap.size W1 W) from ⟨(k.cell (p := ⟨b, i, none⟩) hbl).trans (nth_cell CB.out hi3), hide k⟩)
      have HL := hide (mis_lims HT.out (i := i) (by omega))
      have HN := hide (nthT_le HT.out i)
      have HE := hide (And.intro (sS_cast t i) (pP_cast t i))
      have HL2 := hide (mis_lims HT.out (i := i + 1) (by omega))
      obtain ⟨x, hx⟩ : ∃ x : Nat, nthT t i = x := ⟨_, rfl⟩
      rw [hx] at c1 K HL HN HE
      clear hx HO
      have HX : Hid (-9223372036854775808 ≤ (x : Int) ∧ (x : Int) ≤ 9223372036854775807) := hide (by have := HN.out; omega)
      go_wp2_with fail
      go_region_held3 (fun W => W.cell? ⟨b, i, none⟩ = some (.int .i64 (x : Nat)) ∧ Hid (Below W1.heap.size W1 W)) (first | exact (K _ O.out.bel).out | exact (K _ O.out.drw.bel).out | exact (K _ O.out.new.bel).out | exact (K _ O.out.new.drw.bel).out | exact (K _ O.out.drw.new.bel).out) (first | (go_at_call 16; refine calls_mono (b_own (by first | exact O.out | exact O.out.drw | exact O.out.new | exact O.out.new.drw | exact O.out.drw.new) _ HX.out.1 HX.out.2) ?_; rintro e w5 ⟨g5, rfl, O'⟩; have O := hide O'; clear O') | (go_at_call 23; refine calls_mono (mul_own (by first | exact O.out | exact O.out.drw | exact O.out.new | exact O.out.new.drw | exact O.out.drw.new) _ _ _ (by first | exact at0 | exact at1 | exact at2) (by first | exact at0 | exact at1 | exact at2) (by first | exact at0 | exact at1 | exact at2) HL.out.1.2.2 HL.out.1.2.2 HL.out.2) ?_; rintro e w5 ⟨rfl, O'⟩; simp only [List.set] at O'; have O := hide O'; clear O') | (go_at_call 31; refine calls_mono (add_own (by first | exact O.out | exact O.out.new) _ _ _ at4 at4 (by first | exact at0 | exact at1 | exact at2) HL.out.1.1 HL.out.2 (by rw [HE.out.1]; exact HL2.out.1.1)) ?_; rintro e w5 ⟨rfl, O'⟩; simp only [List.set] at O'; have O := hide O'; clear O'))
      all_goals
        have O8 := hide (O.out.sub [3, 4] rfl (by decide))
        clear O
        rw [HE.out.1] at O8
        have c8 := (O8.out.bel.cell (p := ⟨b, i, none⟩) hbl).trans (K W1 (Below.refl _ _)).out.1
        go_wp2_with fail
        refine calls_mono (b_own O8.out (x : Int) HX.out.1 HX.out.2) ?_
        rintro e w6 ⟨g6, rfl, O'⟩
        have O9 := hide O'
        clear O' O8 c8
        go_wp2_with fail
        refine calls_mono (mul_own O9.out 1 1 0 rfl rfl rfl HL.out.1.2.1 HL.out.1.2.2 (by rw [HE.out.2]; exact HL2.out.1.2.1)) ?_
        rintro e w7 ⟨rfl, O'⟩
        simp only [List.set] at O'
        rw [HE.out.2] at O'
        have O10 := hide (O'.sub [1, 2] rfl (by decide))
        clear O' O9
        go_wp2_with fail
        go_roundw
        case rel => exact ⟨i + 1, by omega, by go_num, O10⟩
        case measure => simp [intOf]; omega
    · obtain rfl : i = 3 := by omega
      have HL := hide (mis_lims HT.out (i := 3) (by omega))
      go_wp2_with fail
      refine (cmp_own HO.out 1 0 rfl rfl HL.out.1.1 HL.out.1.2.1).mono ?_
      rintro e w4 ⟨rfl, O⟩
      have HB := hide (B0.out.trans (O.bel.mono (hb ▸ B0.out.size)))
      clear O
      go_wp2_with fail
      go_ret
      exact ⟨congrArg (fun q => Ending.returned (Value.bool q)) HM.out, HB.out⟩

/-! ## two lists of triples -/
theorem iinfo1 : (Try.prog.info? 3).map (fun i => (i.zero, i.size, i.bytes)) = some (some (.int .i64 0), 1, 8) := by kernel_rfl
theorem eqT (a1 a2 a3 b1 b2 b3 : Int) (W : World) : (Op.equalIn 10000 47 (.agg #[.int .i64 a1, .int .i64 a2, .int .i64 a3]) (.agg #[.int .i64 b1, .int .i64 b2, .int .i64 b3])).run Try.prog W = .ok (a1 == b1 && (a2 == b2 && a3 == b3)) W := by
  obtain ⟨i0, hi, _, _, _⟩ := info_parts iinfo1
  have hc : Try.prog.cellsOf 3 = 1 := by kernel_rfl
  have p0 : ∀ (x y z : Value) (W : World), (part 3 #[x, y, z] (0 * 1)).run Try.prog W = .ok x W := fun x y z W => by kernel_rfl
  have p1 : ∀ (x y z : Value) (W : World), (part 3 #[x, y, z] (1 * 1)).run Try.prog W = .ok y W := fun x y z W => by kernel_rfl
  have p2 : ∀ (x y z : Value) (W : World), (part 3 #[x, y, z] (2 * 1)).run Try.prog W = .ok z W := fun x y z W => by kernel_rfl
  rw [show (10000 : Nat) = 9999 + 1 from rfl, Go.run_equalIn_array W 9999 _ _ Try.underlying47 hi, hc]
  rw [show List.range 3 = [0, 1, 2] from rfl]
  have q : ∀ (a b : Int) (W : World), (Op.equalIn 9999 3 (.int .i64 a) (.int .i64 b)).run Try.prog W = .ok (a == b) W := fun a b W => run_equalIn_int W 9998 _ _ _ a b Try.underlying3
  have st : ∀ (i : Nat) (is : List Nat) (x y : Int) (xs ys : Array Value), (∀ W, (part 3 xs (i * 1)).run Try.prog W = .ok (.int .i64 x) W) → (∀ W, (part 3 ys (i * 1)).run Try.prog W = .ok (.int .i64 y) W) → (Op.eqItems 9999 3 1 xs ys (i :: is)).run Try.prog W = if (x == y) = true then (Op.eqItems 9999 3 1 xs ys is).run Try.prog W else .ok false W := by
    intro i is x y xs ys h1 h2
    simp only [Op.eqItems, Sem.run_bind, h1, h2, q, Result.andThen_ok]
    cases x == y <;> simp
  rw [st 0 _ a1 b1 _ _ (p0 _ _ _) (p0 _ _ _), st 1 _ a2 b2 _ _ (p1 _ _ _) (p1 _ _ _), st 2 _ a3 b3 _ _ (p2 _ _ _) (p2 _ _ _)]
  simp only [Op.eqItems, Sem.run_pure]
  cases a1 == b1 <;> cases a2 == b2 <;> cases a3 == b3 <;> simp
theorem eqT_refl (a b c : Int) (W : World) : (Op.equalIn 10000 47 (.agg #[.int .i64 a, .int .i64 b, .int .i64 c]) (.agg #[.int .i64 a, .int .i64 b, .int .i64 c])).run Try.prog W = .ok true W := by
  rw [eqT]; simp
theorem TRow.open_ {w : World} {base : Nat} {v : Value} {L : List T3} (h : TRow w base v L) : ∃ A c, v = .slice A L.length c ∧ ∀ (i : Nat) (t : T3), L[i]? = some t → ∃ g, A = some ⟨g, 0, none⟩ ∧ base ≤ g ∧ g < w.heap.size ∧ w.cell? ⟨g, i * 3, none⟩ = some (.int .i64 (t.1 : Nat)) ∧ w.cell? ⟨g, i * 3 + 1, none⟩ = some (.int .i64 (t.2.1 : Nat)) ∧ w.cell? ⟨g, i * 3 + 2, none⟩ = some (.int .i64 (t.2.2 : Nat)) := by
  rcases h with ⟨rfl, rfl⟩ | ⟨g, cap, rfl, h2, h3, h4⟩
  · exact ⟨none, 0, rfl, by simp⟩
  · exact ⟨some ⟨g, 0, none⟩, cap, rfl, fun i t ht => ⟨g, rfl, h2, h3, h4 i t ht⟩⟩

set_option maxRecDepth 100000 in
set_option maxHeartbeats 1600000 in
theorem threes_any (va vb : Value) (L : List T3) (ba bb : Nat) (w : World) (ha : TRow w ba va L) (hb : TRow w bb vb L) (hl : L.length ≤ 5000) :
    Calls Try.prog 19 #[va, vb] w fun e w' => e = .returned (.bool true) ∧ ∃ k, w' = w.drewN k := by
  obtain ⟨A, c, rfl, hA⟩ := ha.open_
  obtain ⟨B, d, rfl, hB⟩ := hb.open_
  have HA := hide hA
  have HB := hide hB
  obtain ⟨n, hn⟩ : ∃ n, L.length = n := ⟨_, rfl⟩
  have HN := hide hn
  rw [hn] at hl ⊢
  have q0 : ((n : Int) != (n : Int)) = false := by simp
  clear hA hB ha hb hn
  go_enter Try.func19, Try.ntmps19
  go_wp2_with fail
  go_loopw [5] (fun iv wr => ∃ i k : Nat, i ≤ n ∧ iv = .int .i64 i ∧ wr = w.drewN k) (fun iv _ => n - (intOf iv).toNat)
  case atStart => exact ⟨0, 0, by omega, rfl, rfl⟩
  case round =>
    obtain ⟨i, k, hi, rfl, rfl⟩ := hrel
    by_cases hin : i < n
    · have hil : i < L.length := by rw [HN.out]; exact hin
      obtain ⟨⟨x, y, z⟩, ht⟩ : ∃ t, L[i]? = some t := ⟨_, List.getElem?_eq_getElem hil⟩
      obtain ⟨g, hg, _, _, a0, a1, a2⟩ := HA.out i _ ht
      obtain ⟨g', hg', _, _, b0, b1, b2⟩ := HB.out i _ ht
      subst hg
      subst hg'
      have heq := eqT_refl (x : Nat) (y : Nat) (z : Nat)
      clear ht
      clear hil
      go_wp2_with fail
      go_quiet (fail)
      go_wp2_with fail
      go_roundw
      case rel => exact ⟨i + 1, _, by omega, by go_num, by first | rfl | exact World.drewN_drewN ..⟩
      case measure => simp [intOf]; omega
    · obtain rfl : i = n := by omega
      go_wp2_with fail
      go_ret
      exact ⟨rfl, k, rfl⟩

set_option maxRecDepth 100000 in
set_option maxHeartbeats 1600000 in
theorem ahead_any (a b : T3) (w : World) (h : a.2.2 < b.2.2) :
    Calls Try.prog 22 #[tv a, tv b] w fun e w' => e = .returned (.bool true) ∧ Below w.heap.size w w' := by
  obtain ⟨a1, a2, a3⟩ := a
  obtain ⟨b1, b2, b3⟩ := b
  simp only at h
  unfold tv
  simp only
  have B1 := bel_e w (.cells #[.int .i64 (a1 : Nat), .int .i64 (a2 : Nat), .int .i64 (a3 : Nat)] 47)
  have B2 := bel_e (w.alloc (.cells #[.int .i64 (a1 : Nat), .int .i64 (a2 : Nat), .int .i64 (a3 : Nat)] 47)) (.cells #[.int .i64 (b1 : Nat), .int .i64 (b2 : Nat), .int .i64 (b3 : Nat)] 47)
  have c1 := cell_three ((B2.block _ (by simp)).trans (heap_alloc_new w (.cells #[.int .i64 (a1 : Nat), .int .i64 (a2 : Nat), .int .i64 (a3 : Nat)] 47))) (j := 2) rfl
  have c2 := cell_three (heap_alloc_new (w.alloc (.cells #[.int .i64 (a1 : Nat), .int .i64 (a2 : Nat), .int .i64 (a3 : Nat)] 47)) (.cells #[.int .i64 (b1 : Nat), .int .i64 (b2 : Nat), .int .i64 (b3 : Nat)] 47)) (j := 2) rfl
  rw [World.size_alloc] at c2
  have HB := hide (B1.trans (B2.mono B1.size))
  have q1 : ((a3 : Int) != (b3 : Int)) = true := by rw [bne_iff_ne]; omega
  have q2 : decide ((a3 : Int) < (b3 : Int)) = true := by rw [decide_eq_true_eq]; omega
  have q3 : decide (a3 < b3) = true := by rw [decide_eq_true_eq]; omega
  have q4 : decide ((a3 : Int) = (b3 : Int)) = false := by rw [decide_eq_false_iff_not]; omega
  have q5 : decide (a3 = b3) = false := by rw [decide_eq_false_iff_not]; omega
  have q6 : ¬ a3 = b3 := by omega
  clear B1 B2
  go_enter Try.func22, Try.ntmps22
  go_wp2_with fail
  refine wp_loop_rounds 1 ?_
  rw [rounds_succ]
  go_wp2_with fail
  go_quiet (fail)
  go_wp2_with fail
  go_quiet (fail)
  go_wp2_with fail
  go_ret
  exact ⟨rfl, by first | exact below_drewN HB.out _ | exact below_drewN (below_drewN HB.out _) _⟩

/-! ## MarkovOf -/
def xsM (z y n : Nat) : List T3 := ((List.range n).filter fun x => isM (x + 1, y + 1, z + 1)).map fun x => (x + 1, y + 1, z + 1)
def ysM (z n : Nat) : List T3 := (List.range n).flatMap fun y => xsM z y (y + 1)
theorem xsM_succ (z y n : Nat) : xsM z y (n + 1) = xsM z y n ++ (if isM (n + 1, y + 1, z + 1) then [(n + 1, y + 1, z + 1)] else []) := by
  unfold xsM
  rw [List.range_succ, List.filter_append, List.map_append]
  congr 1
  by_cases h : isM (n + 1, y + 1, z + 1) <;> simp [h]
theorem ysM_succ (z n : Nat) : ysM z (n + 1) = ysM z n ++ xsM z n (n + 1) := by
  unfold ysM
  rw [List.range_succ, List.flatMap_append]; simp
theorem mOf_succ (n : Nat) : mOf (n + 1) = mOf n ++ ysM n (n + 1) := by
  unfold mOf
  rw [List.range_succ, List.flatMap_append]
  congr 1
  simp [mRow, ysM, xsM, isM]
theorem xsM_len (z y : Nat) : ∀ n, (xsM z y n).length ≤ n
  | 0 => by simp [xsM]
  | n + 1 => by
    have := xsM_len z y n
    rw [xsM_succ, List.length_append]
    split <;> simp <;> omega
theorem ysM_len (z : Nat) : ∀ n, n ≤ 101 → (ysM z n).length ≤ n * 101
  | 0, _ => by simp [ysM]
  | n + 1, h => by
    have := ysM_len z n (by omega)
    have := xsM_len z n (n + 1)
    rw [ysM_succ, List.length_append]; omega
theorem mOf_len : ∀ n, n ≤ 100 → (mOf n).length ≤ n * 10201
  | 0, _ => by simp [mOf]
  | n + 1, h => by
    have := mOf_len n (by omega)
    have := ysM_len n (n + 1) (by omega)
    rw [mOf_succ, List.length_append]; omega
/-- a list of triples of the call's own -/
def TOwn (w : World) (base : Nat) (v : Value) (L : List T3) : Prop := w.ownsRow base 47 3 v L.length (L.flatMap encT)
theorem TOwn.nil (w : World) (base : Nat) : TOwn w base (.slice none 0 0) [] := World.ownsRow_nil _ _ _ _
theorem TOwn.row {w : World} {base : Nat} {v : Value} {L : List T3} (h : TOwn w base v L) : TRow w base v L := by
  obtain ⟨h1, h2⟩ := id h
  rcases h2 with ⟨rfl, h0⟩ | ⟨g, cap, cur, rfl, hg, hh, hc1, hc2, hc3, hc4⟩
  · exact .inl ⟨rfl, List.eq_nil_of_length_eq_zero h0⟩
  · refine .inr ⟨g, cap, rfl, hg, heap_lt hh, fun i t ht => ?_⟩
    have hi : i < L.length := (List.getElem?_eq_some_iff.1 ht).1
    have key : ∀ j, j < 3 → w.cell? ⟨g, i * 3 + j, none⟩ = (encT t)[j]? := fun j hj => by
      have h1 : (cur.toList.take (L.length * 3))[i * 3 + j]? = (L.flatMap encT)[i * 3 + j]? := by rw [hc4]
      rw [List.getElem?_take, if_pos (by omega), flat_get L i j t ht hj, Array.getElem?_toList] at h1
      simpa [World.cell?, hh] using h1
    exact ⟨key 0 (by omega), key 1 (by omega), key 2 (by omega)⟩

set_option maxRecDepth 100000 in
set_option maxHeartbeats 1600000 in
theorem markovOf_any (most : Nat) (w : World) (h : most ≤ 100) :
    Calls Try.prog 20 #[.int .i64 (most : Nat)] w fun e w' => ∃ v, e = .returned v ∧ TRow w' w.heap.size v (mOf most) ∧ Below w.heap.size w w' := by
  have CI := fun (t : T3) (W : World) (ht : SmallT t) => hide (markovIs_any t W ht)
  obtain ⟨i0, hi0, hz0, hz1, hz2⟩ := info_parts tinfo
  have HIN := hide (And.intro hi0 (And.intro hz0 (And.intro hz1 hz2)))
  clear hi0 hz0 hz1 hz2
  go_enter Try.func20, Try.ntmps20
  go_wp2_with fail
  go_loopw [3, 4] (fun v zv wr => ∃ k : Nat, k ≤ most ∧ zv = .int .i64 ((k : Int) + 1) ∧ Hid (TOwn wr w.heap.size v (mOf k)) ∧ Hid (Below w.heap.size w wr)) (fun _ zv _ => most + 1 - (intOf zv).toNat)
  case atStart => exact ⟨0, by omega, rfl, hide (TOwn.nil _ _), hide (Below.refl _ _)⟩
  case round =>
    obtain ⟨k, hk, rfl, HV, HB⟩ := hrel
    by_cases hkm : k < most
    · have HKM := hide hkm
      have q1 : decide ((k : Int) + 1 ≤ (most : Int)) = true := by rw [decide_eq_true_eq]; omega
      clear hkm
      go_wp2_with fail
      go_loopw [3, 5] (fun v yv wr => ∃ j : Nat, j ≤ k + 1 ∧ yv = .int .i64 ((j : Int) + 1) ∧ Hid (TOwn wr w.heap.size v (mOf k ++ ysM k j)) ∧ Hid (Below w.heap.size w wr)) (fun _ yv _ => k + 2 - (intOf yv).toNat)
      case atStart => exact ⟨0, by omega, rfl, by simpa [ysM] using HV, HB⟩
      case round =>
        clear HV HB
        obtain ⟨j, hj, rfl, HV, HB⟩ := hrel
        by_cases hjk : j < k + 1
        · have HJK := hide hjk
          have q2 : decide (j ≤ k) = true := by rw [decide_eq_true_eq]; omega
          have q2' : decide ((j : Int) + 1 ≤ (k : Int) + 1) = true := by rw [decide_eq_true_eq]; omega
          clear hjk
          go_wp2_with fail
          go_loopw [3, 6] (fun v xv wr => ∃ i : Nat, i ≤ j + 1 ∧ xv = .int .i64 ((i : Int) + 1) ∧ Hid (TOwn wr w.heap.size v (mOf k ++ ysM k j ++ xsM k j i)) ∧ Hid (Below w.heap.size w wr)) (fun _ xv _ => j + 2 - (intOf xv).toNat)
          case atStart => exact ⟨0, by omega, rfl, by simpa [xsM] using HV, HB⟩
          case round =>
            clear HV HB
            obtain ⟨i, hi, rfl, HV, HB⟩ := hrel
            by_cases hij : i < j + 1
            · have hkm := HKM.out
              have hjk := HJK.out
              have q3 : decide (i ≤ j) = true := by rw [decide_eq_true_eq]; omega
              have q3' : decide ((i : Int) + 1 ≤ (j : Int) + 1) = true := by rw [decide_eq_true_eq]; omega
              have hsm : SmallT (i + 1, j + 1, k + 1) := ⟨by show i + 1 ≤ _; omega, by show j + 1 ≤ _; omega, by show k + 1 ≤ _; omega⟩
              have CI1 := CI (i + 1, j + 1, k + 1) wr hsm
              have hsuc := xsM_succ k j i
              have hlen : (mOf k ++ ysM k j ++ xsM k j i).length ≤ 2000000 := by
                have h1 := mOf_len k (by omega)
                have h2 := ysM_len k j (by omega)
                have h3 := xsM_len k j i
                rw [List.length_append, List.length_append]; omega
              unfold tv at CI1
              simp only [Int.natCast_add, Int.natCast_one] at CI1
              obtain ⟨L, hL⟩ : ∃ L, mOf k ++ ysM k j ++ xsM k j i = L := ⟨_, rfl⟩
              have hsuc2 : mOf k ++ ysM k j ++ xsM k j (i + 1) = L ++ (if isM (i + 1, j + 1, k + 1) then [(i + 1, j + 1, k + 1)] else []) := by rw [hsuc, ← List.append_assoc, hL]
              rw [hL] at HV hlen
              have HS := hide hsuc2
              have HIJ := hide hij
              clear hsm hsuc hsuc2 hL CI hkm hjk hij
              go_wp2_with fail
              refine CI1.out.mono ?_
              rintro e w1 ⟨rfl, hb⟩
              have HV1 := hide (own_blw HV.out hb)
              have HB1 := hide (HB.out.trans (hb.mono HB.out.size))
              have hsz := HB1.out.size
              clear hb HV HB CI1
              cases hm : isM (i + 1, j + 1, k + 1) with
              | false => as_aux_lemma =>
                rw [hm] at HS
                have HS2 : Hid (mOf k ++ ysM k j ++ xsM k j (i + 1) = L) := hide (by rw [HS.out]; simp)
                clear hm HS
                go_wp2_with fail
                go_roundw
                case rel => exact ⟨i + 1, by have := HIJ.out; omega, by go_num, by rw [HS2.out]; exact HV1, HB1⟩
                case measure => have := HIJ.out; simp [intOf]; omega
              | true =>
                rw [hm] at HS
                have HS2 : Hid (mOf k ++ ysM k j ++ xsM k j (i + 1) = L ++ [(i + 1, j + 1, k + 1)]) := hide (by rw [HS.out]; simp)
                have HR3 := hide (own_blw HV1.out (bel_e w1 (.cells #[.int .i64 ((i : Int) + 1), .int .i64 ((j : Int) + 1), .int .i64 ((k : Int) + 1)] 47)))
                have HB2 := hide (HB1.out.trans ((bel_e w1 (.cells #[.int .i64 ((i : Int) + 1), .int .i64 ((j : Int) + 1), .int .i64 ((k : Int) + 1)] 47)).mono HB1.out.size))
                clear hm HS
                go_wp2_with (at_builtin; refine wpList_append_lies _ rfl _ _ 41 rfl w.heap.size 47 i0 (.agg #[.int .i64 0, .int .i64 0, .int .i64 0]) 3 24 Try.underlying41 HIN.out.1 HIN.out.2.1 HIN.out.2.2.1 HIN.out.2.2.2 rfl (by decide) _ _ _ rfl HR3.out ⟨w1.heap.size, 0, none⟩ 1 1 [.int .i64 ((i : Int) + 1), .int .i64 ((j : Int) + 1), .int .i64 ((k : Int) + 1)] rfl rfl (World.news_of_block (heap_alloc_new w1 _)) ?c2 (by decide) ?c3 ?c4 ?c5 _ rfl ?_)
                case c2 => intro u hu; simp at hu; rcases hu with rfl | rfl | rfl <;> rfl
                case c3 => simp only [maxLen]; omega
                case c4 => omega
                case c5 => simp; omega
                intro g1 cap1 W4 hown4 hg4 hat4 hlt4
                have HB4 := hide (HB2.out.grown hg4 HB2.out.size (fun k' e => (HR3.out.lt k' e).1))
                have HV4 : Hid (TOwn W4 w.heap.size (.slice (some ⟨g1, 0, none⟩) (L.length + 1) cap1) (mOf k ++ ysM k j ++ xsM k j (i + 1))) := hide (by
                  rw [HS2.out]
                  unfold TOwn
                  rw [List.length_append, List.flatMap_append]
                  simpa [encT] using hown4)
                clear hown4 hg4 hat4 hlt4 HR3 HB2 HV1 HB1
                go_wp2_with fail
                go_roundw
                case rel => exact ⟨i + 1, by have := HIJ.out; omega, by go_num, HV4, HB4⟩
                case measure => have := HIJ.out; simp [intOf]; omega
            · as_aux_lemma =>
              obtain rfl : i = j + 1 := by omega
              rw [List.append_assoc, ← ysM_succ] at HV
              go_wp2_with fail
              go_roundw
              case rel => exact ⟨j + 1, by have := HJK.out; omega, by go_num, HV, HB⟩
              case measure => have := HJK.out; simp [intOf]; omega
        · as_aux_lemma =>
          obtain rfl : j = k + 1 := by omega
          rw [← mOf_succ] at HV
          go_wp2_with fail
          go_roundw
          case rel => exact ⟨k + 1, by have := HKM.out; omega, by go_num, HV, HB⟩
          case measure => have := HKM.out; simp [intOf]; omega
    · as_aux_lemma =>
      obtain rfl : k = most := by omega
      go_wp2_with fail
      go_ret
      exact ⟨_, rfl, HV.out.row, HB.out⟩
end Go.Proofs.Ytgocnjklpafabaa
