/- The walk of the law EquationCoins. -/
import Derived.Test.YtgocnjklpafabaaEqBeg
import Derived.Test.YtgocnjklpafabaaGapW
import Derived.Test.YtgocnjklpafabaaRefG
import Derived.Test.YtgocnjklpafabaaLinL
import Derived.Test.YtgocnjklpafabaaDividesW
namespace Go.Proofs.Ytgocnjklpafabaa
open Go.RowKit

/-- Coins at whatever list -/
theorem coins_any (A : Option Addr) (n c : Nat) (l : List Int) (w : World) (hl : l.length = n) (hn : n * 8 ≤ 140737488355328) (hA : Ints w w.heap.size A l) :
    Calls Try.prog 6 #[.slice A n c] w (RetCoins w l) := by
  by_cases h : n < 1 ∨ 20 < n
  · exact coins_many A n c l w hl h hn
  · exact coins_main A n c l w hl (by omega) (by omega) hA
theorem coin_none {l : List Int} {a b : Int} {f : Int × Int} {k n : Int} (h : CoinOk l a b f) (hf : coinF l = (k, n)) (hk : k ≠ 0) : a = 0 ∧ b = 0 ∧ f = (k, n) := by
  have e := h.fault.trans hf
  obtain ⟨h1, h2⟩ := h.none (by rw [e]; exact hk)
  exact ⟨h1, h2, e⟩

/-- the least and the greatest of a list, as the law finds them -/
def lowI (l : List Int) : Int := l.foldl (fun m x => if x < m then x else m) 1001
def highI (l : List Int) : Int := l.foldl (fun m x => if m < x then x else m) 0
theorem lowI_snoc {l : List Int} {i : Nat} {x : Int} (h : l[i]? = some x) : lowI (l.take (i + 1)) = if x < lowI (l.take i) then x else lowI (l.take i) := by
  unfold lowI
  rw [take_snocI h, List.foldl_append]; rfl
theorem highI_snoc {l : List Int} {i : Nat} {x : Int} (h : l[i]? = some x) : highI (l.take (i + 1)) = if highI (l.take i) < x then x else highI (l.take i) := by
  unfold highI
  rw [take_snocI h, List.foldl_append]; rfl
theorem low_fold : ∀ (l : List Int) (s : Int), (l.foldl (fun m x => if x < m then x else m) s ≤ s ∧ ∀ x ∈ l, l.foldl (fun m x => if x < m then x else m) s ≤ x) ∧ (l.foldl (fun m x => if x < m then x else m) s = s ∨ l.foldl (fun m x => if x < m then x else m) s ∈ l)
  | [], s => ⟨⟨Int.le_refl _, by simp⟩, .inl rfl⟩
  | y :: r, s => by
    rw [List.foldl_cons]
    obtain ⟨⟨h1, h2⟩, h3⟩ := low_fold r (if y < s then y else s)
    have h4 : (if y < s then y else s) ≤ s ∧ (if y < s then y else s) ≤ y := by split <;> omega
    refine ⟨⟨by omega, fun x hx => ?_⟩, ?_⟩
    · rcases List.mem_cons.1 hx with rfl | hx
      · omega
      · exact h2 x hx
    · rcases h3 with h | h
      · rw [h]
        split
        · exact .inr (List.mem_cons_self ..)
        · exact .inl rfl
      · exact .inr (List.mem_cons_of_mem _ h)
theorem high_fold : ∀ (l : List Int) (s : Int), (s ≤ l.foldl (fun m x => if m < x then x else m) s ∧ ∀ x ∈ l, x ≤ l.foldl (fun m x => if m < x then x else m) s) ∧ (l.foldl (fun m x => if m < x then x else m) s = s ∨ l.foldl (fun m x => if m < x then x else m) s ∈ l)
  | [], s => ⟨⟨Int.le_refl _, by simp⟩, .inl rfl⟩
  | y :: r, s => by
    rw [List.foldl_cons]
    obtain ⟨⟨h1, h2⟩, h3⟩ := high_fold r (if s < y then y else s)
    have h4 : s ≤ (if s < y then y else s) ∧ y ≤ (if s < y then y else s) := by split <;> omega
    refine ⟨⟨by omega, fun x hx => ?_⟩, ?_⟩
    · rcases List.mem_cons.1 hx with rfl | hx
      · omega
      · exact h2 x hx
    · rcases h3 with h | h
      · rw [h]
        split
        · exact .inr (List.mem_cons_self ..)
        · exact .inl rfl
      · exact .inr (List.mem_cons_of_mem _ h)
theorem lowI_is {ls : List Nat} {m : Nat} (hm : m ∈ ls) (h1 : ∀ x ∈ ls, m ≤ x) (h2 : m ≤ 1000) : lowI (ls.map fun x => ((x : Nat) : Int)) = (m : Int) := by
  obtain ⟨⟨a, b⟩, c⟩ := low_fold (ls.map fun x => ((x : Nat) : Int)) 1001
  have hb := b (m : Int) (List.mem_map.2 ⟨m, hm, rfl⟩)
  unfold lowI
  rcases c with c | c
  · omega
  · obtain ⟨y, hy, e⟩ := List.mem_map.1 c
    have := h1 y hy
    omega
theorem highI_is {ls : List Nat} {m : Nat} (hm : m ∈ ls) (h1 : ∀ x ∈ ls, x ≤ m) (h2 : 1 ≤ m) : highI (ls.map fun x => ((x : Nat) : Int)) = (m : Int) := by
  obtain ⟨⟨a, b⟩, c⟩ := high_fold (ls.map fun x => ((x : Nat) : Int)) 0
  have hb := b (m : Int) (List.mem_map.2 ⟨m, hm, rfl⟩)
  unfold highI
  rcases c with c | c
  · omega
  · obtain ⟨y, hy, e⟩ := List.mem_map.1 c
    have := h1 y hy
    omega
/-- what the law's loop has behind j good numbers -/
structure LSt (l : List Int) (j : Nat) (gv lv hv : Value) : Prop where
  eg : gv = .int .i64 (gAll (l.take j) : Nat)
  el : lv = .int .i64 (lowI (l.take j))
  eh : hv = .int .i64 (highI (l.take j))
  gb : gAll (l.take j) ≤ 1000
  good : ∀ i y, i < j → l[i]? = some y → 1 ≤ y ∧ y ≤ 1000
theorem LSt.start (l : List Int) : LSt l 0 (.int .i64 0) (.int .i64 1001) (.int .i64 0) := ⟨by rw [List.take_zero]; rfl, by rw [List.take_zero]; rfl, by rw [List.take_zero]; rfl, by rw [List.take_zero]; decide, fun i y h => by omega⟩
theorem LSt.next {l : List Int} {j : Nat} {gv lv hv : Value} {x : Int} (h : LSt l j gv lv hv) (hx : l[j]? = some x) (h1 : 1 ≤ x ∧ x ≤ 1000) {a b : Int} (ha : a = lowI (l.take (j + 1))) (hb : b = highI (l.take (j + 1))) : LSt l (j + 1) (.int .i64 (Int.gcd ((gAll (l.take j) : Nat) : Int) x : Nat)) (.int .i64 a) (.int .i64 b) := by
  have e := gAll_snoc hx
  refine ⟨by rw [e]; rfl, by rw [ha], by rw [hb], ?_, fun i y hi hy => ?_⟩
  · rw [e]
    have := Nat.gcd_le_right (gAll (l.take j)) (n := x.natAbs) (by omega)
    omega
  · rcases Nat.lt_succ_iff_lt_or_eq.1 hi with f | f
    · exact h.good i y f hy
    · subst f
      rw [hx] at hy
      injection hy with hy
      omega

set_option maxRecDepth 100000 in
set_option maxHeartbeats 1600000 in
theorem coinl_few (A : Option Addr) (n c : Nat) (l : List Int) (w : World) (hI : Ints w w.heap.size A l) (hl : l.length = n) (hn : n * 8 ≤ 140737488351232) (hno : A = none → n = 0 ∧ c = 0) (h : n < 1) (hf : coinF l = (2, 0)) :
    Calls Try.prog 3 #[.slice A n c] w fun e w' => e = .returned (.bool true) ∧ Below w.heap.size w w' := by
  have CW := fun W => hide (eqBegun_any W)
  have H1 := hide (And.intro hI (And.intro hl (And.intro hn hno)))
  have CC := fun (B : Option Addr) (d : Nat) (W : World) (hB : Ints W W.heap.size B l) => hide (coins_any B n d l W hl (by omega) hB)
  have CE := fun (B : Option Addr) (d : Nat) (W : World) (h1 : Ints W W.heap.size B l) (h2 : Ints W W.heap.size A l) => hide (ints_same B A n d c l W hl (by omega) h1 h2)
  have CF := fun W => hide (refF_any 2 0 W)
  have HF := hide hf
  clear hf
  clear hI hl hn hno
  go_enter Try.func3, Try.ntmps3
  go_wp2_with (at_builtin; refine wpList_copy_ints rfl _ _ rfl rfl w.heap.size A n c l rfl H1.out.2.1 H1.out.1 H1.out.2.2.2 (by have := H1.out.2.2.1; omega) ?_)
  intro A1 c1 w1 hI1 hb1
  have I1 := hide hI1
  have B1 := hide hb1
  clear hI1 hb1
  go_wp2_with fail
  refine (CC A1 c1 w1 I1.out).out.mono ?_
  rintro e w2 ⟨a, b, f, rfl, hok, hb⟩
  obtain ⟨rfl, rfl, rfl⟩ := coin_none hok HF.out (by decide)
  simp only [fv]
  have F1 := FC.made w2 2 0
  have Ba := bel_e w2 (.cells #[.int .i64 2, .int .i64 0] 24)
  have Bb := bel_e (w2.alloc (.cells #[.int .i64 2, .int .i64 0] 24)) (.cells #[.int .i64 0, .int .i64 0] 24)
  have F3 := hide (F1.below Bb)
  have G3 := hide (FC.made (w2.alloc (.cells #[.int .i64 2, .int .i64 0] 24)) 0 0)
  have K3 := hide (hb.trans ((Ba.trans (Bb.mono Ba.size)).mono hb.size))
  have HB3 := hide (B1.out.trans (K3.out.mono B1.out.size))
  have e1 : (w2.alloc (.cells #[.int .i64 2, .int .i64 0] 24)).heap.size = w2.heap.size + 1 := World.size_alloc ..
  rw [e1] at G3
  have hsz : w2.heap.size + 1 < ((w2.alloc (.cells #[.int .i64 2, .int .i64 0] 24)).alloc (.cells #[.int .i64 0, .int .i64 0] 24)).heap.size := by simp
  have hw1 := hb.size
  go_wp2_with fail
  obtain ⟨w3, hw3⟩ : ∃ Z, (w2.alloc (.cells #[.int .i64 2, .int .i64 0] 24)).alloc (.cells #[.int .i64 0, .int .i64 0] 24) = Z := ⟨_, rfl⟩
  rw [hw3] at F3 G3 K3 HB3 hsz
  (try rw [hw3])
  obtain ⟨q, hq⟩ : ∃ q, w2.heap.size = q := ⟨_, rfl⟩
  rw [hq] at F3 G3 hsz hw1
  (try rw [hq])
  clear hw3 hq e1 hb F1 Ba Bb CC
  refine (CF _).out.mono ?_
  rintro e w4 ⟨rfl, hb⟩
  have F4 := F3.out.below hb
  have G4 := G3.out.below hb
  have HB4 := HB3.out.trans (hb.mono HB3.out.size)
  have K4 := K3.out.trans (hb.mono K3.out.size)
  have hq4 : q + 1 < w4.heap.size := Nat.lt_of_lt_of_le hsz hb.size
  have hw0 := B1.out.size
  obtain ⟨g0, g1, k0, k1⟩ := G4.cells
  have F5 := hide (show FC ((w4.setCell ⟨q + 1, 0, none⟩ (.int .i64 2)).setCell ⟨q + 1, 1, none⟩ (.int .i64 0)) q 2 0 from (far_set _ _ (by omega)).trans ((far_set w4 _ (by omega)).trans F4))
  have G5 := hide ((G4.set0 2).set1 0)
  have HB5 := hide (below_fault (u := .int .i64 2) (v := .int .i64 0) HB4 (show w.heap.size ≤ q + 1 by omega))
  have K5 := hide (below_fault (u := .int .i64 2) (v := .int .i64 0) K4 (show w1.heap.size ≤ q + 1 by omega))
  clear hb F4 G4 HB4 K4
  go_wp2_with fail
  refine wp_loop_rounds 1 ?_
  rw [rounds_succ]
  go_wp2_with fail
  refine (CW _).out.mono ?_
  rintro e w8 ⟨rfl, hb⟩
  have F8 := F5.out.below hb
  have G8 := G5.out.below hb
  have HB8 := hide (HB5.out.trans (hb.mono HB5.out.size))
  have K8 := hide (K5.out.trans (hb.mono K5.out.size))
  obtain ⟨a0, a1, _, _⟩ := F8.cells
  obtain ⟨b0, b1, _, _⟩ := G8.cells
  have CE8 := hide (CE A1 c1 w8 ((I1.out.below K8.out (Nat.le_refl _)).more K8.out.size) ((H1.out.1.below HB8.out (Nat.le_refl _)).more HB8.out.size))
  clear hb F8 G8
  go_wp2_with fail
  refine CE8.out.mono ?_
  rintro e w9 ⟨rfl, nd, hw9⟩
  have a0' : w9.cell? ⟨q, 0, none⟩ = w8.cell? ⟨q, 0, none⟩ := by rw [hw9]; rfl
  have b0' : w9.cell? ⟨q + 1, 0, none⟩ = w8.cell? ⟨q + 1, 0, none⟩ := by rw [hw9]; rfl
  have a0 := a0'.trans a0
  have b0 := b0'.trans b0
  have HB9 : Hid (Below w.heap.size w w9) := hide (by rw [hw9]; exact below_drewN HB8.out nd)
  clear hw9 a0' b0'
  go_wp2_with fail
  go_ret
  exact ⟨rfl, HB9.out⟩

set_option maxRecDepth 100000 in
set_option maxHeartbeats 1600000 in
theorem coinl_many (A : Option Addr) (n c : Nat) (l : List Int) (w : World) (hI : Ints w w.heap.size A l) (hl : l.length = n) (hn : n * 8 ≤ 140737488351232) (hno : A = none → n = 0 ∧ c = 0) (h : 20 < n) (hf : coinF l = (2, 0)) :
    Calls Try.prog 3 #[.slice A n c] w fun e w' => e = .returned (.bool true) ∧ Below w.heap.size w w' := by
  have CW := fun W => hide (eqBegun_any W)
  have H1 := hide (And.intro hI (And.intro hl (And.intro hn hno)))
  have CC := fun (B : Option Addr) (d : Nat) (W : World) (hB : Ints W W.heap.size B l) => hide (coins_any B n d l W hl (by omega) hB)
  have CE := fun (B : Option Addr) (d : Nat) (W : World) (h1 : Ints W W.heap.size B l) (h2 : Ints W W.heap.size A l) => hide (ints_same B A n d c l W hl (by omega) h1 h2)
  have CF := fun W => hide (refF_any 2 0 W)
  have HF := hide hf
  clear hf
  clear hI hl hn hno
  go_enter Try.func3, Try.ntmps3
  go_wp2_with (at_builtin; refine wpList_copy_ints rfl _ _ rfl rfl w.heap.size A n c l rfl H1.out.2.1 H1.out.1 H1.out.2.2.2 (by have := H1.out.2.2.1; omega) ?_)
  intro A1 c1 w1 hI1 hb1
  have I1 := hide hI1
  have B1 := hide hb1
  clear hI1 hb1
  go_wp2_with fail
  refine (CC A1 c1 w1 I1.out).out.mono ?_
  rintro e w2 ⟨a, b, f, rfl, hok, hb⟩
  obtain ⟨rfl, rfl, rfl⟩ := coin_none hok HF.out (by decide)
  simp only [fv]
  have F1 := FC.made w2 2 0
  have Ba := bel_e w2 (.cells #[.int .i64 2, .int .i64 0] 24)
  have Bb := bel_e (w2.alloc (.cells #[.int .i64 2, .int .i64 0] 24)) (.cells #[.int .i64 0, .int .i64 0] 24)
  have F3 := hide (F1.below Bb)
  have G3 := hide (FC.made (w2.alloc (.cells #[.int .i64 2, .int .i64 0] 24)) 0 0)
  have K3 := hide (hb.trans ((Ba.trans (Bb.mono Ba.size)).mono hb.size))
  have HB3 := hide (B1.out.trans (K3.out.mono B1.out.size))
  have e1 : (w2.alloc (.cells #[.int .i64 2, .int .i64 0] 24)).heap.size = w2.heap.size + 1 := World.size_alloc ..
  rw [e1] at G3
  have hsz : w2.heap.size + 1 < ((w2.alloc (.cells #[.int .i64 2, .int .i64 0] 24)).alloc (.cells #[.int .i64 0, .int .i64 0] 24)).heap.size := by simp
  have hw1 := hb.size
  go_wp2_with fail
  obtain ⟨w3, hw3⟩ : ∃ Z, (w2.alloc (.cells #[.int .i64 2, .int .i64 0] 24)).alloc (.cells #[.int .i64 0, .int .i64 0] 24) = Z := ⟨_, rfl⟩
  rw [hw3] at F3 G3 K3 HB3 hsz
  (try rw [hw3])
  obtain ⟨q, hq⟩ : ∃ q, w2.heap.size = q := ⟨_, rfl⟩
  rw [hq] at F3 G3 hsz hw1
  (try rw [hq])
  clear hw3 hq e1 hb F1 Ba Bb CC
  refine (CF _).out.mono ?_
  rintro e w4 ⟨rfl, hb⟩
  have F4 := F3.out.below hb
  have G4 := G3.out.below hb
  have HB4 := HB3.out.trans (hb.mono HB3.out.size)
  have K4 := K3.out.trans (hb.mono K3.out.size)
  have hq4 : q + 1 < w4.heap.size := Nat.lt_of_lt_of_le hsz hb.size
  have hw0 := B1.out.size
  obtain ⟨g0, g1, k0, k1⟩ := G4.cells
  have F5 := hide (show FC ((w4.setCell ⟨q + 1, 0, none⟩ (.int .i64 2)).setCell ⟨q + 1, 1, none⟩ (.int .i64 0)) q 2 0 from (far_set _ _ (by omega)).trans ((far_set w4 _ (by omega)).trans F4))
  have G5 := hide ((G4.set0 2).set1 0)
  have HB5 := hide (below_fault (u := .int .i64 2) (v := .int .i64 0) HB4 (show w.heap.size ≤ q + 1 by omega))
  have K5 := hide (below_fault (u := .int .i64 2) (v := .int .i64 0) K4 (show w1.heap.size ≤ q + 1 by omega))
  clear hb F4 G4 HB4 K4
  go_wp2_with fail
  refine wp_loop_rounds 1 ?_
  rw [rounds_succ]
  go_wp2_with fail
  refine (CW _).out.mono ?_
  rintro e w8 ⟨rfl, hb⟩
  have F8 := F5.out.below hb
  have G8 := G5.out.below hb
  have HB8 := hide (HB5.out.trans (hb.mono HB5.out.size))
  have K8 := hide (K5.out.trans (hb.mono K5.out.size))
  obtain ⟨a0, a1, _, _⟩ := F8.cells
  obtain ⟨b0, b1, _, _⟩ := G8.cells
  have CE8 := hide (CE A1 c1 w8 ((I1.out.below K8.out (Nat.le_refl _)).more K8.out.size) ((H1.out.1.below HB8.out (Nat.le_refl _)).more HB8.out.size))
  clear hb F8 G8
  go_wp2_with fail
  refine CE8.out.mono ?_
  rintro e w9 ⟨rfl, nd, hw9⟩
  have a0' : w9.cell? ⟨q, 0, none⟩ = w8.cell? ⟨q, 0, none⟩ := by rw [hw9]; rfl
  have b0' : w9.cell? ⟨q + 1, 0, none⟩ = w8.cell? ⟨q + 1, 0, none⟩ := by rw [hw9]; rfl
  have a0 := a0'.trans a0
  have b0 := b0'.trans b0
  have HB9 : Hid (Below w.heap.size w w9) := hide (by rw [hw9]; exact below_drewN HB8.out nd)
  clear hw9 a0' b0'
  go_wp2_with fail
  go_ret
  exact ⟨rfl, HB9.out⟩

set_option maxRecDepth 100000 in
set_option maxHeartbeats 1600000 in
theorem coinl_bad (A : Option Addr) (n c : Nat) (l : List Int) (w : World) (hI : Ints w w.heap.size A l) (hl : l.length = n) (hn : n * 8 ≤ 140737488351232) (hno : A = none → n = 0 ∧ c = 0) (h1 : 1 ≤ n) (h20 : n ≤ 20) (k : Nat) (hk : k < n) (hlow : ∀ j y, j < k → l[j]? = some y → 1 ≤ y ∧ y ≤ 1000) (z : Int) (hz : l[k]? = some z) (hbad : ¬ (1 ≤ z ∧ z ≤ 1000)) (hf : coinF l = (3, (k : Int))) :
    Calls Try.prog 3 #[.slice A n c] w fun e w' => e = .returned (.bool true) ∧ Below w.heap.size w w' := by
  have CW := fun W => hide (eqBegun_any W)
  have H1 := hide (And.intro hI (And.intro hl (And.intro hn hno)))
  have CC := fun (B : Option Addr) (d : Nat) (W : World) (hB : Ints W W.heap.size B l) => hide (coins_any B n d l W hl (by omega) hB)
  have CE := fun (B : Option Addr) (d : Nat) (W : World) (h1 : Ints W W.heap.size B l) (h2 : Ints W W.heap.size A l) => hide (ints_same B A n d c l W hl (by omega) h1 h2)
  have CF := fun W => hide (refF_any 3 k W)
  have HF := hide hf
  have HLO := hide hlow
  have HZ := hide hz
  clear hf hlow hz
  clear hI hl hn hno
  go_enter Try.func3, Try.ntmps3
  go_wp2_with (at_builtin; refine wpList_copy_ints rfl _ _ rfl rfl w.heap.size A n c l rfl H1.out.2.1 H1.out.1 H1.out.2.2.2 (by have := H1.out.2.2.1; omega) ?_)
  intro A1 c1 w1 hI1 hb1
  have I1 := hide hI1
  have B1 := hide hb1
  clear hI1 hb1
  go_wp2_with fail
  refine (CC A1 c1 w1 I1.out).out.mono ?_
  rintro e w2 ⟨a, b, f, rfl, hok, hb⟩
  obtain ⟨rfl, rfl, rfl⟩ := coin_none hok HF.out (by decide)
  simp only [fv]
  have F1 := FC.made w2 3 (k : Int)
  have Ba := bel_e w2 (.cells #[.int .i64 3, .int .i64 (k : Int)] 24)
  have Bb := bel_e (w2.alloc (.cells #[.int .i64 3, .int .i64 (k : Int)] 24)) (.cells #[.int .i64 0, .int .i64 0] 24)
  have F3 := hide (F1.below Bb)
  have G3 := hide (FC.made (w2.alloc (.cells #[.int .i64 3, .int .i64 (k : Int)] 24)) 0 0)
  have K3 := hide (hb.trans ((Ba.trans (Bb.mono Ba.size)).mono hb.size))
  have HB3 := hide (B1.out.trans (K3.out.mono B1.out.size))
  have e1 : (w2.alloc (.cells #[.int .i64 3, .int .i64 (k : Int)] 24)).heap.size = w2.heap.size + 1 := World.size_alloc ..
  rw [e1] at G3
  have hsz : w2.heap.size + 1 < ((w2.alloc (.cells #[.int .i64 3, .int .i64 (k : Int)] 24)).alloc (.cells #[.int .i64 0, .int .i64 0] 24)).heap.size := by simp
  have hw1 := hb.size
  go_wp2_with fail
  obtain ⟨w3, hw3⟩ : ∃ Z, (w2.alloc (.cells #[.int .i64 3, .int .i64 (k : Int)] 24)).alloc (.cells #[.int .i64 0, .int .i64 0] 24) = Z := ⟨_, rfl⟩
  rw [hw3] at F3 G3 K3 HB3 hsz
  (try rw [hw3])
  obtain ⟨q, hq⟩ : ∃ q, w2.heap.size = q := ⟨_, rfl⟩
  rw [hq] at F3 G3 hsz hw1
  (try rw [hq])
  clear hw3 hq e1 hb F1 Ba Bb CC
  obtain ⟨g0', g1', _, _⟩ := G3.out.cells
  go_loopw [8, 9, 10, 11] (fun gv lv hv iv wr => (∃ j : Nat, j ≤ k ∧ iv = .int .i64 j ∧ LSt l j gv lv hv ∧ wr = w3) ∨ (iv = .int .i64 ((k + 1 : Nat) : Int) ∧ Hid (FC wr q 3 k) ∧ Hid (FC wr (q + 1) 3 k) ∧ Hid (Below w.heap.size w wr) ∧ Hid (Below w1.heap.size w1 wr))) (fun _ _ _ iv _ => n + 2 - (intOf iv).toNat)
  case atStart => exact .inl ⟨0, by omega, rfl, LSt.start l, rfl⟩
  case round =>
    rcases hrel with ⟨j, hj, rfl, HS, rfl⟩ | ⟨rfl, FE, GE, BE, KE⟩
    · obtain ⟨g0', g1', _, _⟩ := G3.out.cells
      obtain ⟨ad, x, hA2, hx, hab, hac⟩ := H1.out.1.at_ (k := j) (by rw [H1.out.2.1]; omega)
      subst hA2
      have cx := (HB3.out.cell (p := ad.add j) (by rw [add_block]; exact hab)).trans hac
      have HX := hide hx
      clear hac hx
      by_cases hjk : j < k
      · have hr := HLO.out j x hjk HX.out
        clear CW CF CE
        have HG := hide (And.intro HS.gb HX.out)
        have CD := fun W => hide (refGcd_any ((gAll (l.take j) : Nat) : Int) x W (by omega) (by have := HG.out.1; omega) (by omega) (by omega))
        have HN := fun a b ha hb => hide (HS.next HX.out hr (a := a) (b := b) ha hb)
        have el := hide (lowI_snoc HX.out)
        have eh := hide (highI_snoc HX.out)
        have HSB := HS.gb
        obtain ⟨rfl, rfl, rfl⟩ : _ ∧ _ ∧ _ := ⟨HS.eg, HS.el, HS.eh⟩
        clear HS HX HG
        obtain ⟨gz, hgz⟩ : ∃ z : Int, ((gAll (l.take j) : Nat) : Int) = z := ⟨_, rfl⟩
        obtain ⟨lz, hlz⟩ : ∃ z : Int, lowI (l.take j) = z := ⟨_, rfl⟩
        obtain ⟨hz, hhz⟩ : ∃ z : Int, highI (l.take j) = z := ⟨_, rfl⟩
        rw [hlz] at el
        rw [hhz] at eh
        rw [hgz] at CD HN
        rw [hgz, hlz, hhz]
        clear hgz hlz hhz HSB
        by_cases q1 : x < lz <;> by_cases q2 : hz < x
        all_goals
          go_wp2_with fail
          refine (CD _).out.mono ?_
          rintro e w4 ⟨rfl, rfl⟩
          go_wp2_with fail
          go_roundw
          case rel => exact .inl ⟨j + 1, by omega, by go_num, (HN _ _ (by rw [el.out]; split <;> omega) (by rw [eh.out]; split <;> omega)).out, by first | rfl | trivial⟩
          case measure => simp [intOf]; omega
      · obtain rfl : j = k := by omega
        have e := HX.out
        rw [HZ.out] at e
        injection e with e
        subst e
        clear hjk hj HLO HZ HX HS CE
        have hb' : z < 1 ∨ ¬ z < 1 ∧ 1000 < z := by omega
        clear hbad
        rcases hb' with hb' | ⟨hb', hb2⟩
        all_goals
          go_wp2_with fail
          refine (CF _).out.mono ?_
          rintro e w4 ⟨rfl, hb⟩
          have F4 := F3.out.below hb
          have G4 := G3.out.below hb
          have HB4 := HB3.out.trans (hb.mono HB3.out.size)
          have K4 := K3.out.trans (hb.mono K3.out.size)
          have hq4 : q + 1 < w4.heap.size := Nat.lt_of_lt_of_le hsz hb.size
          have hw0 := B1.out.size
          obtain ⟨g0, g1, k0, k1⟩ := G4.cells
          have F5 := hide (show FC ((w4.setCell ⟨q + 1, 0, none⟩ (.int .i64 3)).setCell ⟨q + 1, 1, none⟩ (.int .i64 j)) q 3 j from (far_set _ _ (by omega)).trans ((far_set w4 _ (by omega)).trans F4))
          have G5 := hide ((G4.set0 3).set1 j)
          have HB5 := hide (below_fault (u := .int .i64 3) (v := .int .i64 j) HB4 (show w.heap.size ≤ q + 1 by omega))
          have K5 := hide (below_fault (u := .int .i64 3) (v := .int .i64 j) K4 (show w1.heap.size ≤ q + 1 by omega))
          clear hb F4 G4 HB4 K4
          go_wp2_with fail
          go_roundw
          case rel => exact .inr ⟨by go_num, F5, G5, HB5, K5⟩
          case measure => simp [intOf]; omega
    · obtain ⟨g0', g1', _, _⟩ := GE.out.cells
      by_cases hkn : k + 1 < n
      all_goals
        go_wp2_with fail
        refine (CW _).out.mono ?_
        rintro e w8 ⟨rfl, hb⟩
        have F8 := FE.out.below hb
        have G8 := GE.out.below hb
        have HB8 := hide (BE.out.trans (hb.mono BE.out.size))
        have K8 := hide (KE.out.trans (hb.mono KE.out.size))
        obtain ⟨a0, a1, _, _⟩ := F8.cells
        obtain ⟨b0, b1, _, _⟩ := G8.cells
        have CE8 := hide (CE A1 c1 w8 ((I1.out.below K8.out (Nat.le_refl _)).more K8.out.size) ((H1.out.1.below HB8.out (Nat.le_refl _)).more HB8.out.size))
        clear hb F8 G8
        go_wp2_with fail
        refine CE8.out.mono ?_
        rintro e w9 ⟨rfl, nd, hw9⟩
        have a0' : w9.cell? ⟨q, 0, none⟩ = w8.cell? ⟨q, 0, none⟩ := by rw [hw9]; rfl
        have b0' : w9.cell? ⟨q + 1, 0, none⟩ = w8.cell? ⟨q + 1, 0, none⟩ := by rw [hw9]; rfl
        have a0 := a0'.trans a0
        have b0 := b0'.trans b0
        have HB9 : Hid (Below w.heap.size w w9) := hide (by rw [hw9]; exact below_drewN HB8.out nd)
        clear hw9 a0' b0'
        go_wp2_with fail
        go_ret
        exact ⟨rfl, HB9.out⟩

set_option maxRecDepth 100000 in
set_option maxHeartbeats 1600000 in
theorem coinl_gcd (A : Option Addr) (n c : Nat) (l : List Int) (w : World) (hI : Ints w w.heap.size A l) (hl : l.length = n) (hn : n * 8 ≤ 140737488351232) (hno : A = none → n = 0 ∧ c = 0) (h1 : 1 ≤ n) (h20 : n ≤ 20) (hlow : ∀ j y, j < n → l[j]? = some y → 1 ≤ y ∧ y ≤ 1000) (hg : gAll l ≠ 1) (hf : coinF l = (5, 0)) :
    Calls Try.prog 3 #[.slice A n c] w fun e w' => e = .returned (.bool true) ∧ Below w.heap.size w w' := by
  have CW := fun W => hide (eqBegun_any W)
  have H1 := hide (And.intro hI (And.intro hl (And.intro hn hno)))
  have CC := fun (B : Option Addr) (d : Nat) (W : World) (hB : Ints W W.heap.size B l) => hide (coins_any B n d l W hl (by omega) hB)
  have CE := fun (B : Option Addr) (d : Nat) (W : World) (h1 : Ints W W.heap.size B l) (h2 : Ints W W.heap.size A l) => hide (ints_same B A n d c l W hl (by omega) h1 h2)
  have CF := fun W => hide (refF_any 5 0 W)
  have HF := hide hf
  have HLO := hide hlow
  clear hf hlow
  clear hI hl hn hno
  go_enter Try.func3, Try.ntmps3
  go_wp2_with (at_builtin; refine wpList_copy_ints rfl _ _ rfl rfl w.heap.size A n c l rfl H1.out.2.1 H1.out.1 H1.out.2.2.2 (by have := H1.out.2.2.1; omega) ?_)
  intro A1 c1 w1 hI1 hb1
  have I1 := hide hI1
  have B1 := hide hb1
  clear hI1 hb1
  go_wp2_with fail
  refine (CC A1 c1 w1 I1.out).out.mono ?_
  rintro e w2 ⟨a, b, f, rfl, hok, hb⟩
  obtain ⟨rfl, rfl, rfl⟩ := coin_none hok HF.out (by decide)
  simp only [fv]
  have F1 := FC.made w2 5 0
  have Ba := bel_e w2 (.cells #[.int .i64 5, .int .i64 0] 24)
  have Bb := bel_e (w2.alloc (.cells #[.int .i64 5, .int .i64 0] 24)) (.cells #[.int .i64 0, .int .i64 0] 24)
  have F3 := hide (F1.below Bb)
  have G3 := hide (FC.made (w2.alloc (.cells #[.int .i64 5, .int .i64 0] 24)) 0 0)
  have K3 := hide (hb.trans ((Ba.trans (Bb.mono Ba.size)).mono hb.size))
  have HB3 := hide (B1.out.trans (K3.out.mono B1.out.size))
  have e1 : (w2.alloc (.cells #[.int .i64 5, .int .i64 0] 24)).heap.size = w2.heap.size + 1 := World.size_alloc ..
  rw [e1] at G3
  have hsz : w2.heap.size + 1 < ((w2.alloc (.cells #[.int .i64 5, .int .i64 0] 24)).alloc (.cells #[.int .i64 0, .int .i64 0] 24)).heap.size := by simp
  have hw1 := hb.size
  go_wp2_with fail
  obtain ⟨w3, hw3⟩ : ∃ Z, (w2.alloc (.cells #[.int .i64 5, .int .i64 0] 24)).alloc (.cells #[.int .i64 0, .int .i64 0] 24) = Z := ⟨_, rfl⟩
  rw [hw3] at F3 G3 K3 HB3 hsz
  (try rw [hw3])
  obtain ⟨q, hq⟩ : ∃ q, w2.heap.size = q := ⟨_, rfl⟩
  rw [hq] at F3 G3 hsz hw1
  (try rw [hq])
  clear hw3 hq e1 hb F1 Ba Bb CC
  obtain ⟨g0', g1', _, _⟩ := G3.out.cells
  go_loopw [8, 9, 10, 11] (fun gv lv hv iv wr => ∃ j : Nat, j ≤ n ∧ iv = .int .i64 j ∧ LSt l j gv lv hv ∧ wr = w3) (fun _ _ _ iv _ => n + 2 - (intOf iv).toNat)
  case atStart => exact ⟨0, by omega, rfl, LSt.start l, rfl⟩
  case round =>
    obtain ⟨j, hj, rfl, HS, rfl⟩ := hrel
    obtain ⟨g0', g1', _, _⟩ := G3.out.cells
    by_cases hjn : j < n
    · as_aux_lemma =>
      obtain ⟨ad, x, hA2, hx, hab, hac⟩ := H1.out.1.at_ (k := j) (by rw [H1.out.2.1]; omega)
      subst hA2
      have cx := (HB3.out.cell (p := ad.add j) (by rw [add_block]; exact hab)).trans hac
      have HX := hide hx
      clear hac hx
      have hr := HLO.out j x hjn HX.out
      clear CW CE
      have HG := hide (And.intro HS.gb HX.out)
      have CD := fun W => hide (refGcd_any ((gAll (l.take j) : Nat) : Int) x W (by omega) (by have := HG.out.1; omega) (by omega) (by omega))
      have HN := fun a b ha hb => hide (HS.next HX.out hr (a := a) (b := b) ha hb)
      have el := hide (lowI_snoc HX.out)
      have eh := hide (highI_snoc HX.out)
      have HSB := HS.gb
      obtain ⟨rfl, rfl, rfl⟩ : _ ∧ _ ∧ _ := ⟨HS.eg, HS.el, HS.eh⟩
      clear HS HX HG
      obtain ⟨gz, hgz⟩ : ∃ z : Int, ((gAll (l.take j) : Nat) : Int) = z := ⟨_, rfl⟩
      obtain ⟨lz, hlz⟩ : ∃ z : Int, lowI (l.take j) = z := ⟨_, rfl⟩
      obtain ⟨hz, hhz⟩ : ∃ z : Int, highI (l.take j) = z := ⟨_, rfl⟩
      rw [hlz] at el
      rw [hhz] at eh
      rw [hgz] at CD HN
      rw [hgz, hlz, hhz]
      clear hgz hlz hhz HSB
      by_cases q1 : x < lz <;> by_cases q2 : hz < x
      all_goals
        go_wp2_with fail
        refine (CD _).out.mono ?_
        rintro e w4 ⟨rfl, rfl⟩
        go_wp2_with fail
        go_roundw
        case rel => exact ⟨j + 1, by omega, by go_num, (HN _ _ (by rw [el.out]; split <;> omega) (by rw [eh.out]; split <;> omega)).out, by first | rfl | trivial⟩
        case measure => simp [intOf]; omega
    · obtain rfl : j = n := by omega
      have eT : l.take j = l := List.take_of_length_le (by rw [H1.out.2.1]; omega)
      obtain ⟨rfl, rfl, rfl⟩ : _ ∧ _ ∧ _ := ⟨HS.eg, HS.el, HS.eh⟩
      have hgb := HS.gb
      clear HS
      rw [eT] at hgb ⊢
      obtain ⟨G, hG⟩ : ∃ G : Nat, gAll l = G := ⟨_, rfl⟩
      rw [hG] at hg hgb ⊢
      have hg1 : ((G : Int) != 1) = true := by rw [bne_iff_ne]; omega
      have hg2 : decide ((G : Int) = 1) = false := by simp; omega
      clear hG hg
      go_wp2_with fail
      refine (CF _).out.mono ?_
      rintro e w4 ⟨rfl, hb⟩
      have F4 := F3.out.below hb
      have G4 := G3.out.below hb
      have HB4 := HB3.out.trans (hb.mono HB3.out.size)
      have K4 := K3.out.trans (hb.mono K3.out.size)
      have hq4 : q + 1 < w4.heap.size := Nat.lt_of_lt_of_le hsz hb.size
      have hw0 := B1.out.size
      obtain ⟨g0, g1, k0, k1⟩ := G4.cells
      have F5 := hide (show FC ((w4.setCell ⟨q + 1, 0, none⟩ (.int .i64 5)).setCell ⟨q + 1, 1, none⟩ (.int .i64 0)) q 5 0 from (far_set _ _ (by omega)).trans ((far_set w4 _ (by omega)).trans F4))
      have G5 := hide ((G4.set0 5).set1 0)
      have HB5 := hide (below_fault (u := .int .i64 5) (v := .int .i64 0) HB4 (show w.heap.size ≤ q + 1 by omega))
      have K5 := hide (below_fault (u := .int .i64 5) (v := .int .i64 0) K4 (show w1.heap.size ≤ q + 1 by omega))
      clear hb F4 G4 HB4 K4
      go_wp2_with fail
      refine (CW _).out.mono ?_
      rintro e w8 ⟨rfl, hb⟩
      have F8 := F5.out.below hb
      have G8 := G5.out.below hb
      have HB8 := hide (HB5.out.trans (hb.mono HB5.out.size))
      have K8 := hide (K5.out.trans (hb.mono K5.out.size))
      obtain ⟨a0, a1, _, _⟩ := F8.cells
      obtain ⟨b0, b1, _, _⟩ := G8.cells
      have CE8 := hide (CE A1 c1 w8 ((I1.out.below K8.out (Nat.le_refl _)).more K8.out.size) ((H1.out.1.below HB8.out (Nat.le_refl _)).more HB8.out.size))
      clear hb F8 G8
      go_wp2_with fail
      refine CE8.out.mono ?_
      rintro e w9 ⟨rfl, nd, hw9⟩
      have a0' : w9.cell? ⟨q, 0, none⟩ = w8.cell? ⟨q, 0, none⟩ := by rw [hw9]; rfl
      have b0' : w9.cell? ⟨q + 1, 0, none⟩ = w8.cell? ⟨q + 1, 0, none⟩ := by rw [hw9]; rfl
      have a0 := a0'.trans a0
      have b0 := b0'.trans b0
      have HB9 : Hid (Below w.heap.size w w9) := hide (by rw [hw9]; exact below_drewN HB8.out nd)
      clear hw9 a0' b0'
      go_wp2_with fail
      go_ret
      exact ⟨rfl, HB9.out⟩

theorem two_list {ls : List Nat} {m hi : Nat} (h : ls.length = 2) (hm : m ∈ ls) (hm2 : ∀ x ∈ ls, m ≤ x) (hh : hi ∈ ls) (hh2 : ∀ x ∈ ls, x ≤ hi) : (ls = [m, hi] ∨ ls = [hi, m]) := by
  match ls, h with
  | [x, y], _ =>
    have h1 := hm2 x (by simp)
    have h2 := hm2 y (by simp)
    have h3 := hh2 x (by simp)
    have h4 := hh2 y (by simp)
    simp at hm hh
    rcases hm with rfl | rfl <;> rcases hh with rfl | rfl
    · left; rw [show y = hi by omega]
    · exact .inl rfl
    · exact .inr rfl
    · left; rw [show x = hi by omega]
theorem gAll_nat (ls : List Nat) : gAll (ls.map fun x => ((x : Nat) : Int)) = ls.foldl Nat.gcd 0 := by
  unfold gAll
  rw [List.map_map]
  congr 1
  conv => rhs; rw [← List.map_id ls]
  exact List.map_congr_left fun x _ => rfl
/-- two coins: what the law asks -/
theorem two_law {ls : List Nat} {m hi : Nat} {L : List Int} {x y a b : Int} (hl : ls.length = 2) (hr : ∀ x ∈ ls, 1 ≤ x ∧ x ≤ 1000) (hL : Least ls m hi L) (hm : m ∈ ls) (hm2 : ∀ x ∈ ls, m ≤ x) (hh : hi ∈ ls) (hh2 : ∀ x ∈ ls, x ≤ hi) (hg : gAll (ls.map fun x => ((x : Nat) : Int)) = 1) (h1 : 1 < m) (ha : a = lastK m L m) (hb : b = manyK m L m) (hx : (ls.map fun x => ((x : Nat) : Int))[0]? = some x) (hy : (ls.map fun x => ((x : Nat) : Int))[1]? = some y) :
    ∃ P : Int, x * y = P ∧ 0 ≤ P ∧ P ≤ 1000000 ∧ 1 ≤ x ∧ x ≤ 1000 ∧ 1 ≤ y ∧ y ≤ 1000 ∧ a = P - x - y ∧ 2 * b = a + 1 := by
  have q := two_list hl hm hm2 hh hh2
  have hgg : Nat.gcd m hi = 1 := by
    rw [gAll_nat] at hg
    rcases q with e | e
    · rw [e] at hg; simpa using hg
    · rw [e] at hg; rw [Nat.gcd_comm]; simpa using hg
  have hlt : m < hi := by
    have h3 := hm2 hi hh
    rcases Nat.lt_or_eq_of_le h3 with h | h
    · exact h
    · rw [← h, Nat.gcd_self] at hgg; omega
  have hmem : ∀ x, x ∈ ls ↔ x = m ∨ x = hi := fun x => by
    rcases q with e | e
    · rw [e]; simp
    · rw [e]; simp; exact Or.comm
  have s1 := sylv_last hL hmem hgg h1 hlt
  have s2 := sylv_many hL hmem hgg h1 hlt
  have b1 := hr m hm
  have b2 := hr hi hh
  have b3 : m * hi ≤ 1000 * 1000 := Nat.mul_le_mul b1.2 b2.2
  have b4 : (m : Int) * (hi : Int) = ((m * hi : Nat) : Int) := by push_cast; rfl
  refine ⟨((m * hi : Nat) : Int), ?_⟩
  rcases q with e | e
  · rw [e] at hx hy
    simp at hx hy
    subst hx; subst hy
    exact ⟨b4, by omega, by omega, by omega, by omega, by omega, by omega, by omega, by omega⟩
  · rw [e] at hx hy
    simp at hx hy
    subst hx; subst hy
    exact ⟨by rw [Int.mul_comm]; exact b4, by omega, by omega, by omega, by omega, by omega, by omega, by omega, by omega⟩

set_option maxRecDepth 100000 in
set_option maxHeartbeats 1600000 in
theorem coinl_good (A : Option Addr) (n c : Nat) (l : List Int) (w : World) (hI : Ints w w.heap.size A l) (hl : l.length = n) (hn : n * 8 ≤ 140737488351232) (hno : A = none → n = 0 ∧ c = 0) (h1 : 1 ≤ n) (h20 : n ≤ 20) (hlow : ∀ j y, j < n → l[j]? = some y → 1 ≤ y ∧ y ≤ 1000) (hg : gAll l = 1) (hf : coinF l = (0, 0)) :
    Calls Try.prog 3 #[.slice A n c] w fun e w' => e = .returned (.bool true) ∧ Below w.heap.size w w' := by
  have CW := fun W => hide (eqBegun_any W)
  have H1 := hide (And.intro hI (And.intro hl (And.intro hn hno)))
  have CC := fun (B : Option Addr) (d : Nat) (W : World) (hB : Ints W W.heap.size B l) => hide (coins_any B n d l W hl (by omega) hB)
  have CE := fun (B : Option Addr) (d : Nat) (W : World) (h1 : Ints W W.heap.size B l) (h2 : Ints W W.heap.size A l) => hide (ints_same B A n d c l W hl (by omega) h1 h2)
  have HF := hide hf
  have HLO := hide hlow
  have HGG := hide hg
  clear hf hlow hg
  clear hI hl hn hno
  go_enter Try.func3, Try.ntmps3
  go_wp2_with (at_builtin; refine wpList_copy_ints rfl _ _ rfl rfl w.heap.size A n c l rfl H1.out.2.1 H1.out.1 H1.out.2.2.2 (by have := H1.out.2.2.1; omega) ?_)
  intro A1 c1 w1 hI1 hb1
  have I1 := hide hI1
  have B1 := hide hb1
  clear hI1 hb1
  go_wp2_with fail
  refine (CC A1 c1 w1 I1.out).out.mono ?_
  rintro e w2 ⟨a, b, f, rfl, hok, hb⟩
  obtain rfl : f = (0, 0) := hok.fault.trans HF.out
  obtain ⟨ls, m, hi, L, hls, hr, hL, hm, hm2, hh, hh2, ha, hb2⟩ := hok.some rfl
  have HLS := hide hls
  have HR := hide hr
  have HLL := hide hL
  have HMM := hide (And.intro hm (And.intro hm2 (And.intro hh hh2)))
  have HAB := hide (And.intro ha hb2)
  have hm0 := hr m hm
  have hh0 := hr hi hh
  have hml : 0 < m := by omega
  have BA := hide (lastK_is m L m)
  have BA1 := hide (lastK_bound hL m (Nat.le_refl _))
  have BB := hide (manyK_bound hL hml m (Nat.le_refl _))
  have EL : Hid (lowI l = (m : Int)) := hide (by rw [hls]; exact lowI_is hm hm2 hm0.2)
  have EH : Hid (highI l = (hi : Int)) := hide (by rw [hls]; exact highI_is hh hh2 hh0.1)
  obtain ⟨P, hP⟩ : ∃ P : Nat, m * hi = P := ⟨_, rfl⟩
  have hPB : P ≤ 1000 * 1000 := by rw [← hP]; exact Nat.mul_le_mul hm0.2 hh0.2
  have eP : (m : Int) * (hi : Int) = (P : Int) := by rw [← hP]; push_cast; rfl
  have HP := hide hP
  have hba : -1 ≤ a ∧ a ≤ 1000000 := by
    have h1 := BA.out.2.1
    have h2 := BA1.out
    rw [hP] at h2
    rw [ha]; omega
  have hbb : 0 ≤ b ∧ b ≤ 1000000000 := by
    have h2 := BB.out
    rw [hP] at h2
    have h3 : m * P ≤ 1000 * (1000 * 1000) := Nat.mul_le_mul hm0.2 hPB
    rw [hb2]; omega
  have HBB := hide hbb
  clear hls hr hL hm hm2 hh hh2 ha hb2 hP hok BA BA1 BB hml hbb
  simp only [fv]
  have F1 := FC.made w2 0 0
  have Ba := bel_e w2 (.cells #[.int .i64 0, .int .i64 0] 24)
  have Bb := bel_e (w2.alloc (.cells #[.int .i64 0, .int .i64 0] 24)) (.cells #[.int .i64 0, .int .i64 0] 24)
  have F3 := hide (F1.below Bb)
  have G3 := hide (FC.made (w2.alloc (.cells #[.int .i64 0, .int .i64 0] 24)) 0 0)
  have K3 := hide (hb.trans ((Ba.trans (Bb.mono Ba.size)).mono hb.size))
  have HB3 := hide (B1.out.trans (K3.out.mono B1.out.size))
  have e1 : (w2.alloc (.cells #[.int .i64 0, .int .i64 0] 24)).heap.size = w2.heap.size + 1 := World.size_alloc ..
  rw [e1] at G3
  have hsz : w2.heap.size + 1 < ((w2.alloc (.cells #[.int .i64 0, .int .i64 0] 24)).alloc (.cells #[.int .i64 0, .int .i64 0] 24)).heap.size := by simp
  have hw1 := hb.size
  go_wp2_with fail
  obtain ⟨w3, hw3⟩ : ∃ Z, (w2.alloc (.cells #[.int .i64 0, .int .i64 0] 24)).alloc (.cells #[.int .i64 0, .int .i64 0] 24) = Z := ⟨_, rfl⟩
  rw [hw3] at F3 G3 K3 HB3 hsz
  (try rw [hw3])
  obtain ⟨q, hq⟩ : ∃ q, w2.heap.size = q := ⟨_, rfl⟩
  rw [hq] at F3 G3 hsz hw1
  (try rw [hq])
  clear hw3 hq e1 hb F1 Ba Bb CC
  obtain ⟨g0', g1', _, _⟩ := G3.out.cells
  go_loopw [8, 9, 10, 11] (fun gv lv hv iv wr => ∃ j : Nat, j ≤ n ∧ iv = .int .i64 j ∧ LSt l j gv lv hv ∧ wr = w3) (fun _ _ _ iv _ => n + 2 - (intOf iv).toNat)
  case atStart => exact ⟨0, by omega, rfl, LSt.start l, rfl⟩
  case round =>
    obtain ⟨j, hj, rfl, HS, rfl⟩ := hrel
    obtain ⟨g0', g1', _, _⟩ := G3.out.cells
    by_cases hjn : j < n
    · as_aux_lemma =>
      obtain ⟨ad, x, hA2, hx, hab, hac⟩ := H1.out.1.at_ (k := j) (by rw [H1.out.2.1]; omega)
      subst hA2
      have cx := (HB3.out.cell (p := ad.add j) (by rw [add_block]; exact hab)).trans hac
      have HX := hide hx
      clear hac hx
      have hr := HLO.out j x hjn HX.out
      clear CW CE
      have HG := hide (And.intro HS.gb HX.out)
      have CD := fun W => hide (refGcd_any ((gAll (l.take j) : Nat) : Int) x W (by omega) (by have := HG.out.1; omega) (by omega) (by omega))
      have HN := fun a b ha hb => hide (HS.next HX.out hr (a := a) (b := b) ha hb)
      have el := hide (lowI_snoc HX.out)
      have eh := hide (highI_snoc HX.out)
      have HSB := HS.gb
      obtain ⟨rfl, rfl, rfl⟩ : _ ∧ _ ∧ _ := ⟨HS.eg, HS.el, HS.eh⟩
      clear HS HX HG
      obtain ⟨gz, hgz⟩ : ∃ z : Int, ((gAll (l.take j) : Nat) : Int) = z := ⟨_, rfl⟩
      obtain ⟨lz, hlz⟩ : ∃ z : Int, lowI (l.take j) = z := ⟨_, rfl⟩
      obtain ⟨hz, hhz⟩ : ∃ z : Int, highI (l.take j) = z := ⟨_, rfl⟩
      rw [hlz] at el
      rw [hhz] at eh
      rw [hgz] at CD HN
      rw [hgz, hlz, hhz]
      clear hgz hlz hhz HSB
      by_cases q1 : x < lz <;> by_cases q2 : hz < x
      all_goals
        go_wp2_with fail
        refine (CD _).out.mono ?_
        rintro e w4 ⟨rfl, rfl⟩
        go_wp2_with fail
        go_roundw
        case rel => exact ⟨j + 1, by omega, by go_num, (HN _ _ (by rw [el.out]; split <;> omega) (by rw [eh.out]; split <;> omega)).out, by first | rfl | trivial⟩
        case measure => simp [intOf]; omega
    · obtain rfl : j = n := by omega
      have eT : l.take j = l := List.take_of_length_le (by rw [H1.out.2.1]; omega)
      obtain ⟨rfl, rfl, rfl⟩ : _ ∧ _ ∧ _ := ⟨HS.eg, HS.el, HS.eh⟩
      have hgb := HS.gb
      clear HS
      rw [eT] at hgb ⊢
      rw [HGG.out, EL.out, EH.out]
      clear hgb eT
      go_wp2_with fail
      refine (CW _).out.mono ?_
      rintro e w8 ⟨rfl, hb⟩
      have F8 := F3.out.below hb
      have G8 := G3.out.below hb
      have HB8 := hide (HB3.out.trans (hb.mono HB3.out.size))
      have K8 := hide (K3.out.trans (hb.mono K3.out.size))
      obtain ⟨a0, a1, _, _⟩ := F8.cells
      obtain ⟨b0, b1, _, _⟩ := G8.cells
      have CE8 := hide (CE A1 c1 w8 ((I1.out.below K8.out (Nat.le_refl _)).more K8.out.size) ((H1.out.1.below HB8.out (Nat.le_refl _)).more HB8.out.size))
      clear hb F8 G8
      go_wp2_with fail
      refine CE8.out.mono ?_
      rintro e w9 ⟨rfl, nd, hw9⟩
      have a0' : w9.cell? ⟨q, 0, none⟩ = w8.cell? ⟨q, 0, none⟩ := by rw [hw9]; rfl
      have b0' : w9.cell? ⟨q + 1, 0, none⟩ = w8.cell? ⟨q + 1, 0, none⟩ := by rw [hw9]; rfl
      have a0 := a0'.trans a0
      have b0 := b0'.trans b0
      have HB9 : Hid (Below w.heap.size w w9) := hide (by rw [hw9]; exact below_drewN HB8.out nd)
      clear hw9 a0' b0'
      obtain ⟨b1, b2⟩ := HBB.out
      by_cases h2 : j = 2 ∧ 1 < m
      · as_aux_lemma =>
        obtain ⟨h2, h3⟩ := h2
        obtain ⟨ad, x, hA2, hx, hab, hac⟩ := H1.out.1.at_ (k := 0) (by rw [H1.out.2.1]; omega)
        subst hA2
        obtain ⟨ad2, y, hA2, hy, hab2, hac2⟩ := H1.out.1.at_ (k := 1) (by rw [H1.out.2.1]; omega)
        injection hA2 with hA2
        subst hA2
        rw [addr_zero] at hac
        have cx := (HB9.out.cell (p := ad) hab).trans hac
        have cy : w9.cell? ⟨ad.block, ad.off + 1, none⟩ = some (.int .i64 y) := (HB9.out.cell (p := ad.add 1) (by rw [add_block]; exact hab2)).trans hac2
        have hlen : ls.length = 2 := by
          have := H1.out.2.1
          rw [HLS.out, List.length_map] at this
          omega
        rw [HLS.out] at hx hy
        have hg1 := HGG.out
        rw [HLS.out] at hg1
        obtain ⟨P2, e2, p0, p1, x0, x1, y0, y1, ea, eb⟩ := two_law hlen HR.out HLL.out HMM.out.1 HMM.out.2.1 HMM.out.2.2.1 HMM.out.2.2.2 hg1 h3 HAB.out.1 HAB.out.2 hx hy
        have HEA := hide ea
        have HEB := hide eb
        have d1 : decide ((1 : Int) < (m : Int)) = true := by rw [decide_eq_true_eq]; omega
        clear hx hy hac hac2 hab hab2 hg1 hlen ea eb eP
        subst h2
        have w1a : (2 : Int) * b = a + 1 := HEB.out
        have w9a : P2 - x - y = a := HEA.out.symm
        have w4a : IntKind.i64.wrap (P2 - x) = P2 - x := by rw [IntKind.wrap_i64]; omega
        have w5a : IntKind.i64.wrap a = a := by rw [IntKind.wrap_i64]; omega
        have w6a : IntKind.i64.wrap P2 = P2 := by rw [IntKind.wrap_i64]; omega
        have w8a : IntKind.i64.wrap (a + 1) = a + 1 := by rw [IntKind.wrap_i64]; omega
        go_wp2_with fail
        go_quiet (fail)
        go_wp2_with fail
        go_ret
        exact ⟨rfl, below_drewN HB9.out _⟩
      · as_aux_lemma =>
        have CGA := fun W (hI : Ints W W.heap.size A (ls.map fun x => ((x : Nat) : Int))) => hide (gaps_any A j c ls m hi P L W (by have := H1.out.2.1; rw [HLS.out, List.length_map] at this; exact this) h20 hI HR.out HLL.out HMM.out.1 (by omega) (by omega))
        have I9 : Ints w9 w9.heap.size A l := (H1.out.1.below HB9.out (Nat.le_refl _)).more HB9.out.size
        rw [HLS.out] at I9
        have CG9 := hide (CGA w9 I9)
        have e1 := last_eq HLL.out (by omega) (P + 1) (by rw [HP.out]; omega)
        have e2 := many_eq HLL.out (by omega) (P + 1) (by rw [HP.out]; omega)
        rw [← HAB.out.1] at e1
        rw [← HAB.out.2] at e2
        rw [e1, e2] at CG9
        clear I9 CGA e1 e2
        have h2' : (j = 2 ∧ m ≤ 1) ∨ (j ≠ 2 ∧ j ≠ 2) := by
          by_cases h : j = 2
          · left; omega
          · right; omega
        clear h2
        rcases h2' with ⟨h2, d1⟩ | ⟨h2, d1⟩
        · subst h2
          go_wp2_with fail
          all_goals (try (exfalso; omega))
          all_goals
            refine CG9.out.out.mono ?_
            rintro e w10 ⟨rfl, hb⟩
            have HB10 := hide (HB9.out.trans (hb.mono HB9.out.size))
            clear hb
            go_wp2_with fail
            go_ret
            exact ⟨rfl, HB10.out⟩
        · go_wp2_with fail
          all_goals (try (exfalso; omega))
          all_goals
            refine CG9.out.out.mono ?_
            rintro e w10 ⟨rfl, hb⟩
            have HB10 := hide (HB9.out.trans (hb.mono HB9.out.size))
            clear hb
            go_wp2_with fail
            go_ret
            exact ⟨rfl, HB10.out⟩

theorem first_bad : ∀ (l : List Int), (∀ i y, i < l.length → l[i]? = some y → 1 ≤ y ∧ y ≤ 1000) ∨ ∃ k z, k < l.length ∧ (∀ j y, j < k → l[j]? = some y → 1 ≤ y ∧ y ≤ 1000) ∧ l[k]? = some z ∧ ¬ (1 ≤ z ∧ z ≤ 1000)
  | [] => .inl (by simp)
  | x :: r => by
    by_cases hx : 1 ≤ x ∧ x ≤ 1000
    · rcases first_bad r with h | ⟨k, z, h1, h2, h3, h4⟩
      · left
        intro i y hi hy
        cases i with
        | zero => injection hy with hy; subst hy; exact hx
        | succ i => exact h i y (by simpa using hi) (by simpa using hy)
      · right
        refine ⟨k + 1, z, by simpa using h1, fun j y hj hy => ?_, by simpa using h3, h4⟩
        cases j with
        | zero => injection hy with hy; subst hy; exact hx
        | succ j => exact h2 j y (by omega) (by simpa using hy)
    · exact .inr ⟨0, x, by simp, fun j y hj => by omega, rfl, hx⟩
theorem coins_row (A : Option Addr) (n c : Nat) (zs : List Int) (w : World) (h : IsRow .i64 w A n c zs) :
    Calls Try.prog 3 #[.slice A n c] w fun e w' => e = .returned (.bool true) ∧ Below w.heap.size w w' := by
  have a := h.ints
  obtain ⟨hI, hl, hn, hno, _⟩ := a
  clear h
  generalize zs.take n = l at hI hl
  by_cases h1 : n < 1
  · exact coinl_few A n c l w hI hl hn hno h1 (by unfold coinF; rw [if_pos (by omega)])
  by_cases h20 : 20 < n
  · exact coinl_many A n c l w hI hl hn hno h20 (by unfold coinF; rw [if_pos (by omega)])
  have hno2 : ¬ (l.length < 1 ∨ 20 < l.length) := by omega
  rcases first_bad l with hg | ⟨k, z, hk, hlow, hz, hbad⟩
  · rw [hl] at hg
    have hb : badK 0 l = (0, 0) := badK_all l 0 (good_all (by rw [hl]; exact hg))
    by_cases hgg : gAll l = 1
    · exact coinl_good A n c l w hI hl hn hno (by omega) (by omega) hg hgg (by unfold coinF; rw [if_neg hno2, hb, if_neg (by simp), if_neg (by simp [hgg])])
    · exact coinl_gcd A n c l w hI hl hn hno (by omega) (by omega) hg hgg (by unfold coinF; rw [if_neg hno2, hb, if_neg (by simp), if_pos (by simpa using hgg)])
  · have e := badK_no l 0 k z hlow hz hbad
    rw [Nat.zero_add] at e
    exact coinl_bad A n c l w hI hl hn hno (by omega) (by omega) k (by omega) hlow z hz hbad (by unfold coinF; rw [if_neg hno2, e, if_pos (by simp)])
end Go.Proofs.Ytgocnjklpafabaa
