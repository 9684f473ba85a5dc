/- The walks of the answers' MarkovIs, MarkovOf and Threes, and of the law's ahead. -/
import Derived.Test.YtlchmaiflcnaoaaKMarkW
import Derived.Test.YtlchmaiflcnaoaaKOwn
import Derived.Deep.RegionHeld3
import Derived.ChangeKeysEq
namespace Go.Proofs.Ytlchmaiflcnaoaa
open Go.RowKit

theorem at0 {α : Type} {a : α} {l : List α} : (a :: l)[0]? = some a := rfl
theorem at1 {α : Type} {a b : α} {l : List α} : (a :: b :: l)[1]? = some b := rfl
theorem at2 {α : Type} {a b c : α} {l : List α} : (a :: b :: c :: l)[2]? = some c := rfl
theorem at3 {α : Type} {a b c d : α} {l : List α} : (a :: b :: c :: d :: l)[3]? = some d := rfl
theorem at4 {α : Type} {a b c d e : α} {l : List α} : (a :: b :: c :: d :: e :: l)[4]? = some e := rfl
theorem Own.drw {w0 w : World} {L : List (Nat × Int)} (h : Own w0 w L) : Own w0 w.drew L := h.below (below_drewN (Below.refl _ _) 1)
theorem calls_mono {P : Program} {f : Nat} {args : Array Value} {w : World} {Q R : Ending → World → Prop} (h : Calls P f args w Q) (k : ∀ e w', Q e w' → R e w') : Calls P f args w R := h.mono k

def nthT (t : T3) : Nat → Nat
  | 0 => t.1
  | 1 => t.2.1
  | _ => t.2.2
def sS (t : T3) : Nat → Nat
  | 0 => 0
  | i + 1 => sS t i + nthT t i * nthT t i
def pP (t : T3) : Nat → Nat
  | 0 => 3
  | i + 1 => pP t i * nthT t i
def isM (t : T3) : Bool := decide (t.1 * t.1 + t.2.1 * t.2.1 + t.2.2 * t.2.2 = 3 * t.1 * t.2.1 * t.2.2)
theorem nthT_le {t : T3} (h : SmallT t) (i : Nat) : nthT t i ≤ 1000000000000000000 := by
  obtain ⟨a, b, c⟩ := h
  unfold nthT
  split <;> assumption
theorem sS_le {t : T3} (h : SmallT t) : ∀ i, sS t i ≤ i * (1000000000000000000 * 1000000000000000000)
  | 0 => by rw [sS]; omega
  | i + 1 => by
    have h1 := sS_le h i
    have h2 := Nat.mul_le_mul (nthT_le h i) (nthT_le h i)
    rw [sS, Nat.succ_mul]
    exact Nat.add_le_add h1 h2
theorem pP_le {t : T3} (h : SmallT t) : ∀ i, pP t i ≤ 3 * 1000000000000000000 ^ i
  | 0 => by rw [pP]; omega
  | i + 1 => by
    have h1 := Nat.mul_le_mul (pP_le h i) (nthT_le h i)
    rw [pP, Nat.pow_succ, ← Nat.mul_assoc]
    exact h1
/-- the bounds of one round -/
theorem mis_lims {t : T3} (h : SmallT t) {i : Nat} (hi : i ≤ 3) : (((sS t i : Nat) : Int).natAbs < lim ∧ ((pP t i : Nat) : Int).natAbs < lim ∧ ((nthT t i : Nat) : Int).natAbs < lim) ∧ (((nthT t i : Nat) : Int) * ((nthT t i : Nat) : Int)).natAbs < lim := by
  have h1 := sS_le h i
  have h2 := pP_le h i
  have h3 := nthT_le h i
  have h4 := Nat.mul_le_mul h3 h3
  have h5 : 1000000000000000000 ^ i ≤ 1000000000000000000 ^ 3 := Nat.pow_le_pow_right (by omega) hi
  have h6 : i * (1000000000000000000 * 1000000000000000000) ≤ 3 * (1000000000000000000 * 1000000000000000000) := Nat.mul_le_mul_right _ hi
  have h7 : (((nthT t i : Nat) : Int) * ((nthT t i : Nat) : Int)).natAbs = nthT t i * nthT t i := by rw [Int.natAbs_mul]; rfl
  refine ⟨⟨lim_256 ?_, lim_256 ?_, lim_256 ?_⟩, lim_256 ?_⟩
  · show sS t i < _
    omega
  · show pP t i < _
    omega
  · show nthT t i < _
    omega
  · rw [h7]; omega
theorem sS_cast (t : T3) (i : Nat) : ((sS t i : Nat) : Int) + ((nthT t i : Nat) : Int) * ((nthT t i : Nat) : Int) = ((sS t (i + 1) : Nat) : Int) := by rw [sS]; push_cast; rfl
theorem pP_cast (t : T3) (i : Nat) : ((pP t i : Nat) : Int) * ((nthT t i : Nat) : Int) = ((pP t (i + 1) : Nat) : Int) := by rw [pP]; push_cast; rfl
theorem nth_cell {W : World} {g : Nat} {t : T3} {T : TypeId} (h : W.heap[g]? = some (.cells #[.int .i64 (t.1 : Nat), .int .i64 (t.2.1 : Nat), .int .i64 (t.2.2 : Nat)] T (0, 0))) {i : Nat} (hi : i < 3) : W.cell? ⟨g, i, none⟩ = some (.int .i64 (nthT t i : Nat)) := by
  have : i = 0 ∨ i = 1 ∨ i = 2 := by omega
  rcases this with rfl | rfl | rfl <;> simp [World.cell?, h, nthT]
theorem isM_icmp (t : T3) : decide (icmp ((sS t 3 : Nat) : Int) ((pP t 3 : Nat) : Int) = 0) = isM t := by
  have e1 : sS t 3 = t.1 * t.1 + t.2.1 * t.2.1 + t.2.2 * t.2.2 := by simp [sS, nthT]
  have e2 : pP t 3 = 3 * t.1 * t.2.1 * t.2.2 := by simp [pP, nthT]
  unfold isM icmp
  rw [e1, e2]
  generalize t.1 * t.1 + t.2.1 * t.2.1 + t.2.2 * t.2.2 = a
  generalize 3 * t.1 * t.2.1 * t.2.2 = b
  by_cases h : a = b
  · subst h; simp
  · by_cases h2 : (a : Int) < (b : Int)
    · simp [h, h2]
    · have h3 : (b : Int) < (a : Int) := by omega
      simp [h, h2, h3]

/-! ## two lists of triples -/
theorem iinfo1 : (Try.prog.info? 3).map (fun i => (i.zero, i.size, i.bytes)) = some (some (.int .i64 0), 1, 8) := by kernel_rfl
theorem eqT (a1 a2 a3 b1 b2 b3 : Int) (W : World) : (Op.equalIn 10000 83 (.agg #[.int .i64 a1, .int .i64 a2, .int .i64 a3]) (.agg #[.int .i64 b1, .int .i64 b2, .int .i64 b3])).run Try.prog W = .ok (a1 == b1 && (a2 == b2 && a3 == b3)) W := by
  obtain ⟨i0, hi, _, _, _⟩ := info_parts iinfo1
  have hc : Try.prog.cellsOf 3 = 1 := by kernel_rfl
  have p0 : ∀ (x y z : Value) (W : World), (part 3 #[x, y, z] (0 * 1)).run Try.prog W = .ok x W := fun x y z W => by kernel_rfl
  have p1 : ∀ (x y z : Value) (W : World), (part 3 #[x, y, z] (1 * 1)).run Try.prog W = .ok y W := fun x y z W => by kernel_rfl
  have p2 : ∀ (x y z : Value) (W : World), (part 3 #[x, y, z] (2 * 1)).run Try.prog W = .ok z W := fun x y z W => by kernel_rfl
  rw [show (10000 : Nat) = 9999 + 1 from rfl, Go.run_equalIn_array W 9999 _ _ Try.underlying83 hi, hc]
  rw [show List.range 3 = [0, 1, 2] from rfl]
  have q : ∀ (a b : Int) (W : World), (Op.equalIn 9999 3 (.int .i64 a) (.int .i64 b)).run Try.prog W = .ok (a == b) W := fun a b W => run_equalIn_int W 9998 _ _ _ a b Try.underlying3
  have st : ∀ (i : Nat) (is : List Nat) (x y : Int) (xs ys : Array Value), (∀ W, (part 3 xs (i * 1)).run Try.prog W = .ok (.int .i64 x) W) → (∀ W, (part 3 ys (i * 1)).run Try.prog W = .ok (.int .i64 y) W) → (Op.eqItems 9999 3 1 xs ys (i :: is)).run Try.prog W = if (x == y) = true then (Op.eqItems 9999 3 1 xs ys is).run Try.prog W else .ok false W := by
    intro i is x y xs ys h1 h2
    simp only [Op.eqItems, Sem.run_bind, h1, h2, q, Result.andThen_ok]
    cases x == y <;> simp
  rw [st 0 _ a1 b1 _ _ (p0 _ _ _) (p0 _ _ _), st 1 _ a2 b2 _ _ (p1 _ _ _) (p1 _ _ _), st 2 _ a3 b3 _ _ (p2 _ _ _) (p2 _ _ _)]
  simp only [Op.eqItems, Sem.run_pure]
  cases a1 == b1 <;> cases a2 == b2 <;> cases a3 == b3 <;> simp
theorem eqT_refl (a b c : Int) (W : World) : (Op.equalIn 10000 83 (.agg #[.int .i64 a, .int .i64 b, .int .i64 c]) (.agg #[.int .i64 a, .int .i64 b, .int .i64 c])).run Try.prog W = .ok true W := by
  rw [eqT]; simp
theorem TRow.open_ {w : World} {base : Nat} {v : Value} {L : List T3} (h : TRow w base v L) : ∃ A c, v = .slice A L.length c ∧ ∀ (i : Nat) (t : T3), L[i]? = some t → ∃ g, A = some ⟨g, 0, none⟩ ∧ base ≤ g ∧ g < w.heap.size ∧ w.cell? ⟨g, i * 3, none⟩ = some (.int .i64 (t.1 : Nat)) ∧ w.cell? ⟨g, i * 3 + 1, none⟩ = some (.int .i64 (t.2.1 : Nat)) ∧ w.cell? ⟨g, i * 3 + 2, none⟩ = some (.int .i64 (t.2.2 : Nat)) := by
  rcases h with ⟨rfl, rfl⟩ | ⟨g, cap, rfl, h2, h3, h4⟩
  · exact ⟨none, 0, rfl, by simp⟩
  · exact ⟨some ⟨g, 0, none⟩, cap, rfl, fun i t ht => ⟨g, rfl, h2, h3, h4 i t ht⟩⟩

/-! ## MarkovOf -/
def xsM (z y n : Nat) : List T3 := ((List.range n).filter fun x => isM (x + 1, y + 1, z + 1)).map fun x => (x + 1, y + 1, z + 1)
def ysM (z n : Nat) : List T3 := (List.range n).flatMap fun y => xsM z y (y + 1)
theorem xsM_succ (z y n : Nat) : xsM z y (n + 1) = xsM z y n ++ (if isM (n + 1, y + 1, z + 1) then [(n + 1, y + 1, z + 1)] else []) := by
  unfold xsM
  rw [List.range_succ, List.filter_append, List.map_append]
  congr 1
  by_cases h : isM (n + 1, y + 1, z + 1) <;> simp [h]
theorem ysM_succ (z n : Nat) : ysM z (n + 1) = ysM z n ++ xsM z n (n + 1) := by
  unfold ysM
  rw [List.range_succ, List.flatMap_append]; simp
theorem mOf_succ (n : Nat) : mOf (n + 1) = mOf n ++ ysM n (n + 1) := by
  unfold mOf
  rw [List.range_succ, List.flatMap_append]
  congr 1
  simp [mRow, ysM, xsM, isM]
theorem xsM_len (z y : Nat) : ∀ n, (xsM z y n).length ≤ n
  | 0 => by simp [xsM]
  | n + 1 => by
    have := xsM_len z y n
    rw [xsM_succ, List.length_append]
    split <;> simp <;> omega
theorem ysM_len (z : Nat) : ∀ n, n ≤ 101 → (ysM z n).length ≤ n * 101
  | 0, _ => by simp [ysM]
  | n + 1, h => by
    have := ysM_len z n (by omega)
    have := xsM_len z n (n + 1)
    rw [ysM_succ, List.length_append]; omega
theorem mOf_len : ∀ n, n ≤ 100 → (mOf n).length ≤ n * 10201
  | 0, _ => by simp [mOf]
  | n + 1, h => by
    have := mOf_len n (by omega)
    have := ysM_len n (n + 1) (by omega)
    rw [mOf_succ, List.length_append]; omega
/-- a list of triples of the call's own -/
def TOwn (w : World) (base : Nat) (v : Value) (L : List T3) : Prop := w.ownsRow base 83 3 v L.length (L.flatMap encT)
theorem TOwn.nil (w : World) (base : Nat) : TOwn w base (.slice none 0 0) [] := World.ownsRow_nil _ _ _ _
theorem TOwn.row {w : World} {base : Nat} {v : Value} {L : List T3} (h : TOwn w base v L) : TRow w base v L := by
  obtain ⟨h1, h2⟩ := id h
  rcases h2 with ⟨rfl, h0⟩ | ⟨g, cap, cur, rfl, hg, hh, hc1, hc2, hc3, hc4⟩
  · exact .inl ⟨rfl, List.eq_nil_of_length_eq_zero h0⟩
  · refine .inr ⟨g, cap, rfl, hg, heap_lt hh, fun i t ht => ?_⟩
    have hi : i < L.length := (List.getElem?_eq_some_iff.1 ht).1
    have key : ∀ j, j < 3 → w.cell? ⟨g, i * 3 + j, none⟩ = (encT t)[j]? := fun j hj => by
      have h1 : (cur.toList.take (L.length * 3))[i * 3 + j]? = (L.flatMap encT)[i * 3 + j]? := by rw [hc4]
      rw [List.getElem?_take, if_pos (by omega), flat_get L i j t ht hj, Array.getElem?_toList] at h1
      simpa [World.cell?, hh] using h1
    exact ⟨key 0 (by omega), key 1 (by omega), key 2 (by omega)⟩

end Go.Proofs.Ytlchmaiflcnaoaa
