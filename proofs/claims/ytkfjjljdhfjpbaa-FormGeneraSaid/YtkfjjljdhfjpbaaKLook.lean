/- The walks of whole.Look and of the answers' NumbersFault: the first number that is none. -/
import Derived.Test.YtkfjjljdhfjpbaaKWhole
namespace Go.Proofs.Ytkfjjljdhfjpbaa
open Go.RowKit

/-- a fault's value -/
def fv (f : Int × Int) : Value := .agg #[.int .i64 f.1, .int .i64 f.2]
/-- the fault of the first that is no number -/
def lookK : Nat → List Int → Int × Int
  | _, [] => (0, 0)
  | k, x :: r => if okB x = true then lookK (k + 1) r else (3, k)
def RetFault (w : World) (f : Int × Int) : Ending → World → Prop := fun e w' => e = .returned (fv f) ∧ Below w.heap.size w w'

/-- block g is a fault's cell -/
def FC (w : World) (g : Nat) (a b : Int) : Prop := w.heap[g]? = some (.cells #[.int .i64 a, .int .i64 b] 26 (0, 0))
theorem FC.fresh (w : World) : FC (w.alloc (.cells #[.int .i64 0, .int .i64 0] 26)) w.heap.size 0 0 := by
  show (w.heap.push _)[w.heap.size]? = _
  simp
theorem FC.made (w : World) (x y : Int) : FC (w.alloc (.cells #[.int .i64 x, .int .i64 y] 26)) w.heap.size x y := by
  show (w.heap.push _)[w.heap.size]? = _
  simp
theorem FC.lt {w : World} {g : Nat} {a b : Int} (h : FC w g a b) : g < w.heap.size := heap_lt h
theorem FC.below {w w' : World} {g : Nat} {a b : Int} (h : FC w g a b) (k : Below w.heap.size w w') : FC w' g a b := (k.block g h.lt).trans h
theorem FC.cells {w : World} {g : Nat} {a b : Int} (h : FC w g a b) : w.cell? ⟨g, 0, none⟩ = some (.int .i64 a) ∧ w.cell? ⟨g, 1, none⟩ = some (.int .i64 b) ∧ w.frozen? ⟨g, 0, none⟩ = false ∧ w.frozen? ⟨g, 1, none⟩ = false := by
  unfold FC at h
  exact ⟨by simp [World.cell?, h], by simp [World.cell?, h], by simp [World.frozen?, h], by simp [World.frozen?, h]⟩
theorem FC.set0 {w : World} {g : Nat} {a b : Int} (h : FC w g a b) (x : Int) : FC (w.setCell ⟨g, 0, none⟩ (.int .i64 x)) g x b := by
  unfold FC at h ⊢
  simp [World.setCell, Array.getElem?_modify, h]
theorem FC.set1 {w : World} {g : Nat} {a b : Int} (h : FC w g a b) (x : Int) : FC (w.setCell ⟨g, 1, none⟩ (.int .i64 x)) g a x := by
  unfold FC at h ⊢
  simp [World.setCell, Array.getElem?_modify, h]
theorem FC.put {w : World} {g : Nat} {a b : Int} (h : FC w g a b) (x y : Int) : (w.setCell ⟨g, 0, none⟩ (.int .i64 x)).cell? ⟨g, 0, none⟩ = some (.int .i64 x) ∧ ((w.setCell ⟨g, 0, none⟩ (.int .i64 x)).setCell ⟨g, 1, none⟩ (.int .i64 y)).cell? ⟨g, 1, none⟩ = some (.int .i64 y) :=
  ⟨(h.set0 x).cells.1, ((h.set0 x).set1 y).cells.2.1⟩
theorem below_fault {w w1 : World} {B g : Nat} {u v : Value} (h : Below B w w1) (hg : B ≤ g) : Below B w ((w1.setCell ⟨g, 0, none⟩ u).setCell ⟨g, 1, none⟩ v) := (h.setCell (p := ⟨g, 0, none⟩) hg u).setCell (p := ⟨g, 1, none⟩) hg v
/-- out of a world that began with a fault's cell -/
theorem below_new {w w1 : World} {o : Obj} (h : Below (w.alloc o).heap.size (w.alloc o) w1) : Below w.heap.size w w1 := ((Below.refl _ _).alloc (Nat.le_refl _) o).trans (h.mono (by simp))

theorem lookK_yes {l : List Int} {k : Nat} {x : Int} (hx : l[k]? = some x) (h : okB x = true) : lookK k (l.drop k) = lookK (k + 1) (l.drop (k + 1)) := by
  obtain ⟨hk, rfl⟩ := List.getElem?_eq_some_iff.1 hx
  rw [List.drop_eq_getElem_cons hk, lookK, if_pos h]
theorem lookK_no {l : List Int} {k : Nat} {x : Int} (hx : l[k]? = some x) (h : okB x = false) : lookK k (l.drop k) = (3, (k : Int)) := by
  obtain ⟨hk, rfl⟩ := List.getElem?_eq_some_iff.1 hx
  rw [List.drop_eq_getElem_cons hk, lookK, if_neg (by rw [h]; simp)]
theorem lookK_end {l : List Int} {k : Nat} (h : k = l.length) : lookK k (l.drop k) = (0, 0) := by
  rw [h, List.drop_length, lookK]

set_option maxRecDepth 100000 in
set_option maxHeartbeats 800000 in
theorem look_any (A : Option Addr) (n c : Nat) (l : List Int) (w : World) (hl : l.length = n) (hn : n ≤ 1000000) (h : Ints w w.heap.size A l) :
    Calls Try.prog 54 #[.slice A n c] w (RetFault w (lookK 0 l)) := by
  have HI := hide h
  have HL := hide hl
  clear h hl
  go_enter Try.func54, Try.ntmps54
  go_wp2
  go_loopw [7] (fun x wr => ∃ k : Nat, x = .int .i64 k ∧ k ≤ n ∧ Hid (lookK 0 l = lookK k (l.drop k)) ∧ wr = w.alloc (.cells #[.int .i64 0, .int .i64 0] 26)) (fun x _ => n - (intOf x).toNat)
  case atStart => exact ⟨0, rfl, by omega, rfl, rfl⟩
  case round =>
    obtain ⟨k, rfl, hk, HK, rfl⟩ := hrel
    by_cases hkn : k < n
    · obtain ⟨ad, x, rfl, hx, hab, hac⟩ := HI.out.at_ (k := k) (by rw [HL.out]; exact hkn)
      have c1 : (w.alloc (.cells #[.int .i64 0, .int .i64 0] 26)).cell? (ad.add k) = some (.int .i64 x) := by
        rw [World.cell?_alloc_lt _ _ _ (by rw [add_block]; exact hab)]; exact hac
      have C := fun W => hide (ok_any x W)
      have C2 := fun W => hide (fault_any 3 (k : Int) W)
      have HX := hide hx
      clear hx hac
      cases ho : okB x
      · rw [ho] at C
        have HR := hide (HK.out.trans (lookK_no HX.out ho))
        go_wp2_with fail
        refine (C _).out.mono ?_
        rintro e w1 ⟨rfl, rfl⟩
        go_wp2_with fail
        refine (C2 _).out.mono ?_
        rintro e w1 ⟨rfl, hb⟩
        obtain ⟨d0, d1, f0, f1⟩ := ((FC.fresh w).below hb).cells
        obtain ⟨p0, p1⟩ := ((FC.fresh w).below hb).put 3 (k : Int)
        have HB := hide (below_fault (u := .int .i64 3) (v := .int .i64 (k : Int)) (below_new hb) (Nat.le_refl _))
        clear hb
        go_wp2_with fail
        exact bodyPost_ret (v := fv (3, k)) (by simp [results, Try.results54, go_sem, fv, p0, p1]) rfl ⟨by rw [HR.out], HB.out⟩
      · rw [ho] at C
        have HR := hide (HK.out.trans (lookK_yes HX.out ho))
        go_wp2_with fail
        refine (C _).out.mono ?_
        rintro e w1 ⟨rfl, rfl⟩
        go_wp2_with fail
        exact ⟨⟨k + 1, by simp, by omega, HR, trivial⟩, by simp [intOf]; omega⟩
    · obtain rfl : k = n := by omega
      have HR := hide (HK.out.trans (lookK_end HL.out.symm))
      go_wp2_with fail
      exact bodyPost_ret (v := .agg #[.int .i64 0, .int .i64 0]) (by simp [results, Try.results54, go_sem]) rfl ⟨by rw [HR.out]; rfl, (Below.refl _ _).alloc (Nat.le_refl _) _⟩

theorem refF_any (c n : Int) (w : World) :
    Calls Try.prog 7 #[.int .i64 c, .int .i64 n] w fun e w' => e = .returned (.agg #[.int .i64 c, .int .i64 n]) ∧ Below w.heap.size w w' := by
  go_enter Try.func7, Try.ntmps7
  go_wp2
  exact bodyPost_ret (v := .agg #[.int .i64 c, .int .i64 n]) (by simp [results, Try.results7, go_sem]) rfl ⟨rfl, (Below.refl _ _).alloc (Nat.le_refl _) _⟩

end Go.Proofs.Ytkfjjljdhfjpbaa
