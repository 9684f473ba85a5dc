/- The walks of whole.Gcd and of the answers' Gcd, Size. -/
import Derived.Test.YtddnchjnbgdocaaLook
import Derived.Test.YtddnchjnbgdocaaArith
namespace Go.Proofs.Ytddnchjnbgdocaa
open Go.RowKit

theorem lookK_cases (k : Nat) (l : List Int) : lookK k l = (0, 0) ∧ (∀ x ∈ l, okB x = true) ∨ ∃ i, lookK k l = (3, i) := by
  induction l generalizing k with
  | nil => exact Or.inl ⟨rfl, by simp⟩
  | cons x r ih =>
    rw [lookK]
    cases h : okB x
    · rw [if_neg (by simp)]; exact Or.inr ⟨k, rfl⟩
    · rw [if_pos rfl]
      rcases ih (k + 1) with ⟨e, hr⟩ | ⟨i, e⟩
      · exact Or.inl ⟨e, fun y hy => by
          rcases List.mem_cons.1 hy with rfl | hy
          · exact h
          · exact hr y hy⟩
      · exact Or.inr ⟨i, e⟩

/-- a fresh slice of ints -/
theorem ints_new (w : World) (l : List Int) (T : TypeId) : Ints (w.alloc (.cells (l.map (Value.int .i64)).toArray T)) (w.alloc (.cells (l.map (Value.int .i64)).toArray T)).heap.size (some ⟨w.heap.size, 0, none⟩) l := by
  have h : (w.alloc (.cells (l.map (Value.int .i64)).toArray T)).heap[w.heap.size]? = some (.cells (l.map (Value.int .i64)).toArray T (0, 0)) := by
    show (w.heap.push _)[w.heap.size]? = _
    simp
  exact (Ints.of_block h (by simp)).more (by simp)

theorem ok_bounds {x : Int} (h : okB x = true) : -1000000000000000000 ≤ x ∧ x ≤ 1000000000000000000 := by
  unfold okB at h; simpa using h

theorem below_new2 {w w1 : World} {o o2 : Obj} (h : Below ((w.alloc o).alloc o2).heap.size ((w.alloc o).alloc o2) w1) : Below (w.alloc o).heap.size (w.alloc o) w1 := below_new h

theorem divisor_below (a b : Int) (w : World) (ha : -9223372036854775807 ≤ a) (ha2 : a ≤ 9223372036854775807) (hb : -9223372036854775807 ≤ b) (hb2 : b ≤ 9223372036854775807) :
    Calls Try.prog 42 #[.int .i64 a, .int .i64 b] w fun e w' => e = .returned (.int .i64 (Int.gcd a b)) ∧ Below w.heap.size w w' := by
  refine (divisor_any a b w ha ha2 hb hb2).mono ?_
  rintro e w2 ⟨rfl, n, rfl⟩
  exact ⟨rfl, below_drewN (Below.refl _ _) n⟩

def RetGcd (w : World) (a b : Int) : Ending → World → Prop := fun e w' => ∃ d : Int, e = .returned (.tuple #[.int .i64 d, fv (lookK 0 [a, b])]) ∧ ((lookK 0 [a, b]).1 = 0 → d = Int.gcd a b) ∧ ((lookK 0 [a, b]).1 ≠ 0 → d = 0) ∧ Below w.heap.size w w'

set_option maxHeartbeats 800000 in
theorem gcd_any (a b : Int) (w : World) :
    Calls Try.prog 12 #[.int .i64 a, .int .i64 b] w (RetGcd w a b) := by
  have L : ∀ (W : World) (g : Nat), g = W.heap.size → Hid (Calls Try.prog 41 #[.slice (some ⟨g, 0, none⟩) 2 2] (W.alloc (.cells #[.int .i64 a, .int .i64 b] 3)) (RetFault (W.alloc (.cells #[.int .i64 a, .int .i64 b] 3)) (lookK 0 [a, b]))) := fun W g hg => hg ▸ look_any _ 2 2 [a, b] _ rfl (by omega) (ints_new W [a, b] _)
  rcases lookK_cases 0 [a, b] with ⟨h, hok⟩ | ⟨i, h⟩
  · rw [h] at L
    have HE := hide h
    have ha := ok_bounds (hok a (by simp))
    have hb := ok_bounds (hok b (by simp))
    have D := fun W => hide (divisor_below a b W (by omega) (by omega) (by omega) (by omega))
    clear h hok ha hb
    go_enter Try.func12, Try.ntmps12
    go_wp2_with fail
    refine (L _ _ (by simp)).out.mono ?_
    rintro e w1 ⟨rfl, hb⟩
    simp only [fv]
    have F1 := (((FC.fresh w).below ((Below.refl _ _).alloc (Nat.le_refl _) (.cells #[.int .i64 a, .int .i64 b] 3))).below hb)
    have hlt := F1.lt
    have HB := hide (below_new (below_new2 hb))
    clear hb
    go_wp2_with fail
    refine (D _).out.mono ?_
    rintro e w2 ⟨rfl, hb2⟩
    have F2 := (F1.below ((Below.refl _ _).alloc (Nat.le_refl _) (.cells #[.int .i64 0, .int .i64 0] 24))).below hb2
    obtain ⟨d0, d1, f0, f1⟩ := F2.cells
    obtain ⟨p0, p1⟩ := F2.put 0 0
    have HB2 := hide (below_fault (u := .int .i64 0) (v := .int .i64 0) (HB.out.trans ((below_new hb2).mono HB.out.size)) (Nat.le_refl w.heap.size))
    clear hb2
    go_wp2_with fail
    exact bodyPost_ret (v := .tuple #[.int .i64 (Int.gcd a b), fv (0, 0)]) (by simp [results, Try.results12, go_sem, fv, p0, p1]) rfl ⟨_, by rw [HE.out], fun _ => rfl, fun h => by rw [HE.out] at h; simp at h, HB2.out⟩
  · rw [h] at L
    have HE := hide h
    clear h
    go_enter Try.func12, Try.ntmps12
    go_wp2_with fail
    refine (L _ _ (by simp)).out.mono ?_
    rintro e w1 ⟨rfl, hb⟩
    simp only [fv]
    have F1 := (((FC.fresh w).below ((Below.refl _ _).alloc (Nat.le_refl _) (.cells #[.int .i64 a, .int .i64 b] 3))).below hb)
    have hlt := F1.lt
    have HB := hide (below_new (below_new2 hb))
    obtain ⟨d0, d1, f0, f1⟩ := F1.cells
    obtain ⟨p0, p1, _, _⟩ := (((F1.set0 3).set1 i).below ((Below.refl _ _).alloc (Nat.le_refl _) (.cells #[.int .i64 3, .int .i64 i] 24))).cells
    have HB2 := hide (below_fault (u := .int .i64 3) (v := .int .i64 i) HB.out (Nat.le_refl w.heap.size))
    clear hb
    go_wp2_with fail
    go_region
    go_wp2_with fail
    exact bodyPost_ret (v := .tuple #[.int .i64 0, fv (3, i)]) (by simp [results, Try.results12, go_sem, fv, p0, p1]) rfl ⟨0, by rw [HE.out], fun h => by rw [HE.out] at h; simp at h, fun _ => rfl, (HB2.out.alloc HB2.out.size _).drew⟩
end Go.Proofs.Ytddnchjnbgdocaa
