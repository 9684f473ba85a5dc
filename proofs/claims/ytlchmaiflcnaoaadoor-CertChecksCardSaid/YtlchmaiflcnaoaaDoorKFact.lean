/- The walks of prime.Factor, of the answers' IsPrime at what the program takes for a prime, of Powers on equal lists, and of primeBegun. -/
import Derived.Test.YtlchmaiflcnaoaaDoorKPRead
import Derived.Test.YtlchmaiflcnaoaaDoorKProb
import Derived.Test.YtlchmaiflcnaoaaDoorKPadB
namespace Go.Proofs.YtlchmaiflcnaoaaDoor
open Go.RowKit

set_option maxRecDepth 100000 in
set_option maxHeartbeats 800000 in
theorem isPrime_told (p : Nat) (w : World) (h2 : 2 ≤ p) (hp : p ≤ 1000000000000000000) (hb : isB p = true) :
    Calls Tryd.prog 8 #[.int .i64 p] w fun e w' => e = .returned (.bool true) ∧ Below w.heap.size w w' := by
  rcases Nat.lt_or_ge 100000000 p with h | h
  · have O0 := hide (Own.start w)
    have CP := fun (g : Nat) (W : World) (hi : IntAt W g (p : Int)) => hide (prob_any g p 20 W hi h hp hb)
    have q1 : decide ((p : Int) < 2) = false := by rw [decide_eq_false_iff_not]; omega
    have q2 : decide (100000000 < (p : Int)) = true := by rw [decide_eq_true_eq]; omega
    have HB : Hid (-9223372036854775808 ≤ (p : Int) ∧ (p : Int) ≤ 9223372036854775807) := by unfold Hid; omega
    clear hb h h2 hp
    go_enter Tryd.func8, Tryd.ntmps8
    go_wp2_with fail
    refine (b_own O0.out p HB.out.1 HB.out.2).mono ?_
    rintro e w1 ⟨g1, rfl, O⟩
    have C := CP g1 w1 (O.at_ 0 _ _ rfl)
    have B1 := hide O.bel
    clear O CP
    go_wp2_with fail
    refine C.out.mono ?_
    rintro e w2 ⟨rfl, hb⟩
    have B2 := hide (B1.out.trans (hb.mono B1.out.size))
    go_wp2_with fail
    go_ret
    exact ⟨rfl, B2.out⟩
  · have hr := isPrime_ref (p : Int) w (by omega) (by omega)
    rw [show ((p : Int)).toNat = p from rfl, ← isB_mid h2 h, hb] at hr
    refine hr.mono ?_
    rintro e w' ⟨rfl, rfl⟩
    exact ⟨rfl, Below.refl _ _⟩

/-- Factor's word -/
def RetFactor (w : World) (n : Int) : Ending → World → Prop := fun e w' => ∃ (v : Value) (S : List Nat) (c : Int), e = .returned (.tuple #[v, fv (c, 0)]) ∧ ((1 ≤ n ∧ n ≤ 1000000000000000000) → c = 0 ∧ Rise S ∧ Told0 n.toNat S) ∧ (¬ (1 ≤ n ∧ n ≤ 1000000000000000000) → c = 3 ∧ S = [] ∧ v = .slice none 0 0) ∧ PRead w' v (grp S) ∧ Below w.heap.size w w'
theorem three_parts {S : List Nat} (hS : Rise S) (h : Told0 561 S) : S = [3, 11, 17] :=
  told_is (by omega) (by omega) hS h ⟨by decide, by decide, by decide, trivial⟩ (fun p hp => by
    simp at hp
    rcases hp with rfl | rfl | rfl
    · exact pr_chk (by omega) (by decide)
    · exact pr_chk (by omega) (by decide)
    · exact pr_chk (by omega) (by decide)) (by decide)

theorem pread_new (W : World) : PRead (W.alloc (.cells #[.int .i64 3, .int .i64 1, .int .i64 11, .int .i64 1, .int .i64 17, .int .i64 1] 64)) (.slice (some ⟨W.heap.size, 0, none⟩) 3 3) [(3, 1), (11, 1), (17, 1)] := by
  have hb : (W.alloc (.cells #[.int .i64 3, .int .i64 1, .int .i64 11, .int .i64 1, .int .i64 17, .int .i64 1] 64)).heap[W.heap.size]? = some (.cells #[.int .i64 3, .int .i64 1, .int .i64 11, .int .i64 1, .int .i64 17, .int .i64 1] 64 (0, 0)) := heap_alloc_new _ _
  refine .inr ⟨W.heap.size, 3, rfl, heap_lt hb, fun j x hx => ?_⟩
  generalize W.alloc (.cells #[.int .i64 3, .int .i64 1, .int .i64 11, .int .i64 1, .int .i64 17, .int .i64 1] 64) = W2 at hb
  generalize W.heap.size = g at hb
  match j, hx with
  | 0, hx => simp at hx; subst hx; simp [World.cell?, hb]
  | 1, hx => simp at hx; subst hx; simp [World.cell?, hb]
  | 2, hx => simp at hx; subst hx; simp [World.cell?, hb]

end Go.Proofs.YtlchmaiflcnaoaaDoor
