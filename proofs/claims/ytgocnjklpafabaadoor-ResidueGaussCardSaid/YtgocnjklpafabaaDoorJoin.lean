/- The walk of whole.Join. -/
import Derived.Test.YtgocnjklpafabaaDoorTimes
import Derived.Test.YtgocnjklpafabaaDoorJoinLaw
namespace Go.Proofs.YtgocnjklpafabaaDoor
open Go.RowKit

/-- Join's word -/
def RetJoin (w : World) (rs ms : List Int) : Ending → World → Prop := fun e w' => ∃ o : Int × Int × Int × Int, JoinAll rs ms o ∧ e = .returned (.tuple #[.int .i64 o.1, .int .i64 o.2.1, fv o.2.2]) ∧ Below w.heap.size w w'

set_option maxRecDepth 100000 in
set_option maxHeartbeats 1600000 in
theorem join_many (A B : Option Addr) (n c m d : Nat) (rs ms : List Int) (w : World) (hrs : rs.length = n) (hms : ms.length = m) (h : 1000 < n ∨ 1000 < m) :
    Calls Tryd.prog 30 #[.slice A n c, .slice B m d] w (RetJoin w rs ms) := by
  have HJ : Hid (JoinAll rs ms (0, 0, 2, 0)) := by unfold Hid JoinAll; rw [if_pos (by omega)]
  have C := fun W => hide (fault_any 2 0 W)
  clear hrs hms
  by_cases h1 : 1000 < n
  · have q1 : decide ((1000 : Int) < (n : Int)) = true := by rw [decide_eq_true_eq]; omega
    clear h h1
    go_enter Tryd.func30, Tryd.ntmps30
    go_wp2_with fail
    refine (C _).out.mono ?_
    rintro e w1 ⟨rfl, hb⟩
    have F1 := (FC.fresh w).below hb
    obtain ⟨d0, d1, f0, f1⟩ := F1.cells
    obtain ⟨p0, p1⟩ := F1.put 2 0
    have HB2 := hide (below_fault (u := .int .i64 2) (v := .int .i64 0) (below_new hb) (Nat.le_refl w.heap.size))
    clear hb F1
    go_wp2_with fail
    exact bodyPost_ret (v := .tuple #[.int .i64 0, .int .i64 0, fv (2, 0)]) (by simp [results, Tryd.results30, go_sem, fv, p0, p1]) rfl ⟨_, HJ.out, rfl, HB2.out⟩
  · have q1 : decide ((1000 : Int) < (n : Int)) = false := by rw [decide_eq_false_iff_not]; omega
    have q2 : decide ((1000 : Int) < (m : Int)) = true := by rw [decide_eq_true_eq]; omega
    clear h h1
    go_enter Tryd.func30, Tryd.ntmps30
    go_wp2_with fail
    refine (C _).out.mono ?_
    rintro e w1 ⟨rfl, hb⟩
    have F1 := (FC.fresh w).below hb
    obtain ⟨d0, d1, f0, f1⟩ := F1.cells
    obtain ⟨p0, p1⟩ := F1.put 2 0
    have HB2 := hide (below_fault (u := .int .i64 2) (v := .int .i64 0) (below_new hb) (Nat.le_refl w.heap.size))
    clear hb F1
    go_wp2_with fail
    exact bodyPost_ret (v := .tuple #[.int .i64 0, .int .i64 0, fv (2, 0)]) (by simp [results, Tryd.results30, go_sem, fv, p0, p1]) rfl ⟨_, HJ.out, rfl, HB2.out⟩

set_option maxRecDepth 100000 in
set_option maxHeartbeats 1600000 in
theorem join_size (A B : Option Addr) (n c m d : Nat) (rs ms : List Int) (w : World) (hrs : rs.length = n) (hms : ms.length = m) (hn : n ≤ 1000) (hm : m ≤ 1000) (h : n ≠ m) :
    Calls Tryd.prog 30 #[.slice A n c, .slice B m d] w (RetJoin w rs ms) := by
  have HJ : Hid (JoinAll rs ms (0, 0, 8, 0)) := by unfold Hid JoinAll; rw [if_neg (by omega), if_pos (by omega)]
  have C := fun W => hide (fault_any 8 0 W)
  clear hrs hms
  have q1 : decide ((1000 : Int) < (n : Int)) = false := by rw [decide_eq_false_iff_not]; omega
  have q2 : decide ((1000 : Int) < (m : Int)) = false := by rw [decide_eq_false_iff_not]; omega
  have q3 : ((n : Int) != (m : Int)) = true := by simp; omega
  clear h hn hm
  · go_enter Tryd.func30, Tryd.ntmps30
    go_wp2_with fail
    refine (C _).out.mono ?_
    rintro e w1 ⟨rfl, hb⟩
    have F1 := (FC.fresh w).below hb
    obtain ⟨d0, d1, f0, f1⟩ := F1.cells
    obtain ⟨p0, p1⟩ := F1.put 8 0
    have HB2 := hide (below_fault (u := .int .i64 8) (v := .int .i64 0) (below_new hb) (Nat.le_refl w.heap.size))
    clear hb F1
    go_wp2_with fail
    exact bodyPost_ret (v := .tuple #[.int .i64 0, .int .i64 0, fv (8, 0)]) (by simp [results, Tryd.results30, go_sem, fv, p0, p1]) rfl ⟨_, HJ.out, rfl, HB2.out⟩
end Go.Proofs.YtgocnjklpafabaaDoor
