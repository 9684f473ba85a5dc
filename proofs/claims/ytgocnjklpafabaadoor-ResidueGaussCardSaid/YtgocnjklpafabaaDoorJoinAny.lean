/- whole.Join in one, for all lengths. -/
import Derived.Test.YtgocnjklpafabaaDoorJoinM
namespace Go.Proofs.YtgocnjklpafabaaDoor
open Go.RowKit

theorem join_any (A B : Option Addr) (n c m d : Nat) (rs ms : List Int) (w : World) (hrs : rs.length = n) (hms : ms.length = m) (hA : Ints w w.heap.size A rs) (hB : Ints w w.heap.size B ms) :
    Calls Tryd.prog 30 #[.slice A n c, .slice B m d] w (RetJoin w rs ms) := by
  by_cases h : 1000 < n ∨ 1000 < m
  · exact join_many A B n c m d rs ms w hrs hms h
  · by_cases h2 : n = m
    · subst h2
      exact join_main A B n c d rs ms w hrs hms (by omega) hA hB
    · exact join_size A B n c m d rs ms w hrs hms (by omega) (by omega) h2
end Go.Proofs.YtgocnjklpafabaaDoor
