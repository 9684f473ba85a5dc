/- The walk of residue.Roots at the numbers of the document's example: 4 by 15. -/
import Derived.Test.YtgocnjklpafabaaDoorResC
import Derived.Test.YtgocnjklpafabaaDoorJoinAny
import Derived.Test.YtgocnjklpafabaaDoorPartsW
import Derived.Test.YtgocnjklpafabaaDoorPRead
namespace Go.Proofs.YtgocnjklpafabaaDoor
open Go.RowKit

/-- the state behind k primes: roots so far, their number, the next list -/
def outK : Nat → List Nat
  | 0 => [0]
  | 1 => [1, 2]
  | _ => [13, 8, 7, 2]
def modK : Nat → Nat
  | 0 => 1
  | 1 => 3
  | _ => 15
def listK : Nat → List Nat
  | 0 => [1, 2]
  | _ => [3, 2]
def primeK : Nat → Nat
  | 0 => 3
  | _ => 5
/-- the number that is x by modK k and y by primeK k -/
def jnK (k x y : Nat) : Nat := ((List.range 15).find? fun r => r < modK k * primeK k && r % modK k == x && r % primeK k == y).getD 0

theorem out_next (k : Nat) (h : k < 2) : (listK k).flatMap (fun y => (outK k).map fun x => jnK k x y) = outK (k + 1) := by
  match k, h with
  | 0, _ => decide
  | 1, _ => decide
theorem join_K {k x y : Nat} (hk : k < 2) (hx : x ∈ outK k) (hy : y ∈ listK k) {o : Int × Int × Int × Int} (h : JoinAll [(x : Int), y] [(modK k : Int), primeK k] o) : o = (((jnK k x y : Nat) : Int), ((modK k * primeK k : Nat) : Int), 0, 0) := by
  refine joinAll_one h ?_
  unfold JoinAll
  rw [if_neg (by simp), if_neg (by simp)]
  match k, hk with
  | 0, _ =>
    have hx : x = 0 := by simpa [outK] using hx
    have hy : y = 1 ∨ y = 2 := by simpa [listK] using hy
    subst hx
    rcases hy with rfl | rfl
    · show JoinP 0 0 1 [(0, 1), (1, 3)] _
      rw [JoinP, if_pos (by decide), if_pos (by decide), if_pos (by decide)]
      refine ⟨0, by decide, by decide, by decide, by decide, ?_⟩
      rw [JoinP, if_pos (by decide), if_pos (by decide), if_pos (by decide)]
      exact ⟨1, by decide, by decide, by decide, by decide, rfl⟩
    · show JoinP 0 0 1 [(0, 1), (2, 3)] _
      rw [JoinP, if_pos (by decide), if_pos (by decide), if_pos (by decide)]
      refine ⟨0, by decide, by decide, by decide, by decide, ?_⟩
      rw [JoinP, if_pos (by decide), if_pos (by decide), if_pos (by decide)]
      exact ⟨2, by decide, by decide, by decide, by decide, rfl⟩
  | 1, _ =>
    have hx : x = 1 ∨ x = 2 := by simpa [outK] using hx
    have hy : y = 3 ∨ y = 2 := by simpa [listK] using hy
    rcases hx with rfl | rfl <;> rcases hy with rfl | rfl
    · show JoinP 0 0 1 [(1, 3), (3, 5)] _
      rw [JoinP, if_pos (by decide), if_pos (by decide), if_pos (by decide)]
      refine ⟨1, by decide, by decide, by decide, by decide, ?_⟩
      rw [JoinP, if_pos (by decide), if_pos (by decide), if_pos (by decide)]
      exact ⟨13, by decide, by decide, by decide, by decide, rfl⟩
    · show JoinP 0 0 1 [(1, 3), (2, 5)] _
      rw [JoinP, if_pos (by decide), if_pos (by decide), if_pos (by decide)]
      refine ⟨1, by decide, by decide, by decide, by decide, ?_⟩
      rw [JoinP, if_pos (by decide), if_pos (by decide), if_pos (by decide)]
      exact ⟨7, by decide, by decide, by decide, by decide, rfl⟩
    · show JoinP 0 0 1 [(2, 3), (3, 5)] _
      rw [JoinP, if_pos (by decide), if_pos (by decide), if_pos (by decide)]
      refine ⟨2, by decide, by decide, by decide, by decide, ?_⟩
      rw [JoinP, if_pos (by decide), if_pos (by decide), if_pos (by decide)]
      exact ⟨8, by decide, by decide, by decide, by decide, rfl⟩
    · show JoinP 0 0 1 [(2, 3), (2, 5)] _
      rw [JoinP, if_pos (by decide), if_pos (by decide), if_pos (by decide)]
      refine ⟨2, by decide, by decide, by decide, by decide, ?_⟩
      rw [JoinP, if_pos (by decide), if_pos (by decide), if_pos (by decide)]
      exact ⟨2, by decide, by decide, by decide, by decide, rfl⟩
/-- the next roots behind j whole rounds and i numbers of the next one -/
def fmi (k j i : Nat) : List Nat := ((listK k).take j).flatMap (fun y => (outK k).map fun x => jnK k x y) ++ ((outK k).take i).map (fun x => jnK k x ((listK k).getD j 0))
theorem fmi_len : ∀ k, k < 2 → ∀ j, j ≤ 2 → ∀ i, i ≤ 2 → (fmi k j i).length ≤ 6 := by decide
theorem out_len : ∀ k, k < 2 → (outK k).length ≤ 2 ∧ (listK k).length = 2 := by decide
theorem fmi_step {k j i x y : Nat} (hx : (outK k)[i]? = some x) (hy : (listK k)[j]? = some y) : fmi k j (i + 1) = fmi k j i ++ [jnK k x y] := by
  unfold fmi
  rw [List.take_add_one, hx, List.map_append, ← List.append_assoc, List.getD_eq_getElem?_getD, hy]
  rfl
theorem fmi_row {k j : Nat} (hk : k < 2) (hj : j < 2) : fmi k j (outK k).length = fmi k (j + 1) 0 := by
  match k, hk, j, hj with
  | 0, _, 0, _ => decide
  | 0, _, 1, _ => decide
  | 1, _, 0, _ => decide
  | 1, _, 1, _ => decide
theorem fmi_end {k : Nat} (hk : k < 2) : fmi k 2 0 = outK (k + 1) := by
  match k, hk with
  | 0, _ => decide
  | 1, _ => decide
theorem jn_le {k x y : Nat} (hk : k < 2) (hx : x ∈ outK k) (hy : y ∈ listK k) : jnK k x y ≤ 15 := by
  match k, hk with
  | 0, _ =>
    have hx : x = 0 := by simpa [outK] using hx
    have hy : y = 1 ∨ y = 2 := by simpa [listK] using hy
    subst hx
    rcases hy with rfl | rfl <;> decide
  | 1, _ =>
    have hx : x = 1 ∨ x = 2 := by simpa [outK] using hx
    have hy : y = 3 ∨ y = 2 := by simpa [listK] using hy
    rcases hx with rfl | rfl <;> rcases hy with rfl | rfl <;> decide
theorem out_le {k x : Nat} (hx : x ∈ outK k) : x ≤ 15 := by
  unfold outK at hx
  split at hx <;> simp at hx <;> omega
theorem list_le {k x : Nat} (hx : x ∈ listK k) : x ≤ 15 := by
  unfold listK at hx
  split at hx <;> simp at hx <;> omega
theorem fifteen {S : List Nat} (hS : Rise S) (h : Told0 15 S) : S = [3, 5] :=
  told_is (by omega) (by omega) hS h ⟨by decide, by decide, trivial⟩ (fun p hp => by
    simp at hp
    rcases hp with rfl | rfl
    · exact pr_chk (by omega) (by decide)
    · exact pr_chk (by omega) (by decide)) (by decide)
theorem rise_perm : ∀ {L M : List Nat}, Rise L → Rise M → L.Perm M → L = M := by
  intro L
  induction L with
  | nil => intro M _ _ h; exact (List.Perm.nil_eq h)
  | cons p r ih =>
    intro M hL hM h
    cases M with
    | nil => exact absurd h.length_eq (by simp)
    | cons q s =>
      have h1 : p = q := by
        have a1 : p ∈ q :: s := h.mem_iff.1 (List.mem_cons_self ..)
        have a2 : q ∈ p :: r := h.mem_iff.2 (List.mem_cons_self ..)
        rcases List.mem_cons.1 a1 with e | e
        · exact e
        · rcases List.mem_cons.1 a2 with f | f
          · exact f.symm
          · exact Nat.le_antisymm (hL.1 q f) (hM.1 p e)
      subst h1
      rw [ih hL.2 hM.2 h.cons_inv]
theorem sorted_K {S : List Nat} (h : Rise S) (hp : S.Perm [13, 8, 7, 2]) : S = [2, 7, 8, 13] :=
  rise_perm h ⟨by decide, by decide, by decide, by decide, trivial⟩ (hp.trans (by decide))
end Go.Proofs.YtgocnjklpafabaaDoor
