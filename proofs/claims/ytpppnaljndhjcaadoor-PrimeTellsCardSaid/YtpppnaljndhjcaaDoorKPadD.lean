/- The walks of padic.value, derive and poly. Under the bounds that each names. -/
import Derived.Test.YtpppnaljndhjcaaDoorKPadA
import Derived.Test.YtpppnaljndhjcaaDoorK0
import Derived.BigQuiet
import Derived.Handy
namespace Go.Proofs.YtpppnaljndhjcaaDoor
open Go.RowKit

theorem quietd_of {P : Program} {f : FuncId} {args : Array Value} {w : World} {k n : Nat} {v : Value}
    (h : Calls P f args (w.drewN (k + n)) fun e w' => e = .returned v ∧ ∃ m, w' = (w.drewN (k + n)).drewN m) : Calls P f args (w.drewN (k + n)) fun e w'' => e = .returned v ∧ ∃ m, w'' = w.drewN (k + m) :=
  h.mono fun _ _ ⟨he, m, hm⟩ => ⟨he, n + m, by rw [hm, World.drewN_drewN, Nat.add_assoc]⟩
theorem quietd_same {P : Program} {f : FuncId} {args : Array Value} {w : World} {k n : Nat} {v : Value}
    (h : Calls P f args (w.drewN (k + n)) fun e w' => e = .returned v ∧ w' = w.drewN (k + n)) : Calls P f args (w.drewN (k + n)) fun e w'' => e = .returned v ∧ ∃ m, w'' = w.drewN (k + m) :=
  h.mono fun _ _ ⟨he, hm⟩ => ⟨he, n, hm⟩
/-- every number is an int -/
def fits (l : List Int) : Prop := ∀ c ∈ l, -9223372036854775808 ≤ c ∧ c ≤ 9223372036854775807

/-- the derivative's numbers, left by m -/
def derM (l : List Int) (m : Int) : List Int := (derF 1 (l.drop 1)).map (· % m)
theorem derM_len (l : List Int) (m : Int) : (derM l m).length = l.length - 1 := by unfold derM; rw [List.length_map, derF_len, List.length_drop]
theorem derM_get {l : List Int} {m : Int} {i : Nat} {c : Int} (h : l[i + 1]? = some c) : (derM l m)[i]? = some (((i : Int) + 1) * c % m) := by
  unfold derM
  rw [List.getElem?_map, derF_get (l.drop 1) 1 i c (by rw [List.getElem?_drop, Nat.add_comm]; exact h)]
  simp [Int.add_comm]
theorem derM_fits {l : List Int} {m : Int} (hm : 0 < m) (hm2 : m ≤ 1000000000000000000) : fits (derM l m) := by
  intro c hc
  unfold derM at hc
  obtain ⟨d, _, rfl⟩ := List.mem_map.1 hc
  have h1 := Int.emod_nonneg d (b := m) (by omega)
  have h2 := Int.emod_lt_of_pos d hm
  show -9223372036854775808 ≤ d % m ∧ d % m ≤ 9223372036854775807
  omega
theorem one_new (W : World) (a : Value) (T : TypeId) : ∀ (j : Nat) (u : Value), [a][j]? = some u → (W.alloc (.cells #[a] T)).cell? ((⟨W.heap.size, 0, none⟩ : Addr).add j) = some u := by
  intro j u hu
  have hb : (W.alloc (.cells #[a] T)).heap[W.heap.size]? = some (.cells #[a] T (0, 0)) := by
    show (W.heap.push _)[W.heap.size]? = _
    simp
  generalize W.alloc (.cells #[a] T) = W2 at hb
  generalize W.heap.size = g at hb
  match j, hu with
  | 0, hu => simp at hu; subst hu; simp [World.cell?, Addr.add, hb]
theorem own_below {w w' : World} {base n : Nat} {v : Value} {xs : List Value} (h : w.ownsRow base 3 1 v n xs) (k : Below w.heap.size w w') : w'.ownsRow base 3 1 v n xs := by
  obtain ⟨h1, h2⟩ := h
  refine ⟨h1, ?_⟩
  rcases h2 with h2 | ⟨g, cap, cur, hv, hg, hh, r⟩
  · exact .inl h2
  · exact .inr ⟨g, cap, cur, hv, hg, (k.block g (heap_lt hh)).trans hh, r⟩
theorem own_base {w : World} {base n : Nat} {v : Value} {xs : List Value} (h : w.ownsRow base 3 1 v n xs) : ∀ k, v.ownBlock = some k → base ≤ k := fun k hk => (h.lt k hk).1
theorem take_more {l : List Int} {i : Nat} {c : Int} (h : l[i]? = some c) : l.take (i + 1) = l.take i ++ [c] := by
  obtain ⟨hi, rfl⟩ := List.getElem?_eq_some_iff.1 h
  exact List.take_succ_eq_append_getElem hi

def RetInts (w : World) (L : List Int) : Ending → World → Prop := fun e w' => ∃ (A : Option Addr) (c : Nat), e = .returned (.slice A L.length c) ∧ Ints w' w'.heap.size A L ∧ Below w.heap.size w w'

/-- poly's word -/
def polF (l : List Int) : Int × Int := if 13 < l.length then (2, 2) else if l.all okB = true then (0, 0) else (3, 2)
theorem polF_many {l : List Int} (h : 13 < l.length) : polF l = (2, 2) := by unfold polF; rw [if_pos h]
theorem polF_ok {l : List Int} (h : ¬ 13 < l.length) (h2 : l.all okB = true) : polF l = (0, 0) := by unfold polF; rw [if_neg h, if_pos h2]
theorem polF_bad {l : List Int} (h : ¬ 13 < l.length) (h2 : l.all okB = false) : polF l = (3, 2) := by unfold polF; rw [if_neg h, if_neg (by rw [h2]; simp)]
theorem all_false {l : List Int} {x : Int} (h : x ∈ l) (hx : okB x = false) : l.all okB = false := by
  rw [List.all_eq_false]; exact ⟨x, h, by rw [hx]; simp⟩

end Go.Proofs.YtpppnaljndhjcaaDoor
