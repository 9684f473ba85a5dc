/- The walk of whole.Join: the loop. -/
import Derived.Test.YtgocnjklpafabaaJoin
namespace Go.Proofs.Ytgocnjklpafabaa
open Go.RowKit

theorem zip_drop {rs ms : List Int} {k : Nat} {a m : Int} (ha : rs[k]? = some a) (hm : ms[k]? = some m) : (rs.zip ms).drop k = (a, m) :: (rs.zip ms).drop (k + 1) := by
  have h : (rs.zip ms)[k]? = some (a, m) := List.getElem?_zip_eq_some.2 ⟨ha, hm⟩
  obtain ⟨hk, e⟩ := List.getElem?_eq_some_iff.1 h
  rw [List.drop_eq_getElem_cons hk, e]

theorem join_dvd {G m a r x y : Int} (h : G ∣ m) (hx : a % m = x) (hy : r % m = y) : G ∣ a - r ↔ G ∣ x - y := by
  have e : (a - r) - (x - y) = m * (a / m - r / m) := by
    rw [← hx, ← hy, Int.emod_def, Int.emod_def, Int.mul_sub]; omega
  have hd : G ∣ (a - r) - (x - y) := by rw [e]; exact Int.dvd_mul_of_dvd_left h
  constructor
  · intro h1
    have := Int.dvd_sub h1 hd
    rwa [show a - r - (a - r - (x - y)) = x - y from by omega] at this
  · intro h1
    have := Int.dvd_add h1 hd
    rwa [show x - y + (a - r - (x - y)) = a - r from by omega] at this

theorem Ints.cellk {w : World} {A : Option Addr} {l : List Int} {k : Nat} (h : Ints w w.heap.size A l) (hk : k < l.length) {w' : World} (hb : Below w.heap.size w w') :
    ∃ ad v, A = some ad ∧ l[k]? = some v ∧ w'.cell? (ad.add k) = some (.int .i64 v) := by
  obtain ⟨ad, v, e, hv, hl, hc⟩ := h.at_ hk
  exact ⟨ad, v, e, hv, (hb.cell (by rw [add_block]; exact hl)).trans hc⟩

end Go.Proofs.Ytgocnjklpafabaa
