/- arithmeticabig's long division, walked. Under a bound on the numbers; the divisor has two words or more, the dividend three or more. -/
import Derived.Test.YtgocnjklpafabaaDivR
namespace Go.Proofs.Ytgocnjklpafabaa
open Go.RowKit

/-- the divisor moved up: s places, so that its top word has its top bit -/
theorem norm_shift {y n s : Nat} (hs : s = 32 - (blen y - 1) % 32 - 1) (hn : blen y = (n - 1) * 32 + ((blen y - 1) % 32 + 1)) (hn1 : 1 ≤ n) (h0 : y ≠ 0) :
    4294967296 ^ (n - 1) * 2147483648 ≤ y * 2 ^ s ∧ y * 2 ^ s < 4294967296 ^ n := by
  have h1 := blen_ge h0
  have h2 := lt_blen y
  have hk : (blen y - 1) % 32 < 32 := Nat.mod_lt _ (by omega)
  generalize (blen y - 1) % 32 = k at *
  have e1 : (4294967296 : Nat) ^ (n - 1) = 2 ^ ((n - 1) * 32) := by rw [Nat.mul_comm, Nat.pow_mul]
  have e2 : (4294967296 : Nat) ^ n = 2 ^ ((n - 1) * 32 + 32) := by
    rw [show (n - 1) * 32 + 32 = 32 * n from by omega, Nat.pow_mul]
  rw [hn] at h1 h2
  rw [show (n - 1) * 32 + (k + 1) - 1 = (n - 1) * 32 + k from by omega] at h1
  have e3 : (2 : Nat) ^ ((n - 1) * 32 + k) * 2 ^ s = 2 ^ ((n - 1) * 32) * 2147483648 := by
    rw [Nat.pow_add, Nat.mul_assoc, ← Nat.pow_add, show k + s = 31 from by omega]
  have e4 : (2 : Nat) ^ ((n - 1) * 32 + (k + 1)) * 2 ^ s = 2 ^ ((n - 1) * 32 + 32) := by
    rw [← Nat.pow_add, show (n - 1) * 32 + (k + 1) + s = (n - 1) * 32 + 32 from by omega]
  constructor
  · rw [e1, ← e3]; exact Nat.mul_le_mul_right _ h1
  · rw [e2, ← e4]; exact Nat.mul_lt_mul_of_pos_right h2 (Nat.pow_pos (by omega))

/-- from n words and their top word -/
theorem len_eq {l : List Nat} {n : Nat} (hn : Norm l) (hs : ∀ (j d : Nat), l[j]? = some d → d < 4294967296) (h1 : 4294967296 ^ (n - 1) ≤ wv l) (h2 : wv l < 4294967296 ^ n) (hp : 1 ≤ n) : l.length = n := by
  apply Nat.le_antisymm
  · exact norm_len hn hs h2
  · apply Nat.le_of_not_lt
    intro hc
    have h3 := wv_lt l hs
    have h4 : 4294967296 ^ l.length ≤ 4294967296 ^ (n - 1) := Nat.pow_le_pow_right (by omega) (by omega)
    omega

theorem blen_len {l : List Nat} {n : Nat} (hn : Norm l) (hs : ∀ (j d : Nat), l[j]? = some d → d < 4294967296) (hl : l.length = n) (hp : 1 ≤ n) :
    blen (wv l) = (n - 1) * 32 + ((blen (wv l) - 1) % 32 + 1) := by
  obtain ⟨m, rfl⟩ : ∃ m, n = m + 1 := ⟨n - 1, by omega⟩
  have hm : m < l.length := by omega
  have hd0 : l[m] ≠ 0 := by
    refine hn _ ?_
    rw [List.getLast?_eq_getElem?, hl, Nat.add_sub_cancel, List.getElem?_eq_getElem hm]
  have e := blen_words hl (List.getElem?_eq_getElem hm) hd0 hs
  have h2 := hs m _ (List.getElem?_eq_getElem hm)
  have h3 : blen l[m] ≤ 32 := blen_le (k := 32) h2
  have h4 : 1 ≤ blen l[m] := by
    apply Nat.le_of_not_lt
    intro hc
    have := lt_blen l[m]
    have h5 : 2 ^ blen l[m] ≤ 2 ^ 0 := Nat.pow_le_pow_right (by omega) (by omega)
    omega
  rw [Nat.add_sub_cancel]
  omega

theorem top_ge {l : List Nat} {k top : Nat} (hs : ∀ (j d : Nat), l[j]? = some d → d < 4294967296) (ht : l[k]? = some top) (hk : l.length = k + 1) (h : 4294967296 ^ k * 2147483648 ≤ wv l) : 2147483648 ≤ top := by
  have h3 := wv_split l k (by omega)
  have h4 := wv_drop ht
  rw [List.drop_eq_nil_of_le (show l.length ≤ k + 1 by omega)] at h4
  rw [h4] at h3
  simp only [wv, Nat.mul_zero, Nat.add_zero] at h3
  have h5 := wv_lt (l.take k) (fun i d hd => hs i d (by
    rw [List.getElem?_take] at hd
    split at hd
    · exact hd
    · cases hd))
  rw [List.length_take, Nat.min_eq_left (by omega)] at h5
  apply Nat.le_of_lt_succ
  apply Nat.lt_of_mul_lt_mul_left (a := 4294967296 ^ k)
  show 4294967296 ^ k * 2147483648 < 4294967296 ^ k * (top + 1)
  rw [Nat.mul_add _ top 1]
  omega
theorem splice_wcs {l : List Nat} {n N : Nat} (hl : l.length = n) : (splice (wcs (List.replicate N 0)).toList 0 (wcs l).toList).toArray = wcs (l ++ List.replicate (N - n) 0) := by
  simp [splice, wcs, hl, List.drop_replicate]
theorem addr_new (g j : Nat) : (⟨g, 0, none⟩ : Addr).add j = ⟨g, j, none⟩ := by
  unfold Addr.add
  split
  · rename_i h0; subst h0; rfl
  · simp
theorem usize : (Try.prog.info? 82).map (·.size) = some 1 := by kernel_rfl

end Go.Proofs.Ytgocnjklpafabaa
