/- The walks of package arithmeticabig's left and right (by fewer than 32 places). Each under a bound on the numbers. -/
import Derived.Test.YtgocnjklpafabaaBigC
namespace Go.Proofs.Ytgocnjklpafabaa
open Go.RowKit

/-- what stands between the rounds of left's loop -/
structure LeftAt (l L : List Nat) (n i s o : Nat) : Prop where
  len : L.length = n + 1
  small : ∀ (t d : Nat), L[t]? = some d → d < 4294967296
  zero : ∀ t : Nat, i < t → t ≤ n → L[t]? = some 0
  at_ : L[i]? = some o
  lt : o < 2 ^ s
  val : wv L = wv (l.take i) * 2 ^ s
theorem bits_or_u32_nat (a b : Nat) (ha : a < 4294967296) (hb : b < 4294967296) :
    bits .or .u32 (a : Int) (b : Int) = ((a ||| b : Nat) : Int) := by
  have hx : a ||| b < 2 ^ 32 := Nat.or_lt_two_pow (by omega) (by omega)
  show IntKind.u32.wrap ((BitVec.ofInt 32 (a : Int) ||| BitVec.ofInt 32 (b : Int)).toNat : Int) = _
  rw [BitVec.toNat_or, ofInt_u32 a ha, ofInt_u32 b hb, IntKind.wrap_u32]
  omega
theorem pow_split {s : Nat} (hs : s < 32) : 2 ^ s * 2 ^ (32 - s) = 4294967296 := by rw [← Nat.pow_add, show s + (32 - s) = 32 from by omega]
theorem shl_mod {a s : Nat} (hs : s < 32) : a * 2 ^ s % 4294967296 = 2 ^ s * (a % 2 ^ (32 - s)) := by
  rw [← pow_split hs, Nat.mul_comm a, Nat.mul_mod_mul_left]
theorem shl_div {a s : Nat} (ha : a < 4294967296) : a * 2 ^ s / 4294967296 < 2 ^ s := by
  rw [Nat.div_lt_iff_lt_mul (by omega), Nat.mul_comm]
  exact Nat.mul_lt_mul_of_pos_left ha (Nat.pow_pos (by omega))
theorem pow_le32 {s : Nat} (hs : s < 32) : 2 ^ s ≤ 2147483648 := by
  have : 2 ^ s ≤ 2 ^ 31 := Nat.pow_le_pow_right (by omega) (by omega)
  omega
theorem LeftAt.next {l L : List Nat} {n i s o a : Nat} (h : LeftAt l L n i s o) (hs : s < 32) (hi : i < n) (ha : l[i]? = some a) (ha1 : a < 4294967296) :
    LeftAt l ((L.set i (o + a * 2 ^ s % 4294967296)).set (i + 1) (a * 2 ^ s / 4294967296)) n (i + 1) s (a * 2 ^ s / 4294967296) := by
  have hp := pow_split hs
  have hq := shl_mod (a := a) hs
  have hd := shl_div (s := s) ha1
  have hp2 := pow_le32 hs
  have hlo : o + a * 2 ^ s % 4294967296 < 4294967296 := by
    have h1 : a % 2 ^ (32 - s) + 1 ≤ 2 ^ (32 - s) := Nat.mod_lt _ (Nat.pow_pos (by omega))
    have h2 := Nat.mul_le_mul_left (2 ^ s) h1
    rw [Nat.mul_succ, hp, ← hq] at h2
    have := h.lt
    omega
  have hlen : (L.set i (o + a * 2 ^ s % 4294967296)).length = n + 1 := by simp [h.len]
  refine ⟨by simp [h.len], fun t d hd2 => ?_, fun t h1 h2 => ?_, ?_, hd, ?_⟩
  · rw [List.getElem?_set] at hd2
    split at hd2
    · split at hd2
      · injection hd2 with hd2; omega
      · cases hd2
    · rw [List.getElem?_set] at hd2
      split at hd2
      · split at hd2
        · injection hd2 with hd2; omega
        · cases hd2
      · exact h.small t d hd2
  · rw [List.getElem?_set, if_neg (by omega), List.getElem?_set, if_neg (by omega)]
    exact h.zero t (by omega) h2
  · rw [List.getElem?_set, if_pos rfl, if_pos (by rw [hlen]; omega)]
  · have h1 := wv_set (d := o + a * 2 ^ s % 4294967296) h.at_
    have h2 : (L.set i (o + a * 2 ^ s % 4294967296))[i + 1]? = some 0 := by
      rw [List.getElem?_set, if_neg (by omega)]; exact h.zero _ (by omega) (by omega)
    have h3 := wv_set (d := a * 2 ^ s / 4294967296) h2
    have h4 := h.val
    have h5 := Nat.div_add_mod (a * 2 ^ s) 4294967296
    rw [wv_take_succ ha, Nat.add_mul, ← h4]
    rw [Nat.pow_succ] at h3
    have h6 : 4294967296 ^ i * a * 2 ^ s = 4294967296 ^ i * (a * 2 ^ s) := Nat.mul_assoc _ _ _
    rw [h6]
    generalize a * 2 ^ s / 4294967296 = q at *
    generalize a * 2 ^ s % 4294967296 = m at *
    generalize a * 2 ^ s = z at *
    subst h5
    generalize 4294967296 ^ i = P at *
    grind

theorem or_u32 {o a s : Nat} (ho : o < 2 ^ s) (hs : s < 32) : bits .or .u32 (o : Int) ((a * 2 ^ s % 4294967296 : Nat) : Int) = ((o + a * 2 ^ s % 4294967296 : Nat) : Int) := by
  have hp2 := pow_le32 hs
  have hm := shl_mod (a := a) hs
  have h1 : a % 2 ^ (32 - s) + 1 ≤ 2 ^ (32 - s) := Nat.mod_lt _ (Nat.pow_pos (by omega))
  have h2 := Nat.mul_le_mul_left (2 ^ s) h1
  rw [Nat.mul_succ, pow_split hs] at h2
  rw [hm, bits_or_u32_nat _ _ (by omega) (by omega), Nat.or_comm, ← Nat.two_pow_add_eq_or_of_lt ho]
  exact congrArg Int.ofNat (by omega)
theorem left_forms {o a s : Nat} (hs : s < 32) (ha : a < 4294967296) (ho : o < 2 ^ s) :
    bits .or .u32 (o : Int) (IntKind.u64.wrap ((a : Int) * 2 ^ s) % 4294967296) = ((o + a * 2 ^ s % 4294967296 : Nat) : Int) ∧
    bits .or .u32 0 (IntKind.u64.wrap ((a : Int) * 2 ^ s) / 4294967296 % 4294967296) = ((a * 2 ^ s / 4294967296 : Nat) : Int) ∧ a * 2 ^ s / 4294967296 < 4294967296 := by
  have hp2 := pow_le32 hs
  have hd := shl_div (s := s) ha
  have h64 : a * 2 ^ s < 18446744073709551616 := Nat.lt_of_le_of_lt (Nat.mul_le_mul (Nat.le_of_lt ha) hp2) (by omega)
  rw [wrap_shl _ _ h64]
  refine ⟨?_, ?_, by omega⟩
  · rw [show ((a * 2 ^ s : Nat) : Int) % 4294967296 = ((a * 2 ^ s % 4294967296 : Nat) : Int) from by omega, or_u32 ho hs]
  · rw [show ((a * 2 ^ s : Nat) : Int) / 4294967296 % 4294967296 = ((a * 2 ^ s / 4294967296 : Nat) : Int) from by omega]
    have := bits_or_u32_nat 0 (a * 2 ^ s / 4294967296) (by omega) (by omega)
    rw [Nat.zero_or] at this
    exact this

theorem wv_div (l : List Nat) (k : Nat) (hk : k ≤ l.length) (hs : ∀ (j d : Nat), l[j]? = some d → d < 4294967296) : wv l / 4294967296 ^ k = wv (l.drop k) := by
  have hb := wv_lt (l.take k) (fun i d hd => hs i d (by
    rw [List.getElem?_take] at hd
    split at hd
    · exact hd
    · cases hd))
  rw [List.length_take, Nat.min_eq_left hk] at hb
  rw [wv_split l k hk, Nat.add_mul_div_left _ _ (Nat.pow_pos (by omega)), Nat.div_eq_of_lt hb, Nat.zero_add]
theorem right_digit {l : List Nat} {k a b s z : Nat} (hk : k ≤ l.length) (hl : ∀ (j d : Nat), l[j]? = some d → d < 4294967296) (hs : s < 32) (hd : wv (l.drop k) = a + 4294967296 * (b + 4294967296 * z)) :
    wv l / 2 ^ s / 4294967296 ^ k % 4294967296 = (a + 4294967296 * b) / 2 ^ s % 4294967296 := by
  rw [Nat.div_div_eq_div_mul, Nat.mul_comm, ← Nat.div_div_eq_div_mul, wv_div l k hk hl, hd]
  have hp := pow_split hs
  have e : a + 4294967296 * (b + 4294967296 * z) = (a + 4294967296 * b) + 2 ^ s * (4294967296 * (2 ^ (32 - s) * z)) := by
    have : 2 ^ s * (4294967296 * (2 ^ (32 - s) * z)) = 4294967296 * (4294967296 * z) := by rw [← hp]; grind
    rw [this]; omega
  rw [e, Nat.add_mul_div_left _ _ (Nat.pow_pos (by omega)), Nat.add_mul_mod_self_left]

theorem right_form (a b s : Nat) : ((a : Int) + 4294967296 * (b : Int)) / 2 ^ s % 4294967296 = (((a + 4294967296 * b) / 2 ^ s % 4294967296 : Nat) : Int) := by
  rw [Int.natCast_emod, Int.natCast_ediv, Int.natCast_add, Int.natCast_mul, Int.natCast_pow]; rfl

end Go.Proofs.Ytgocnjklpafabaa
