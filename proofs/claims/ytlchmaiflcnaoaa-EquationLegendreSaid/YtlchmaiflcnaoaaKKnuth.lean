/- Plain laws of long division word by word (Knuth's algorithm D), on lists of words. Each under the hypotheses that it names. -/
import Derived.Test.YtlchmaiflcnaoaaKBigD
namespace Go.Proofs.Ytlchmaiflcnaoaa
open Go.RowKit

/-! ### the guess -/

/-- A guess at a digit, T the digit of the first words (not above B - 1): q * y1 + r = u. -/
structure Gs (Y y1 y0 u n T q r : Nat) : Prop where
  sum : q * y1 + r = u
  ge : T ≤ q
  le : q ≤ 4294967297
  hi : 4294967296 ≤ q → r + (q - 4294967296) * y1 < 4294967296
  t : T = min ((u * 4294967296 + n) / Y) 4294967295
  hY : Y = y1 * 4294967296 + y0
  y0lt : y0 < 4294967296
  y1ge : 2147483648 ≤ y1

theorem Gs.start {Y y1 y0 u n : Nat} (hY : Y = y1 * 4294967296 + y0) (h0 : y0 < 4294967296) (h1 : 2147483648 ≤ y1) (hu : u ≤ Y) (hn : n < 4294967296) :
    Gs Y y1 y0 u n (min ((u * 4294967296 + n) / Y) 4294967295) (u / y1) (u % y1) := by
  have hd := Nat.div_add_mod u y1
  refine ⟨by rw [Nat.mul_comm]; exact hd, ?_, ?_, ?_, rfl, hY, h0, h1⟩
  · have hq := Nat.div_mul_le_self (u * 4294967296 + n) Y
    have h2 : (u * 4294967296 + n) / Y ≤ u / y1 := by
      rw [Nat.le_div_iff_mul_le (by omega)]
      generalize (u * 4294967296 + n) / Y = t at hq
      subst hY
      rw [Nat.mul_add, ← Nat.mul_assoc] at hq
      generalize t * y1 = z at hq ⊢
      omega
    generalize (u * 4294967296 + n) / Y = t at *
    omega
  · apply Nat.le_of_lt_succ
    rw [Nat.div_lt_iff_lt_mul (by omega)]
    omega
  · intro hq
    have e : u = y1 * (u / y1 - 4294967296) + (y1 * 4294967296 + u % y1) := by
      obtain ⟨p, hp⟩ : ∃ p, u / y1 = 4294967296 + p := ⟨u / y1 - 4294967296, by omega⟩
      rw [hp] at hd ⊢
      rw [Nat.add_sub_cancel_left, ← Nat.add_assoc, ← Nat.mul_add, Nat.add_comm p]
      exact hd.symm
    rw [Nat.mul_comm (u / y1 - 4294967296)]
    generalize y1 * (u / y1 - 4294967296) = z at *
    generalize u % y1 = r at *
    omega

theorem Gs.lt_of {Y y1 y0 u n T q r : Nat} (h : Gs Y y1 y0 u n T q r) (ht : 4294967296 ≤ q ∨ 4294967296 * r + n < q * y0) : T < q := by
  have hp : 0 < Y := by have := h.y1ge; have := h.hY; omega
  rcases ht with ht | ht
  · have := h.t
    generalize (u * 4294967296 + n) / Y = t at *
    omega
  · have e : q * Y = (u - r) * 4294967296 + q * y0 := by
      have := h.sum
      have : u - r = q * y1 := by omega
      rw [this, h.hY, Nat.mul_add, Nat.mul_assoc]
    have hs := h.sum
    have h2 : (u * 4294967296 + n) / Y < q := by
      rw [Nat.div_lt_iff_lt_mul hp, e]
      generalize q * y0 = z at *
      generalize q * y1 = z2 at *
      omega
    have := h.t
    generalize (u * 4294967296 + n) / Y = t at *
    omega
theorem Gs.down {Y y1 y0 u n T q r : Nat} (h : Gs Y y1 y0 u n T q r) (ht : 4294967296 ≤ q ∨ 4294967296 * r + n < q * y0) : Gs Y y1 y0 u n T (q - 1) (r + y1) := by
  have hlt := h.lt_of ht
  obtain ⟨p, rfl⟩ : ∃ p, q = p + 1 := ⟨q - 1, by omega⟩
  have := h.sum
  have hl := h.le
  refine ⟨?_, by omega, by omega, ?_, h.t, h.hY, h.y0lt, h.y1ge⟩
  · rw [Nat.add_sub_cancel]
    rw [Nat.add_mul] at this
    omega
  · intro hq
    rw [Nat.add_sub_cancel] at hq ⊢
    obtain rfl : p = 4294967296 := by omega
    have := h.hi (by omega)
    omega
theorem Gs.out {Y y1 y0 u n T q r : Nat} (h : Gs Y y1 y0 u n T q r) (hq : q < 4294967296) (ht : ¬ 4294967296 * r + n < q * y0) : q = T := by
  have hp : 0 < Y := by have := h.y1ge; have := h.hY; omega
  have e : q * Y = (u - r) * 4294967296 + q * y0 := by
    have := h.sum
    have : u - r = q * y1 := by omega
    rw [this, h.hY, Nat.mul_add, Nat.mul_assoc]
  have hs := h.sum
  have h2 : q ≤ (u * 4294967296 + n) / Y := by
    rw [Nat.le_div_iff_mul_le hp, e]
    generalize q * y0 = z at *
    generalize q * y1 = z2 at *
    omega
  have := h.t
  have := h.ge
  generalize (u * 4294967296 + n) / Y = t at *
  omega
theorem Gs.stop {Y y1 y0 u n T q r : Nat} (h : Gs Y y1 y0 u n T q r) (ht : 4294967296 ≤ q ∨ 4294967296 * r + n < q * y0) (hr : 4294967296 ≤ r + y1) : q - 1 = T := by
  have a := h.down ht
  have hq : q - 1 < 4294967296 := by
    apply Nat.lt_of_not_le
    intro hc
    have := a.hi hc
    generalize (q - 1 - 4294967296) * y1 = z at *
    omega
  refine a.out hq ?_
  have : (q - 1) * y0 ≤ 4294967295 * 4294967295 := Nat.mul_le_mul (by omega) (by have := h.y0lt; omega)
  omega

/-! ### one digit -/

/-- Of the window W (below B V), V = Y P + v, W = (h B + n) P + w: the guess is the digit or one more. -/
theorem guess_near {W V Y P v w h n T : Nat} (hV : V = Y * P + v) (hv : v < P) (hW : W = (h * 4294967296 + n) * P + w) (hw : w < P) (hY : 9223372036854775808 ≤ Y) (hlt : W < 4294967296 * V)
    (hT : T = min ((h * 4294967296 + n) / Y) 4294967295) : W / V ≤ T ∧ T ≤ W / V + 1 := by
  have hP : 0 < P := by omega
  have hVp : 0 < V := by
    have : 1 * 1 ≤ Y * P := Nat.mul_le_mul (by omega) hP
    omega
  have hd1 : W / V < 4294967296 := by rw [Nat.div_lt_iff_lt_mul hVp]; exact hlt
  have hqV := Nat.div_mul_le_self W V
  have hqV2 : W < (W / V + 1) * V := by
    have h1 := Nat.div_add_mod W V
    have h2 := Nat.mod_lt W hVp
    rw [Nat.add_mul, Nat.mul_comm (W / V)]
    omega
  generalize W / V = q at *
  generalize hN : h * 4294967296 + n = N at *
  constructor
  · have h1 : q ≤ N / Y := by
      rw [Nat.le_div_iff_mul_le (by omega)]
      apply Nat.le_of_lt_succ
      apply Nat.lt_of_mul_lt_mul_right (a := P)
      have : q * Y * P ≤ q * V := by rw [Nat.mul_assoc]; exact Nat.mul_le_mul_left _ (by omega)
      rw [Nat.succ_mul]
      omega
    generalize N / Y = t at *
    omega
  · apply Nat.le_of_not_lt
    intro hc
    have hTN : T ≤ N / Y := by rw [hT]; exact Nat.min_le_left _ _
    have hTY : T * Y ≤ N := by
      have := Nat.div_mul_le_self N Y
      exact Nat.le_trans (Nat.mul_le_mul_right _ hTN) this
    have h1 : T * Y * P ≤ W := by
      have := Nat.mul_le_mul_right P hTY
      omega
    have h2 : (q + 1) * V < (q + 1) * ((Y + 1) * P) := Nat.mul_lt_mul_of_pos_left (by rw [Nat.add_mul]; omega) (by omega)
    have h3 : T * Y * P < (q + 1) * (Y + 1) * P := by rw [Nat.mul_assoc (q + 1)]; omega
    have h4 := Nat.lt_of_mul_lt_mul_right h3
    have h5 : (q + 1) * (Y + 1) ≤ (T - 1) * (Y + 1) := Nat.mul_le_mul_right _ (by omega)
    obtain ⟨p, rfl⟩ : ∃ p, T = p + 1 := ⟨T - 1, by omega⟩
    rw [Nat.add_sub_cancel] at h5
    have h6 : p + 1 ≤ 4294967295 := by rw [hT]; exact Nat.min_le_right _ _
    have e1 : (p + 1) * Y = p * Y + Y := by rw [Nat.add_mul, Nat.one_mul]
    have e2 : p * (Y + 1) = p * Y + p := by rw [Nat.mul_add, Nat.mul_one]
    rw [e1] at h4
    rw [e2] at h5
    omega


/-! ### multiply and take away, put back: the list U, as it was Z, from place j on -/

structure Ms (Z U v : List Nat) (j g i c d : Nat) : Prop where
  len : U.length = Z.length
  small : ∀ (t e : Nat), U[t]? = some e → e < 4294967296
  below : ∀ t : Nat, t < j → U[t]? = Z[t]?
  above : ∀ t : Nat, j + i ≤ t → U[t]? = Z[t]?
  val : wv U + 4294967296 ^ j * (g * wv (v.take i)) = wv Z + 4294967296 ^ (j + i) * (c + d)
theorem Ms.start {Z : List Nat} (v : List Nat) (j g : Nat) (hs : ∀ (t e : Nat), Z[t]? = some e → e < 4294967296) : Ms Z Z v j g 0 0 0 :=
  ⟨rfl, hs, fun _ _ => rfl, fun _ _ => rfl, by simp [wv]⟩
theorem set_small {L : List Nat} {k x : Nat} (hs : ∀ (t e : Nat), L[t]? = some e → e < 4294967296) (hx : x < 4294967296) : ∀ (t e : Nat), (L.set k x)[t]? = some e → e < 4294967296 := by
  intro t e he
  rw [List.getElem?_set] at he
  split at he
  · split at he
    · injection he with he; omega
    · cases he
  · exact hs t e he
theorem Ms.next {Z U v : List Nat} {j g i c d b o D e : Nat} (h : Ms Z U v j g i c d) (ho : U[i + j]? = some o) (hb : v[i]? = some b) (hD : D < 4294967296)
    (hval : o + 4294967296 * e = D + (c + g * b) % 4294967296 + d) : Ms Z (U.set (i + j) D) v j g (i + 1) ((c + g * b) / 4294967296) e := by
  refine ⟨by simp [h.len], set_small h.small hD, fun t ht => ?_, fun t ht => ?_, ?_⟩
  · rw [List.getElem?_set, if_neg (by omega)]; exact h.below t ht
  · rw [List.getElem?_set, if_neg (by omega)]; exact h.above t (by omega)
  · have h1 := wv_set (d := D) ho
    have h2 := h.val
    have h3 := Nat.div_add_mod (c + g * b) 4294967296
    rw [wv_take_succ hb, ← Nat.add_assoc j i 1, Nat.pow_succ]
    rw [Nat.add_comm i j] at h1 ⊢
    generalize (c + g * b) % 4294967296 = lo at *
    generalize (c + g * b) / 4294967296 = hi at *
    have h5 : 4294967296 ^ (j + i) = 4294967296 ^ j * 4294967296 ^ i := Nat.pow_add _ _ _
    have h6 : 4294967296 ^ j * (g * (wv (v.take i) + 4294967296 ^ i * b)) = 4294967296 ^ j * (g * wv (v.take i)) + 4294967296 ^ (j + i) * (g * b) := by rw [h5]; grind
    have h7 : 4294967296 ^ (j + i) * (o + 4294967296 * e) = 4294967296 ^ (j + i) * (D + lo + d) := by rw [hval]
    have h8 : 4294967296 ^ (j + i) * (4294967296 * hi + lo) = 4294967296 ^ (j + i) * (c + g * b) := by rw [h3]
    rw [h6]
    generalize 4294967296 ^ (j + i) = P at *
    generalize 4294967296 ^ j * (g * wv (v.take i)) = K at *
    generalize wv (U.set (j + i) D) = a1 at *
    generalize wv U = a2 at *
    generalize wv Z = a3 at *
    grind

/-- what the last word of the window makes of it -/
structure Sub (Z U : List Nat) (j n g V e : Nat) : Prop where
  len : U.length = Z.length
  small : ∀ (t x : Nat), U[t]? = some x → x < 4294967296
  below : ∀ t : Nat, t < j → U[t]? = Z[t]?
  above : ∀ t : Nat, j + n + 1 ≤ t → U[t]? = Z[t]?
  val : wv U + 4294967296 ^ j * (g * V) = wv Z + 4294967296 ^ (j + n + 1) * e
theorem Ms.last {Z U v : List Nat} {j g n c d o D e : Nat} (h : Ms Z U v j g n c d) (hn : v.length = n) (ho : U[j + n]? = some o) (hD : D < 4294967296)
    (hval : o + 4294967296 * e = D + c + d) : Sub Z (U.set (j + n) D) j n g (wv v) e := by
  refine ⟨by simp [h.len], set_small h.small hD, fun t ht => ?_, fun t ht => ?_, ?_⟩
  · rw [List.getElem?_set, if_neg (by omega)]; exact h.below t ht
  · rw [List.getElem?_set, if_neg (by omega)]; exact h.above t (by omega)
  · have h1 := wv_set (d := D) ho
    have h2 := h.val
    rw [List.take_of_length_le (by omega)] at h2
    rw [Nat.pow_succ]
    have h7 : 4294967296 ^ (j + n) * (o + 4294967296 * e) = 4294967296 ^ (j + n) * (D + c + d) := by rw [hval]
    generalize 4294967296 ^ (j + n) = P at *
    generalize 4294967296 ^ j * (g * wv v) = K at *
    generalize wv (U.set (j + n) D) = a1 at *
    generalize wv U = a2 at *
    generalize wv Z = a3 at *
    grind

structure Ab (Z U v : List Nat) (j i c : Nat) : Prop where
  len : U.length = Z.length
  small : ∀ (t e : Nat), U[t]? = some e → e < 4294967296
  below : ∀ t : Nat, t < j → U[t]? = Z[t]?
  above : ∀ t : Nat, j + i ≤ t → U[t]? = Z[t]?
  val : wv U + 4294967296 ^ (j + i) * c = wv Z + 4294967296 ^ j * wv (v.take i)
theorem Ab.start {Z : List Nat} (v : List Nat) (j : Nat) (hs : ∀ (t e : Nat), Z[t]? = some e → e < 4294967296) : Ab Z Z v j 0 0 :=
  ⟨rfl, hs, fun _ _ => rfl, fun _ _ => rfl, by simp [wv]⟩
theorem Ab.next {Z U v : List Nat} {j i c b o : Nat} (h : Ab Z U v j i c) (ho : U[i + j]? = some o) (hb : v[i]? = some b) :
    Ab Z (U.set (i + j) ((c + (o + b)) % 4294967296)) v j (i + 1) ((c + (o + b)) / 4294967296) := by
  refine ⟨by simp [h.len], set_small h.small (Nat.mod_lt _ (by omega)), fun t ht => ?_, fun t ht => ?_, ?_⟩
  · rw [List.getElem?_set, if_neg (by omega)]; exact h.below t ht
  · rw [List.getElem?_set, if_neg (by omega)]; exact h.above t (by omega)
  · have h1 := wv_set (d := (c + (o + b)) % 4294967296) ho
    have h2 := h.val
    have h3 := Nat.div_add_mod (c + (o + b)) 4294967296
    rw [wv_take_succ hb, ← Nat.add_assoc j i 1, Nat.pow_succ]
    rw [Nat.add_comm i j] at h1 ⊢
    generalize (c + (o + b)) % 4294967296 = lo at *
    generalize (c + (o + b)) / 4294967296 = hi at *
    have h5 : 4294967296 ^ (j + i) = 4294967296 ^ j * 4294967296 ^ i := Nat.pow_add _ _ _
    have h6 : 4294967296 ^ j * (wv (v.take i) + 4294967296 ^ i * b) = 4294967296 ^ j * wv (v.take i) + 4294967296 ^ (j + i) * b := by rw [h5]; grind
    have h8 : 4294967296 ^ (j + i) * (4294967296 * hi + lo) = 4294967296 ^ (j + i) * (c + (o + b)) := by rw [h3]
    rw [h6]
    generalize 4294967296 ^ (j + i) = P at *
    generalize 4294967296 ^ j * wv (v.take i) = K at *
    generalize wv (U.set (j + i) lo) = a1 at *
    generalize wv U = a2 at *
    generalize wv Z = a3 at *
    grind

/-! ### the whole -/

/-- what stands between the rounds: places from k on are done. X the dividend, V the divisor (moved up), n its words, N the dividend's. -/
structure Kn (U Q : List Nat) (N M n V X k : Nat) : Prop where
  len : U.length = N
  small : ∀ (t e : Nat), U[t]? = some e → e < 4294967296
  qlen : Q.length = M
  qsmall : ∀ (t e : Nat), Q[t]? = some e → e < 4294967296
  val : wv U + 4294967296 ^ k * (V * wv (Q.drop k)) = X
  lt : wv (U.drop k) < V

/-- a list's value when it is as another one was below j -/
theorem wv_below {Z U : List Nat} {j : Nat} (hb : ∀ t : Nat, t < j → U[t]? = Z[t]?) (hj : j ≤ U.length) : wv U = wv (Z.take j) + 4294967296 ^ j * wv (U.drop j) := by
  have e : U.take j = Z.take j := by
    apply List.ext_getElem?
    intro t
    rw [List.getElem?_take, List.getElem?_take]
    split
    · rename_i h; exact hb t h
    · rfl
  rw [wv_split U j hj, e]

theorem Kn.step {U Z Q : List Nat} {N M n V X j q : Nat} (h : Kn Z Q N M n V X (j + 1)) (hl : U.length = Z.length) (hs : ∀ (t e : Nat), U[t]? = some e → e < 4294967296)
    (hb : ∀ t : Nat, t < j → U[t]? = Z[t]?) (hv : wv U + 4294967296 ^ j * (q * V) = wv Z) (hq : q = wv (Z.drop j) / V) (hq2 : q < 4294967296) (hj : j < M) (hjN : j ≤ N) : Kn U (Q.set j q) N M n V X j := by
  have hVp : 0 < V := Nat.lt_of_le_of_lt (Nat.zero_le _) h.lt
  refine ⟨by rw [hl, h.len], hs, by simp [h.qlen], set_small h.qsmall hq2, ?_, ?_⟩
  · have e1 : (Q.set j q)[j]? = some q := by rw [List.getElem?_set, if_pos rfl, if_pos (by rw [h.qlen]; exact hj)]
    rw [wv_drop e1, List.drop_set_of_lt (by omega)]
    have h2 := h.val
    rw [Nat.pow_succ] at h2
    generalize wv (Q.drop (j + 1)) = a at *
    generalize 4294967296 ^ j = P at *
    generalize wv U = u at *
    generalize wv Z = z at *
    grind
  · have h1 := wv_below hb (by rw [hl, h.len]; exact hjN)
    have h3 := wv_split Z j (by rw [h.len]; exact hjN)
    have hd := Nat.div_add_mod (wv (Z.drop j)) V
    have hm := Nat.mod_lt (wv (Z.drop j)) hVp
    rw [← hq] at hd
    rw [h1, h3] at hv
    have hP : 0 < 4294967296 ^ j := Nat.pow_pos (by omega)
    have h4 : 4294967296 ^ j * (wv (U.drop j) + q * V) = 4294967296 ^ j * wv (Z.drop j) := by
      rw [Nat.mul_add]; omega
    have h5 := Nat.eq_of_mul_eq_mul_left hP h4
    rw [Nat.mul_comm q V] at h5
    omega

/-- the words past the window are noughts -/
theorem Kn.zeros {Z Q : List Nat} {N M n V X k : Nat} (h : Kn Z Q N M n V X k) (hV : V < 4294967296 ^ n) : ∀ t x : Nat, k + n ≤ t → Z[t]? = some x → x = 0 := by
  intro t x ht hx
  apply Nat.eq_zero_of_not_pos
  intro hc
  obtain ⟨h1, e1⟩ := List.getElem?_eq_some_iff.1 hx
  have hk : (Z.drop k)[t - k]? = some x := by rw [List.getElem?_drop, show k + (t - k) = t from by omega]; exact hx
  have h3 : wv (Z.drop k) = wv ((Z.drop k).take (t - k)) + 4294967296 ^ (t - k) * wv ((Z.drop k).drop (t - k)) := wv_split _ _ (by rw [List.length_drop]; omega)
  rw [wv_drop hk] at h3
  have h4 : 4294967296 ^ n ≤ 4294967296 ^ (t - k) := Nat.pow_le_pow_right (by omega) (by omega)
  have h5 : 4294967296 ^ (t - k) * 1 ≤ 4294967296 ^ (t - k) * (x + 4294967296 * wv ((Z.drop k).drop (t - k + 1))) := Nat.mul_le_mul_left _ (by omega)
  have := h.lt
  omega

theorem wv_allzero : ∀ (L : List Nat), (∀ t x : Nat, L[t]? = some x → x = 0) → wv L = 0 := by
  intro L
  induction L with
  | nil => intro _; rfl
  | cons a L ih =>
    intro hL
    have h0 := hL 0 a rfl
    have := ih (fun t x hx => hL (t + 1) x (by simpa using hx))
    simp [wv, this, h0]
theorem win_lt {Z U : List Nat} {j m : Nat} (hs : ∀ (t e : Nat), U[t]? = some e → e < 4294967296) (ha : ∀ t : Nat, j + m ≤ t → U[t]? = Z[t]?) (hz : ∀ t x : Nat, j + m ≤ t → Z[t]? = some x → x = 0) (hN : j + m ≤ U.length) :
    wv (U.drop j) < 4294967296 ^ m := by
  have h6 := wv_split (U.drop j) m (by rw [List.length_drop]; omega)
  have h7 : wv ((U.drop j).drop m) = 0 := by
    apply wv_allzero
    intro t x hx
    rw [List.drop_drop, List.getElem?_drop, ha _ (by omega)] at hx
    exact hz _ x (by omega) hx
  have h8 := wv_lt ((U.drop j).take m) (fun i d hd => hs (j + i) d (by
    rw [List.getElem?_take] at hd
    split at hd
    · rw [List.getElem?_drop] at hd; exact hd
    · cases hd))
  rw [List.length_take, List.length_drop, Nat.min_eq_left (by omega)] at h8
  rw [h6, h7, Nat.mul_zero, Nat.add_zero]; exact h8

/-- taking away g times V: where g is the digit, all is well; where it is one more, there is a borrow -/
theorem Sub.flag {Z U : List Nat} {j n g V e : Nat} (h : Sub Z U j n g V e) (hz : ∀ t x : Nat, j + n + 1 ≤ t → Z[t]? = some x → x = 0) (hN : j + n + 1 ≤ Z.length) (hV : 0 < V)
    (hg : wv (Z.drop j) / V = g ∨ wv (Z.drop j) / V + 1 = g) (he : e ≤ 1) : (e = 0 ↔ wv (Z.drop j) / V = g) := by
  have hd := Nat.div_add_mod (wv (Z.drop j)) V
  have hm := Nat.mod_lt (wv (Z.drop j)) hV
  have hP : 0 < 4294967296 ^ j := Nat.pow_pos (by omega)
  have hv := h.val
  rw [wv_below h.below (by rw [h.len]; omega), wv_split Z j (by omega), show j + n + 1 = j + (n + 1) from rfl, Nat.pow_add] at hv
  have h4 : 4294967296 ^ j * (wv (U.drop j) + g * V) = 4294967296 ^ j * (wv (Z.drop j) + 4294967296 ^ (n + 1) * e) := by
    rw [Nat.mul_add, Nat.mul_add, ← Nat.mul_assoc _ _ e]; omega
  have h5 := Nat.eq_of_mul_eq_mul_left hP h4
  have hu : wv (U.drop j) < 4294967296 ^ (n + 1) := win_lt h.small (fun t ht => h.above t (by omega)) (fun t x ht => hz t x (by omega)) (by rw [h.len]; omega)
  clear h4 hv hP hz hN h
  generalize 4294967296 ^ (n + 1) = R at *
  generalize wv (U.drop j) = u at *
  generalize wv (Z.drop j) = z at *
  constructor
  · intro he0
    subst he0
    rcases hg with hg | hg
    · exact hg
    · exfalso
      rw [← hg, Nat.add_mul, Nat.mul_comm (z / V), Nat.mul_zero, Nat.one_mul] at h5
      generalize V * (z / V) = w at *
      generalize z % V = r at *
      clear hg he
      omega
  · intro hq
    apply Nat.eq_zero_of_not_pos
    intro hc
    obtain rfl : e = 1 := by omega
    rw [← hq, Nat.mul_comm (z / V), Nat.mul_one] at h5
    generalize V * (z / V) = w at *
    generalize z % V = r at *
    clear hg he hq
    omega

/-- the digit was one too much: V is put back -/
theorem Sub.back {Z U1 U2 v : List Nat} {j n q c o : Nat} (h : Sub Z U1 j n (q + 1) (wv v) 1) (g : Ab U1 U2 v j n c) (hn : v.length = n) (ho : U2[j + n]? = some o) (ho1 : o < 4294967296) (hc : c < 4294967296)
    (hz : ∀ t x : Nat, j + n + 1 ≤ t → Z[t]? = some x → x = 0) (hN : j + n + 1 ≤ Z.length) (hV : 0 < wv v) (hq : wv (Z.drop j) / wv v = q) :
    Sub Z (U2.set (j + n) ((o + c) % 4294967296)) j n q (wv v) 0 := by
  have hlen : (U2.set (j + n) ((o + c) % 4294967296)).length = Z.length := by simp [g.len, h.len]
  have hsm := set_small (k := j + n) (x := (o + c) % 4294967296) g.small (Nat.mod_lt _ (by omega))
  have hbel : ∀ t : Nat, t < j → (U2.set (j + n) ((o + c) % 4294967296))[t]? = Z[t]? := fun t ht => by
    rw [List.getElem?_set, if_neg (by omega), g.below t ht, h.below t ht]
  have habv : ∀ t : Nat, j + n + 1 ≤ t → (U2.set (j + n) ((o + c) % 4294967296))[t]? = Z[t]? := fun t ht => by
    rw [List.getElem?_set, if_neg (by omega), g.above t (by omega), h.above t ht]
  refine ⟨hlen, hsm, hbel, habv, ?_⟩
  have h1 := wv_set (d := (o + c) % 4294967296) ho
  have h2 := g.val
  rw [List.take_of_length_le (by omega)] at h2
  have h3 := h.val
  have h4 := Nat.div_add_mod (o + c) 4294967296
  have hu : wv ((U2.set (j + n) ((o + c) % 4294967296)).drop j) < 4294967296 ^ (n + 1) := win_lt hsm (fun t ht => habv t (by omega)) (fun t x ht => hz t x (by omega)) (by rw [hlen]; omega)
  have h5 := wv_below hbel (by rw [hlen]; omega)
  have h6 := wv_split Z j (by omega)
  have hd := Nat.div_add_mod (wv (Z.drop j)) (wv v)
  have hm := Nat.mod_lt (wv (Z.drop j)) hV
  have hP : 0 < 4294967296 ^ j := Nat.pow_pos (by omega)
  have e1 : 4294967296 ^ (j + n + 1) = 4294967296 ^ j * 4294967296 ^ (n + 1) := by rw [show j + n + 1 = j + (n + 1) from rfl, Nat.pow_add]
  have e2 : 4294967296 ^ (j + n + 1) = 4294967296 ^ (j + n) * 4294967296 := Nat.pow_succ ..
  have h7 : wv (U2.set (j + n) ((o + c) % 4294967296)) + 4294967296 ^ j * (q * wv v) + 4294967296 ^ (j + n) * (4294967296 * ((o + c) / 4294967296)) = wv Z + 4294967296 ^ (j + n + 1) := by
    have h8 : 4294967296 ^ (j + n) * (4294967296 * ((o + c) / 4294967296) + (o + c) % 4294967296) = 4294967296 ^ (j + n) * (o + c) := by rw [h4]
    rw [e2] at h3 ⊢
    generalize 4294967296 ^ (j + n) = R at *
    generalize 4294967296 ^ j = P at *
    generalize (o + c) / 4294967296 = f at *
    generalize (o + c) % 4294967296 = m at *
    generalize wv (U2.set (j + n) m) = a1 at *
    generalize wv U2 = a2 at *
    generalize wv U1 = a3 at *
    generalize wv Z = a4 at *
    generalize wv v = a5 at *
    clear h5 h6 hd hm hu hP h4 hq hV hz hN hsm hbel habv hlen e1 e2 g h ho hn hc ho1
    grind
  have hf : (o + c) / 4294967296 = 1 := by
    have e3 : 4294967296 ^ (j + n) * (4294967296 * ((o + c) / 4294967296)) = 4294967296 ^ j * (4294967296 ^ (n + 1) * ((o + c) / 4294967296)) := by
      rw [← Nat.mul_assoc, ← e2, e1, Nat.mul_assoc]
    have h9 : 4294967296 ^ j * (wv ((U2.set (j + n) ((o + c) % 4294967296)).drop j) + q * wv v + 4294967296 ^ (n + 1) * ((o + c) / 4294967296)) = 4294967296 ^ j * (wv (Z.drop j) + 4294967296 ^ (n + 1)) := by
      rw [h5, h6, e3, e1] at h7
      rw [Nat.mul_add, Nat.mul_add, Nat.mul_add]
      omega
    have h10 := Nat.eq_of_mul_eq_mul_left hP h9
    rw [hq, Nat.mul_comm (wv v)] at hd
    have hle : (o + c) / 4294967296 ≤ 1 := by omega
    clear h9 h7 h5 h6 h1 h2 h3 h4 hP hz hN hsm hbel habv hlen e1 e2 e3
    generalize wv ((U2.set (j + n) ((o + c) % 4294967296)).drop j) = a1 at *
    generalize 4294967296 ^ (n + 1) = R at *
    generalize wv (Z.drop j) % wv v = r at *
    generalize wv (Z.drop j) = z at *
    generalize q * wv v = w at *
    generalize (o + c) / 4294967296 = f at *
    rcases Nat.eq_zero_or_pos f with h0 | h0
    · subst h0
      exfalso
      omega
    · omega
  rw [hf] at h7
  rw [e2] at h7
  rw [Nat.mul_zero, Nat.add_zero]
  omega


theorem head_le {c d w2 P a b : Nat} (h : (c * 4294967296 + w2) * P + a < 4294967296 * (d * P + b)) (hb : b < P) : c ≤ d := by
  apply Nat.le_of_lt_succ
  apply Nat.lt_of_mul_lt_mul_right (a := P * 4294967296)
  show c * (P * 4294967296) < (d + 1) * (P * 4294967296)
  have e1 : (c * 4294967296 + w2) * P = c * (P * 4294967296) + w2 * P := by grind
  have e2 : (d + 1) * (P * 4294967296) = 4294967296 * (d * P) + 4294967296 * P := by grind
  rw [e1] at h
  rw [e2]
  generalize c * (P * 4294967296) = e at *
  generalize d * P = f at *
  generalize w2 * P = g at *
  omega

/-- the window's words and the divisor's: the guess is near -/
theorem Kn.window {Z Q v : List Nat} {N M n j top next w0 w1 w2 X V : Nat} (h : Kn Z Q N M n V X (j + 1)) (hvl : v.length = n) (hV : V = wv v) (hvs : ∀ (t e : Nat), v[t]? = some e → e < 4294967296)
    (hn : 2 ≤ n) (hN : j + n < N) (ht : v[n - 1]? = some top) (hx : v[n - 2]? = some next) (h0 : Z[j + n]? = some w0) (h1 : Z[j + n - 1]? = some w1) (h2 : Z[j + n - 2]? = some w2) (htop : 2147483648 ≤ top) :
    wv (Z.drop j) < 4294967296 * V ∧ (∀ T, T = min (((w0 * 4294967296 + w1) * 4294967296 + w2) / (top * 4294967296 + next)) 4294967295 → wv (Z.drop j) / V ≤ T ∧ T ≤ wv (Z.drop j) / V + 1) ∧ w0 * 4294967296 + w1 ≤ top * 4294967296 + next := by
  obtain ⟨p, rfl⟩ : ∃ p, n = p + 2 := ⟨n - 2, by omega⟩
  simp only [show p + 2 - 1 = p + 1 from rfl, show p + 2 - 2 = p from rfl, show j + (p + 2) - 1 = j + (p + 1) from rfl, show j + (p + 2) - 2 = j + p from rfl] at *
  -- the divisor
  have hv1 := wv_split v p (by omega)
  rw [wv_drop hx, wv_drop ht, List.drop_eq_nil_of_le (by omega)] at hv1
  simp only [wv, Nat.mul_zero, Nat.add_zero] at hv1
  have hvlt := wv_lt (v.take p) (fun i d hd => hvs i d (by
    rw [List.getElem?_take] at hd
    split at hd
    · exact hd
    · cases hd))
  rw [List.length_take, Nat.min_eq_left (by omega)] at hvlt
  -- the window
  have hVn : V < 4294967296 ^ (p + 2) := by rw [hV, ← hvl]; exact wv_lt v hvs
  have hz := h.zeros hVn
  have hw1 := wv_split (Z.drop j) p (by rw [List.length_drop, h.len]; omega)
  have g2 : (Z.drop j)[p]? = some w2 := by rw [List.getElem?_drop]; exact h2
  have g1 : (Z.drop j)[p + 1]? = some w1 := by rw [List.getElem?_drop]; exact h1
  have g0 : (Z.drop j)[p + 1 + 1]? = some w0 := by rw [List.getElem?_drop]; exact h0
  rw [wv_drop g2, wv_drop g1, wv_drop g0] at hw1
  have hz0 : wv ((Z.drop j).drop (p + 1 + 1 + 1)) = 0 := by
    apply wv_allzero
    intro t x hx
    rw [List.drop_drop, List.getElem?_drop] at hx
    exact hz _ x (by omega) hx
  rw [hz0, Nat.mul_zero, Nat.add_zero] at hw1
  have hwlt := wv_lt ((Z.drop j).take p) (fun i d hd => h.small (j + i) d (by
    rw [List.getElem?_take] at hd
    split at hd
    · rw [List.getElem?_drop] at hd; exact hd
    · cases hd))
  rw [List.length_take, List.length_drop, h.len, Nat.min_eq_left (by omega)] at hwlt
  -- below B V
  obtain ⟨z0, hz0'⟩ : ∃ z, Z[j]? = some z := ⟨_, List.getElem?_eq_getElem (by rw [h.len]; omega)⟩
  have hzs := h.small _ _ hz0'
  have hlt : wv (Z.drop j) < 4294967296 * V := by
    rw [wv_drop hz0']
    have := h.lt
    omega
  have hV2 : V = (top * 4294967296 + next) * 4294967296 ^ p + wv (v.take p) := by
    rw [hV, hv1]
    generalize 4294967296 ^ p = P
    generalize wv (v.take p) = a
    grind
  have hW2 : wv (Z.drop j) = ((w0 * 4294967296 + w1) * 4294967296 + w2) * 4294967296 ^ p + wv ((Z.drop j).take p) := by
    rw [hw1]
    generalize 4294967296 ^ p = P
    generalize wv ((Z.drop j).take p) = a
    grind
  refine ⟨hlt, fun T hT => guess_near hV2 hvlt hW2 hwlt (by omega) hlt hT, ?_⟩
  rw [hW2, hV2] at hlt
  exact head_le hlt hvlt

end Go.Proofs.Ytlchmaiflcnaoaa
