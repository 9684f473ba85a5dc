/- The last gap of sums of coins and how many gaps there are, out of the least sums; of two coins by Sylvester's formula. -/
import Derived.Test.YtgocnjklpafabaaCoinLaw
namespace Go.Proofs.Ytgocnjklpafabaa

/-- the last gap below N; how many gaps there are below N -/
def gapL (m : Nat) (L : List Int) : Nat → Int
  | 0 => -1
  | n + 1 => if gi L (n % m) ≤ n then gapL m L n else n
def gapN (m : Nat) (L : List Int) : Nat → Nat
  | 0 => 0
  | n + 1 => if gi L (n % m) ≤ n then gapN m L n else gapN m L n + 1
/-- what the program reckons behind i numbers -/
def lastK (m : Nat) (L : List Int) : Nat → Int
  | 0 => -1
  | i + 1 => max (lastK m L i) (gi L i - m)
def manyK (m : Nat) (L : List Int) : Nat → Int
  | 0 => 0
  | i + 1 => manyK m L i + (gi L i - i) / m

theorem gapL_is (m : Nat) (L : List Int) : ∀ N, (∀ n, n < N → ¬ gi L (n % m) ≤ n → (n : Int) ≤ gapL m L N) ∧ (gapL m L N = -1 ∨ ∃ n, n < N ∧ ¬ gi L (n % m) ≤ n ∧ gapL m L N = n)
  | 0 => ⟨fun n h => by omega, .inl rfl⟩
  | N + 1 => by
    have ih := gapL_is m L N
    rw [gapL]
    by_cases h : gi L (N % m) ≤ N
    · rw [if_pos h]
      refine ⟨fun n hn hg => ih.1 n ?_ hg, ?_⟩
      · rcases Nat.lt_succ_iff_lt_or_eq.1 hn with h1 | h1
        · exact h1
        · subst h1; exact absurd h hg
      · rcases ih.2 with h1 | ⟨n, h1, h2, h3⟩
        · exact .inl h1
        · exact .inr ⟨n, by omega, h2, h3⟩
    · rw [if_neg h]
      exact ⟨fun n hn _ => by omega, .inr ⟨N, by omega, h, rfl⟩⟩
theorem lastK_is (m : Nat) (L : List Int) : ∀ i, (∀ r, r < i → gi L r - m ≤ lastK m L i) ∧ -1 ≤ lastK m L i ∧ (lastK m L i = -1 ∨ ∃ r, r < i ∧ lastK m L i = gi L r - m)
  | 0 => ⟨fun n h => by omega, by simp [lastK], .inl rfl⟩
  | i + 1 => by
    have ih := lastK_is m L i
    rw [lastK]
    refine ⟨fun r hr => ?_, by omega, ?_⟩
    · rcases Nat.lt_succ_iff_lt_or_eq.1 hr with h1 | h1
      · have := ih.1 r h1; omega
      · subst h1; omega
    · by_cases h : lastK m L i ≤ gi L i - m
      · exact .inr ⟨i, by omega, by omega⟩
      · rcases ih.2.2 with h1 | ⟨r, h1, h2⟩
        · exact .inl (by omega)
        · exact .inr ⟨r, by omega, by omega⟩
theorem sub_mod_m {v n m : Nat} (h : v % m = n % m) (hl : n < v) : n + m ≤ v := by
  have h1 : m ∣ v - n := dvd_sub_mod h.symm
  have := Nat.le_of_dvd (by omega) h1
  omega
theorem last_eq {l : List Nat} {m hi : Nat} {L : List Int} (h : Least l m hi L) (hm : 0 < m) (N : Nat) (hN : m * hi ≤ N) : gapL m L N = lastK m L m := by
  have g := gapL_is m L N
  have k := lastK_is m L m
  have h1 : gapL m L N ≤ lastK m L m := by
    rcases g.2 with e | ⟨n, _, hg, e⟩
    · rw [e]; exact k.2.1
    · rw [e]
      obtain ⟨v, hv, _, hr, _, _⟩ := h.val (n % m) (Nat.mod_lt _ hm)
      have := sub_mod_m (v := v) (n := n) hr (by rw [hv] at hg; omega)
      have h2 := k.1 (n % m) (Nat.mod_lt _ hm)
      rw [hv] at h2; omega
  have h2 : lastK m L m ≤ gapL m L N := by
    rcases k.2.2 with e | ⟨r, hr, e⟩
    · rw [e]
      rcases g.2 with f | ⟨n, _, _, f⟩ <;> omega
    · obtain ⟨v, hv, _, hvr, hvb, _⟩ := h.val r hr
      rw [e, hv]
      by_cases hvm : v < m
      · have : -1 ≤ gapL m L N := by rcases g.2 with f | ⟨n, _, _, f⟩ <;> omega
        omega
      · have e2 : (v - m) % m = r := by rw [← Nat.mod_eq_sub_mod (by omega)]; exact hvr
        have := g.1 (v - m) (by omega) (by rw [e2, hv]; omega)
        omega
  omega

def sumR : Nat → (Nat → Nat) → Nat
  | 0, _ => 0
  | n + 1, f => sumR n f + f n
theorem sumR_congr {f g : Nat → Nat} : ∀ n, (∀ r, r < n → f r = g r) → sumR n f = sumR n g
  | 0, _ => rfl
  | n + 1, h => by rw [sumR, sumR, sumR_congr n (fun r hr => h r (by omega)), h n (by omega)]
theorem sumR_one {f g : Nat → Nat} {r0 : Nat} : ∀ n, r0 < n → (∀ r, r < n → r ≠ r0 → f r = g r) → f r0 = g r0 + 1 → sumR n f = sumR n g + 1
  | n + 1, h, h1, h2 => by
    rw [sumR, sumR]
    by_cases e : r0 = n
    · subst e
      rw [h2, sumR_congr r0 (fun r hr => h1 r (by omega) (by omega))]; omega
    · rw [sumR_one n (by omega) (fun r hr => h1 r (by omega)) h2, h1 n (by omega) (fun f => e f.symm)]; omega
/-- below N: how many numbers that leave r are gaps -/
def fr (m : Nat) (L : List Int) (N r : Nat) : Nat := (min N (gi L r).toNat + m - 1 - r) / m
theorem fr_other {m N r v : Nat} (hm : 0 < m) (hr : r < m) (hv : v % m = r) (hne : N % m ≠ r ∨ v ≤ N) : (min (N + 1) v + m - 1 - r) / m = (min N v + m - 1 - r) / m := by
  by_cases hvN : v ≤ N
  · rw [Nat.min_eq_right (by omega), Nat.min_eq_right hvN]
  · rw [Nat.min_eq_left (by omega), Nat.min_eq_left (by omega)]
    have hne : N % m ≠ r := hne.resolve_right hvN
    have e : N + 1 + m - 1 - r = (N + m - 1 - r) + 1 := by omega
    rw [e, Nat.succ_div, if_neg, Nat.add_zero]
    intro hd
    have h1 : (N + m - r) % m = 0 := by
      have := Nat.mod_eq_zero_of_dvd hd
      rwa [show N + m - 1 - r + 1 = N + m - r by omega] at this
    have h2 : (N + m - r) % m = (N % m + m - r) % m := by
      have := Nat.div_add_mod N m
      conv => lhs; rw [← this]
      rw [show m * (N / m) + N % m + m - r = (N % m + m - r) + m * (N / m) by omega, Nat.add_mul_mod_self_left]
    rw [h2] at h1
    have h3 := Nat.mod_lt N hm
    by_cases h4 : N % m < r
    · rw [Nat.mod_eq_of_lt (by omega)] at h1; omega
    · rw [show N % m + m - r = (N % m - r) + m by omega, Nat.add_mod_right, Nat.mod_eq_of_lt (by omega)] at h1; omega
theorem fr_hit {m N v : Nat} (hm : 0 < m) (hv : N < v) : (min (N + 1) v + m - 1 - N % m) / m = (min N v + m - 1 - N % m) / m + 1 := by
  rw [Nat.min_eq_left (by omega), Nat.min_eq_left (by omega)]
  have h := Nat.div_add_mod N m
  have h3 := Nat.mod_lt N hm
  have e1 : N + 1 + m - 1 - N % m = m * (N / m) + m := by omega
  have e2 : N + m - 1 - N % m = m * (N / m) + (m - 1) := by omega
  rw [e1, e2, Nat.mul_add_div hm, Nat.mul_add_div hm, Nat.div_self hm, Nat.div_eq_of_lt (show m - 1 < m by omega)]
theorem gapN_sum {l : List Nat} {m hi : Nat} {L : List Int} (h : Least l m hi L) (hm : 0 < m) : ∀ N, gapN m L N = sumR m (fr m L N)
  | 0 => by
    rw [gapN]
    have : ∀ n, n ≤ m → sumR n (fr m L 0) = 0 := by
      intro n
      induction n with
      | zero => intro _; rfl
      | succ n ih =>
        intro hn
        rw [sumR, ih (by omega)]
        unfold fr
        rw [Nat.zero_min, Nat.div_eq_of_lt (by omega)]
    rw [this m (Nat.le_refl _)]
  | N + 1 => by
    have ih := gapN_sum h hm N
    have hN := Nat.mod_lt N hm
    have oth : ∀ r, r < m → (N % m ≠ r ∨ (gi L r).toNat ≤ N) → fr m L (N + 1) r = fr m L N r := fun r hr hne => by
      obtain ⟨v, hv, _, hvr, _, _⟩ := h.val r hr
      unfold fr
      rw [hv] at hne ⊢
      exact fr_other hm hr hvr hne
    rw [gapN]
    by_cases hg : gi L (N % m) ≤ N
    · rw [if_pos hg, ih]
      exact (sumR_congr m fun r hr => oth r hr (by
        by_cases e : N % m = r
        · subst e; right; omega
        · exact .inl e)).symm
    · rw [if_neg hg, ih]
      refine (sumR_one (r0 := N % m) m hN (fun r hr hne => oth r hr (.inl fun e => hne e.symm)) ?_).symm
      obtain ⟨v, hv, _, _, _, _⟩ := h.val (N % m) hN
      unfold fr
      rw [hv] at hg ⊢
      exact fr_hit hm (by simp at hg ⊢; omega)
theorem manyK_sum {m : Nat} {L : List Int} (f : Nat → Nat) : ∀ n, (∀ r, r < n → (gi L r - r) / m = ((f r : Nat) : Int)) → manyK m L n = sumR n f
  | 0, _ => rfl
  | n + 1, h => by
    rw [manyK, sumR, manyK_sum f n (fun r hr => h r (by omega)), h n (by omega)]; push_cast; rfl
theorem fin_val {m r v : Nat} (hm : 0 < m) (hr : r < m) (hv : v % m = r) : (v + m - 1 - r) / m = (v - r) / m := by
  have h := Nat.div_add_mod v m
  rw [hv] at h
  have e1 : v + m - 1 - r = m * (v / m) + (m - 1) := by omega
  have e2 : v - r = m * (v / m) := by omega
  rw [e1, e2, Nat.mul_add_div hm, Nat.div_eq_of_lt (show m - 1 < m by omega), Nat.mul_div_cancel_left _ hm, Nat.add_zero]
theorem many_val {l : List Nat} {m hi : Nat} {L : List Int} (h : Least l m hi L) : manyK m L m = sumR m (fun r => ((gi L r).toNat - r) / m) := by
  refine manyK_sum _ m fun r hr => ?_
  obtain ⟨v, hv, _, hvr, _, _⟩ := h.val r hr
  rw [hv]
  have : r ≤ v := by rw [← hvr]; exact Nat.mod_le _ _
  rw [show ((v : Int) - (r : Int)) = ((v - r : Nat) : Int) by omega, ← Int.natCast_ediv]
  rfl
theorem many_eq {l : List Nat} {m hi : Nat} {L : List Int} (h : Least l m hi L) (hm : 0 < m) (N : Nat) (hN : m * hi ≤ N) : ((gapN m L N : Nat) : Int) = manyK m L m := by
  rw [many_val h, gapN_sum h hm]
  congr 1
  refine sumR_congr m fun r hr => ?_
  obtain ⟨v, hv, _, hvr, hvb, _⟩ := h.val r hr
  unfold fr
  rw [hv, show ((v : Int)).toNat = v from rfl, Nat.min_eq_right (by omega)]
  exact fin_val hm hr hvr
theorem lastK_bound {l : List Nat} {m hi : Nat} {L : List Int} (h : Least l m hi L) : ∀ i, i ≤ m → lastK m L i ≤ ((m * hi : Nat) : Int)
  | 0, _ => by rw [lastK]; omega
  | i + 1, hi' => by
    have ih := lastK_bound h i (by omega)
    obtain ⟨v, hv, _, _, hvb, _⟩ := h.val i (by omega)
    rw [lastK, hv]; omega
theorem manyK_bound {l : List Nat} {m hi : Nat} {L : List Int} (h : Least l m hi L) (hm : 0 < m) : ∀ i, i ≤ m → 0 ≤ manyK m L i ∧ manyK m L i ≤ ((i * (m * hi) : Nat) : Int)
  | 0, _ => by rw [manyK]; omega
  | i + 1, hi' => by
    have ih := manyK_bound h hm i (by omega)
    obtain ⟨v, hv, _, hvr, hvb, _⟩ := h.val i (by omega)
    have h1 : i ≤ v := by
      have := Nat.mod_le v m; omega
    have h2 : ((v : Int) - (i : Int)) / m = (((v - i) / m : Nat) : Int) := by
      rw [show ((v : Int) - (i : Int)) = ((v - i : Nat) : Int) by omega, ← Int.natCast_ediv]
    have h3 : (v - i) / m ≤ v - i := Nat.div_le_self ..
    obtain ⟨q, hq⟩ : ∃ q, (v - i) / m = q := ⟨_, rfl⟩
    rw [hq] at h2 h3
    rw [manyK, hv, h2, Nat.succ_mul]; omega

/-! two coins -/
theorem two_sum {l : List Nat} {m h : Nat} (hl : ∀ x, x ∈ l ↔ x = m ∨ x = h) (s : Nat) : Sum l s ↔ ∃ x y, s = x * m + y * h := by
  constructor
  · intro hs
    induction hs with
    | zero => exact ⟨0, 0, by simp⟩
    | add hn _ ih =>
      obtain ⟨x, y, rfl⟩ := ih
      rcases (hl _).1 hn with rfl | rfl
      · exact ⟨x + 1, y, by rw [Nat.succ_mul]; omega⟩
      · exact ⟨x, y + 1, by rw [Nat.succ_mul]; omega⟩
  · rintro ⟨x, y, rfl⟩
    exact ((Sum.one ((hl _).2 (.inl rfl))).mul x).plus ((Sum.one ((hl _).2 (.inr rfl))).mul y)
theorem mod_inj {m h a b : Nat} (hg : Nat.gcd m h = 1) (he : a * h % m = b * h % m) : m ∣ b - a := by
  have h1 : m ∣ b * h - a * h := dvd_sub_mod he
  rw [← Nat.sub_mul] at h1
  exact (Nat.Coprime.dvd_of_dvd_mul_right hg h1)
theorem two_val {l : List Nat} {m h hi : Nat} {L : List Int} (hL : Least l m hi L) (hl : ∀ x, x ∈ l ↔ x = m ∨ x = h) (hg : Nat.gcd m h = 1) (hm : 0 < m) {k : Nat} (hk : k < m) : gi L (k * h % m) = ((k * h : Nat) : Int) := by
  obtain ⟨v, hv, hs, hr, _, hmin⟩ := hL.val (k * h % m) (Nat.mod_lt _ hm)
  have h1 := hmin (k * h) ((two_sum hl _).2 ⟨0, k, by simp⟩) rfl
  obtain ⟨x, y, e⟩ := (two_sum hl v).1 hs
  have h2 : y * h % m = k * h % m := by
    rw [← hr, e, Nat.add_mod, Nat.mul_mod_left, Nat.zero_add, Nat.mod_mod]
  have h3 : k ≤ y := by
    by_cases hy : y < k
    · have := mod_inj hg h2
      have := Nat.le_of_dvd (by omega) this
      omega
    · omega
  have h4 : k * h ≤ y * h := Nat.mul_le_mul_right _ h3
  rw [hv]
  omega
theorem perm_of_sub : ∀ {l m : List Nat}, l.Nodup → (∀ x ∈ l, x ∈ m) → m.length ≤ l.length → l.Perm m
  | [], m, _, _, h => by rw [List.eq_nil_of_length_eq_zero (l := m) (by simpa using h)]
  | x :: r, m, h, hs, hl => by
    rw [List.nodup_cons] at h
    have hx := hs x (List.mem_cons_self ..)
    refine List.Perm.trans (List.Perm.cons x (perm_of_sub (m := m.erase x) h.2 (fun y hy => (List.mem_erase_of_ne (fun e : y = x => h.1 (by rw [← e]; exact hy))).2 (hs y (List.mem_cons_of_mem _ hy))) ?_)) (List.perm_cons_erase hx).symm
    rw [List.length_erase_of_mem hx]
    rw [List.length_cons] at hl
    omega
theorem perm_mul {m h : Nat} (hg : Nat.gcd m h = 1) (hm : 0 < m) : ((List.range m).map fun k => k * h % m).Perm (List.range m) := by
  have hn : ((List.range m).map fun k => k * h % m).Nodup := by
    refine List.Pairwise.map _ (fun _ _ h => h) (List.Pairwise.imp_of_mem (R := fun a b => a < b) (fun {a b} ha hb hab e => ?_) List.pairwise_lt_range)
    have := mod_inj hg e
    have := Nat.le_of_dvd (by omega) this
    rw [List.mem_range] at hb
    omega
  refine perm_of_sub hn (fun x hx => ?_) (by simp)
  obtain ⟨k, _, rfl⟩ := List.mem_map.1 hx
  exact List.mem_range.2 (Nat.mod_lt _ hm)
theorem sumR_list (f : Nat → Nat) : ∀ n, sumR n f = ((List.range n).map f).sum
  | 0 => rfl
  | n + 1 => by rw [sumR, sumR_list f n, List.range_succ, List.map_append, List.sum_append]; simp
theorem sum_sub {m : Nat} (f g : Nat → Nat) (hm : 0 < m) : ∀ n, (∀ r, r < n → g r ≤ f r ∧ m ∣ f r - g r) → m * sumR n (fun r => (f r - g r) / m) + sumR n g = sumR n f
  | 0, _ => by simp [sumR]
  | n + 1, h => by
    have ih := sum_sub f g hm n (fun r hr => h r (by omega))
    obtain ⟨h1, h2⟩ := h n (by omega)
    have h3 := Nat.mul_div_cancel' h2
    simp only [sumR, Nat.mul_add]
    omega
theorem sum_range2 : ∀ n, 2 * sumR n (fun r => r) + n = n * n
  | 0 => rfl
  | n + 1 => by
    have := sum_range2 n
    have e : (n + 1) * (n + 1) = n * n + 2 * n + 1 := by rw [Nat.succ_mul, Nat.mul_succ]; omega
    rw [sumR, e]; omega
theorem sum_mulR (h : Nat) : ∀ n, sumR n (fun r => r * h) = sumR n (fun r => r) * h
  | 0 => by simp [sumR]
  | n + 1 => by rw [sumR, sumR, sum_mulR h n, Nat.add_mul]
theorem sylv_last {l : List Nat} {m h hi : Nat} {L : List Int} (hL : Least l m hi L) (hl : ∀ x, x ∈ l ↔ x = m ∨ x = h) (hg : Nat.gcd m h = 1) (hm : 1 < m) (hmh : m < h) : lastK m L m = (m : Int) * h - m - h := by
  have k := lastK_is m L m
  have e1 : ((m : Int) * h - m - h) = (((m - 1) * h : Nat) : Int) - m := by
    obtain ⟨p, rfl⟩ : ∃ p, m = p + 1 := ⟨m - 1, by omega⟩
    rw [Nat.add_sub_cancel]; push_cast; rw [Int.add_mul]; omega
  rw [e1]
  have h1 := k.1 ((m - 1) * h % m) (Nat.mod_lt _ (by omega))
  rw [two_val hL hl hg (by omega) (show m - 1 < m by omega)] at h1
  have h0 : 1 * h ≤ (m - 1) * h := Nat.mul_le_mul_right _ (by omega)
  rcases k.2.2 with e | ⟨r, hr, e⟩
  · omega
  · have hp := (perm_mul hg (show 0 < m by omega)).mem_iff.2 (List.mem_range.2 hr)
    obtain ⟨j, hj, rfl⟩ := List.mem_map.1 hp
    rw [List.mem_range] at hj
    rw [two_val hL hl hg (by omega) hj] at e
    have h2 : j * h ≤ (m - 1) * h := Nat.mul_le_mul_right _ (by omega)
    omega
theorem sylv_many {l : List Nat} {m h hi : Nat} {L : List Int} (hL : Least l m hi L) (hl : ∀ x, x ∈ l ↔ x = m ∨ x = h) (hg : Nat.gcd m h = 1) (hm : 1 < m) (hmh : m < h) : 2 * manyK m L m = (m : Int) * h - m - h + 1 := by
  rw [many_val hL]
  have hs := sum_sub (m := m) (fun r => (gi L r).toNat) (fun r => r) (by omega) m (fun r hr => by
    obtain ⟨v, hv, _, hvr, _, _⟩ := hL.val r hr
    have h1 : r ≤ v := by have := Nat.mod_le v m; omega
    rw [hv]
    exact ⟨h1, dvd_sub_mod (show r % m = v % m by rw [hvr, Nat.mod_eq_of_lt hr])⟩)
  have e : sumR m (fun r => (gi L r).toNat) = sumR m (fun r => r) * h := by
    rw [← sum_mulR, sumR_list, sumR_list]
    have hp := ((perm_mul hg (show 0 < m by omega)).map fun r => (gi L r).toNat).sum_nat
    rw [← hp, List.map_map]
    congr 1
    refine List.map_congr_left fun k hk => ?_
    rw [List.mem_range] at hk
    show (gi L (k * h % m)).toNat = k * h
    rw [two_val hL hl hg (by omega) hk]; rfl
  rw [e] at hs
  have h2 := sum_range2 m
  generalize sumR m (fun r => ((gi L r).toNat - r) / m) = M at hs ⊢
  generalize sumR m (fun r => r) = S at hs h2
  obtain ⟨p, rfl⟩ : ∃ p, m = p + 1 := ⟨m - 1, by omega⟩
  obtain ⟨q, rfl⟩ : ∃ q, h = q + 1 := ⟨h - 1, by omega⟩
  have h3 : (p + 1) * M = S * q := by rw [Nat.mul_succ] at hs; omega
  have h4 : 2 * S = (p + 1) * p := by rw [Nat.mul_succ] at h2; omega
  have h5 : (p + 1) * (2 * M) = (p + 1) * (p * q) := by
    rw [Nat.mul_left_comm, h3, ← Nat.mul_assoc, h4, Nat.mul_assoc]
  have h6 : 2 * M = p * q := Nat.eq_of_mul_eq_mul_left (by omega) h5
  have h7 : (2 : Int) * (M : Int) = (p : Int) * (q : Int) := by exact_mod_cast h6
  rw [h7]; push_cast; rw [Int.add_mul, Int.mul_add]; omega
end Go.Proofs.Ytgocnjklpafabaa
