/- Plain laws of sums of coins: the least sum that leaves each number, found one after the other; the last gap and how many there are. -/
namespace Go.Proofs.Ytgocnjklpafabaa

inductive Sum (l : List Nat) : Nat → Prop
  | zero : Sum l 0
  | add {s n : Nat} : n ∈ l → Sum l s → Sum l (s + n)
theorem Sum.plus {l : List Nat} {a b : Nat} (ha : Sum l a) (hb : Sum l b) : Sum l (a + b) := by
  induction hb with
  | zero => exact ha
  | add hn _ ih => rw [← Nat.add_assoc]; exact .add hn ih
theorem Sum.one {l : List Nat} {n : Nat} (h : n ∈ l) : Sum l n := by
  have := Sum.add h (Sum.zero (l := l)); rwa [Nat.zero_add] at this
theorem Sum.mul {l : List Nat} {a : Nat} (h : Sum l a) : ∀ k, Sum l (k * a)
  | 0 => by rw [Nat.zero_mul]; exact .zero
  | k + 1 => by rw [Nat.succ_mul]; exact (h.mul k).plus h

theorem dvd_sub_mod {v n m : Nat} (h : v % m = n % m) : m ∣ n - v := Nat.dvd_of_mod_eq_zero (Nat.sub_mod_eq_zero_of_mod_eq h.symm)
theorem bez (a b : Nat) : ∃ x y : Int, x * a + y * b = Nat.gcd a b := by
  induction a, b using Nat.gcd.induction with
  | H0 n => exact ⟨0, 1, by simp⟩
  | H1 m n hm ih =>
    obtain ⟨x, y, h⟩ := ih
    refine ⟨y - x * ((n / m : Nat) : Int), x, ?_⟩
    rw [Nat.gcd_rec, ← h]
    have e : ((n % m : Nat) : Int) = (n : Int) - (m : Int) * ((n / m : Nat) : Int) := by
      rw [Int.natCast_emod, Int.natCast_ediv]; exact Int.emod_def ..
    rw [e, Int.sub_mul, Int.mul_sub, Int.mul_comm (m : Int) ((n / m : Nat) : Int), ← Int.mul_assoc]
    omega
/-- an integer's residue, from 0 on -/
theorem lift_mod (x : Int) (m : Nat) (hm : 0 < m) : ∃ k : Nat, ∃ t : Int, (k : Int) = x + t * m := by
  refine ⟨(x % (m : Int)).toNat, -(x / (m : Int)), ?_⟩
  have h1 := Int.emod_nonneg x (show (m : Int) ≠ 0 by omega)
  have h2 := Int.emod_add_mul_ediv x m
  rw [Int.toNat_of_nonneg h1, Int.neg_mul, Int.mul_comm (x / (m : Int))]
  omega
/-- some sum leaves what the numbers' greatest divisor leaves -/
theorem reach_gcd {l : List Nat} {m : Nat} (hm : 0 < m) : ∀ (r : List Nat) (g : Nat), (∀ n ∈ r, n ∈ l) → (∃ s, Sum l s ∧ ∃ t : Int, (s : Int) = g + t * m) → ∃ s, Sum l s ∧ ∃ t : Int, (s : Int) = (r.foldl Nat.gcd g : Nat) + t * m
  | [], g, _, h => h
  | n :: r, g, hr, ⟨s, hs, t, ht⟩ => by
    refine reach_gcd hm r (Nat.gcd g n) (fun k hk => hr k (List.mem_cons_of_mem _ hk)) ?_
    obtain ⟨x, y, hxy⟩ := bez g n
    obtain ⟨a, ta, ha⟩ := lift_mod x m hm
    obtain ⟨b, tb, hb⟩ := lift_mod y m hm
    refine ⟨a * s + b * n, (hs.mul a).plus ((Sum.one (hr n (List.mem_cons_self ..))).mul b), ta * g + a * t + tb * n, ?_⟩
    push_cast
    rw [ht, ← hxy, ha, hb]
    simp only [Int.add_mul, Int.mul_add, Int.mul_assoc, Int.mul_comm, Int.mul_left_comm]
    omega
theorem reach_all {l : List Nat} {m : Nat} (hm : 0 < m) (hg : l.foldl Nat.gcd 0 = 1) (r : Nat) : ∃ s, Sum l s ∧ s % m = r % m := by
  obtain ⟨s, hs, t, ht⟩ := reach_gcd (l := l) hm l 0 (fun _ h => h) ⟨0, .zero, 0, by simp⟩
  rw [hg] at ht
  refine ⟨r * s, hs.mul r, ?_⟩
  have : ((r * s : Nat) : Int) % m = (r : Int) % m := by
    rw [Int.natCast_mul, ht, Int.natCast_one, Int.mul_add, Int.mul_one, ← Int.mul_assoc, Int.add_mul_emod_self_right]
  have h2 : ((r * s % m : Nat) : Int) = ((r % m : Nat) : Int) := by push_cast; exact this
  exact Int.ofNat.inj h2

def gi (L : List Int) (i : Nat) : Int := L.getD i (-1)
def gb (D : List Bool) (i : Nat) : Bool := D.getD i false
theorem gi_set {L : List Int} {i : Nat} (h : i < L.length) (v : Int) (j : Nat) : gi (L.set i v) j = if j = i then v else gi L j := by
  unfold gi
  rw [List.getD_eq_getElem?_getD, List.getD_eq_getElem?_getD, List.getElem?_set]
  by_cases e : j = i
  · subst e; simp [h]
  · rw [if_neg (fun f => e f.symm), if_neg e]
theorem gb_set {D : List Bool} {i : Nat} (h : i < D.length) (v : Bool) (j : Nat) : gb (D.set i v) j = if j = i then v else gb D j := by
  unfold gb
  rw [List.getD_eq_getElem?_getD, List.getD_eq_getElem?_getD, List.getElem?_set]
  by_cases e : j = i
  · subst e; simp [h]
  · rw [if_neg (fun f => e f.symm), if_neg e]
theorem count_set : ∀ {D : List Bool} {i : Nat}, i < D.length → gb D i = false → (D.set i true).count true = D.count true + 1
  | [], i, h, _ => by simp at h
  | x :: r, 0, _, hx => by
    have : x = false := hx
    subst this; simp
  | x :: r, i + 1, h, hx => by
    have := count_set (D := r) (i := i) (by simpa using h) hx
    rw [List.set_cons_succ, List.count_cons, List.count_cons, this]; omega

/-- the numbers told so far, and which of them are done (c of them) -/
structure DInv (l : List Nat) (m hi : Nat) (L : List Int) (D : List Bool) (c : Nat) : Prop where
  lenL : L.length = m
  lenD : D.length = m
  sum : ∀ i, i < m → ∀ v : Nat, gi L i = v → Sum l v ∧ v % m = i
  neg : ∀ i, 0 ≤ gi L i ∨ gi L i = -1
  zero : gi L 0 = 0
  pos : ∀ i, gb D i = true → 0 ≤ gi L i
  ord : ∀ i j, gb D i = true → gb D j = false → 0 ≤ gi L j → gi L i ≤ gi L j
  near : ∀ i, gb D i = true → ∀ n ∈ l, 0 ≤ gi L (((gi L i).toNat + n) % m) ∧ gi L (((gi L i).toNat + n) % m) ≤ gi L i + n
  bnd : ∀ i, gi L i ≤ ((c * hi : Nat) : Int)
  cnt : D.count true = c
theorem gb_lt {D : List Bool} {i : Nat} (h : gb D i = true) : i < D.length := by
  unfold gb at h
  rw [List.getD_eq_getElem?_getD] at h
  by_cases e : i < D.length
  · exact e
  · rw [List.getElem?_eq_none (by omega)] at h; cases h
theorem gi_lt {L : List Int} {i : Nat} (h : 0 ≤ gi L i) : i < L.length := by
  unfold gi at h
  rw [List.getD_eq_getElem?_getD] at h
  by_cases e : i < L.length
  · exact e
  · rw [List.getElem?_eq_none (by omega)] at h; simp at h
theorem gi_rep (m : Nat) (i : Nat) : gi (List.replicate m (-1)) i = -1 := by
  unfold gi
  rw [List.getD_eq_getElem?_getD, List.getElem?_replicate]
  split <;> rfl
theorem gb_rep (m : Nat) (i : Nat) : gb (List.replicate m false) i = false := by
  unfold gb
  rw [List.getD_eq_getElem?_getD, List.getElem?_replicate]
  split <;> rfl
theorem DInv.start {l : List Nat} {m hi : Nat} (hm : 0 < m) : DInv l m hi ((List.replicate m (-1)).set 0 0) (List.replicate m false) 0 := by
  have h0 : ∀ i, gi ((List.replicate m (-1)).set 0 0) i = if i = 0 then 0 else -1 := fun i => by
    rw [gi_set (by simpa using hm), gi_rep]
  refine ⟨by simp, by simp, fun i hi v hv => ?_, fun i => ?_, by rw [h0]; rfl, fun i h => ?_, fun i j h => ?_, fun i h => ?_, fun i => ?_, ?_⟩
  · rw [h0] at hv
    split at hv
    · have : v = 0 := by omega
      subst this; rename_i e; subst e; exact ⟨.zero, Nat.zero_mod _⟩
    · omega
  · rw [h0]; split <;> simp
  · rw [gb_rep] at h; cases h
  · rw [gb_rep] at h; cases h
  · rw [gb_rep] at h; cases h
  · rw [h0]; split <;> omega
  · rw [List.count_replicate]; rfl

/-- the next one: of those that are not done the least -/
structure Cand (m : Nat) (L : List Int) (D : List Bool) (k : Nat) : Prop where
  lt : k < m
  und : gb D k = false
  pos : 0 ≤ gi L k
  least : ∀ j, gb D j = false → 0 ≤ gi L j → gi L k ≤ gi L j

/-- behind some coins: L' out of L -/
structure CInv (l : List Nat) (m hi : Nat) (L : List Int) (D : List Bool) (c k j : Nat) (L' : List Int) : Prop where
  len : L'.length = m
  sum : ∀ i, i < m → ∀ v : Nat, gi L' i = v → Sum l v ∧ v % m = i
  neg : ∀ i, 0 ≤ gi L' i ∨ gi L' i = -1
  same : ∀ i, gb D i = true ∨ i = k → gi L' i = gi L i
  low : ∀ i, 0 ≤ gi L' i → gb D i = false → gi L k ≤ gi L' i
  mono : ∀ i, 0 ≤ gi L i → 0 ≤ gi L' i ∧ gi L' i ≤ gi L i
  near : ∀ n ∈ l.take j, 0 ≤ gi L' (((gi L k).toNat + n) % m) ∧ gi L' (((gi L k).toNat + n) % m) ≤ gi L k + n
  bnd : ∀ i, gi L' i ≤ (((c + 1) * hi : Nat) : Int)
theorem CInv.start {l : List Nat} {m hi : Nat} {L : List Int} {D : List Bool} {c k : Nat} (h : DInv l m hi L D c) (hk : Cand m L D k) : CInv l m hi L D c k 0 L :=
  ⟨h.lenL, h.sum, h.neg, fun _ _ => rfl, fun i hp hd => hk.least i hd hp, fun _ hp => ⟨hp, Int.le_refl _⟩, by simp, fun i => by have := h.bnd i; rw [Nat.succ_mul]; omega⟩
theorem CInv.step_keep {l : List Nat} {m hi : Nat} {L L' : List Int} {D : List Bool} {c k j n : Nat} (h : CInv l m hi L D c k j L') (hn : l[j]? = some n) (h1 : 0 ≤ gi L' (((gi L k).toNat + n) % m)) (h2 : gi L' (((gi L k).toNat + n) % m) ≤ gi L k + n) : CInv l m hi L D c k (j + 1) L' := by
  refine ⟨h.len, h.sum, h.neg, h.same, h.low, h.mono, fun x hx => ?_, h.bnd⟩
  rw [List.take_add_one, hn] at hx
  rcases List.mem_append.1 hx with hx | hx
  · exact h.near x hx
  · have : x = n := by simpa using hx
    subst this; exact ⟨h1, h2⟩
theorem CInv.step_set {l : List Nat} {m hi : Nat} {L L' : List Int} {D : List Bool} {c k j n : Nat} (hD : DInv l m hi L D c) (hk : Cand m L D k) (h : CInv l m hi L D c k j L') (hn : l[j]? = some n) (hn1 : 1 ≤ n) (hhi : n ≤ hi) (h1 : gi L' (((gi L k).toNat + n) % m) < 0 ∨ gi L k + n < gi L' (((gi L k).toNat + n) % m)) :
    CInv l m hi L D c k (j + 1) (L'.set (((gi L k).toNat + n) % m) (gi L k + n)) := by
  have hm : 0 < m := Nat.lt_of_le_of_lt (Nat.zero_le _) hk.lt
  have hlt : ((gi L k).toNat + n) % m < m := Nat.mod_lt _ hm
  obtain ⟨a, ha⟩ : ∃ a : Nat, gi L k = a := ⟨(gi L k).toNat, by have := hk.pos; omega⟩
  have hto : (gi L k).toNat = a := by rw [ha]; rfl
  have hka := hD.sum k hk.lt a ha
  have hnl : n ∈ l := List.mem_of_getElem? hn
  rw [hto] at hlt h1 ⊢
  have hset : ∀ i, gi (L'.set ((a + n) % m) (gi L k + n)) i = if i = (a + n) % m then gi L k + n else gi L' i := gi_set (by rw [h.len]; exact hlt) _
  have hnk : ∀ i, gb D i = true ∨ i = k → i ≠ (a + n) % m := by
    rintro i hi rfl
    have e := h.same _ hi
    rcases hi with hd | e2
    · have h3 := hD.pos _ hd
      have h4 := hD.ord _ k hd hk.und hk.pos
      omega
    · rw [e2] at e h1
      have := hk.pos
      omega
  refine ⟨by rw [List.length_set]; exact h.len, fun i hi v hv => ?_, fun i => ?_, fun i hi => ?_, fun i hp hd => ?_, fun i hp => ?_, fun x hx => ?_, fun i => ?_⟩
  · rw [hset] at hv
    split at hv
    · rename_i e
      have : v = a + n := by omega
      subst this
      exact ⟨.add hnl hka.1, e.symm⟩
    · exact h.sum i hi v hv
  · rw [hset]
    split
    · omega
    · exact h.neg i
  · rw [hset, if_neg (hnk i hi)]; exact h.same i hi
  · rw [hset] at hp ⊢
    split
    · omega
    · rename_i e; rw [if_neg e] at hp; exact h.low i hp hd
  · rw [hset]
    have h5 := h.mono i hp
    split
    · rename_i e; rw [← e] at h1; omega
    · exact h5
  · rw [hto, hset]
    rw [List.take_add_one, hn] at hx
    rcases List.mem_append.1 hx with hx | hx
    · have h6 := h.near x hx
      rw [hto] at h6
      split
      · rename_i e; rw [e] at h6; omega
      · exact h6
    · have : x = n := by simpa using hx
      subst this
      rw [if_pos rfl]; omega
  · rw [hset]
    split
    · have := hD.bnd k
      rw [Nat.succ_mul]; omega
    · exact h.bnd i
theorem CInv.done {l : List Nat} {m hi : Nat} {L L' : List Int} {D : List Bool} {c k : Nat} (hD : DInv l m hi L D c) (hk : Cand m L D k) (h : CInv l m hi L D c k l.length L') : DInv l m hi L' (D.set k true) (c + 1) := by
  have hkl : k < D.length := by rw [hD.lenD]; exact hk.lt
  have hg : ∀ i, gb (D.set k true) i = if i = k then true else gb D i := gb_set hkl true
  have hor : ∀ i, gb (D.set k true) i = true → gb D i = true ∨ i = k := fun i hi => by
    rw [hg] at hi
    split at hi
    · rename_i e; exact .inr e
    · exact .inl hi
  refine ⟨h.len, by rw [List.length_set]; exact hD.lenD, h.sum, h.neg, ?_, fun i hi => ?_, fun i j hi hj hp => ?_, fun i hi n hn => ?_, h.bnd, ?_⟩
  · have := h.mono 0 (by rw [hD.zero]; exact Int.le_refl _)
    rw [hD.zero] at this; omega
  · rw [h.same i (hor i hi)]
    rcases hor i hi with e | rfl
    · exact hD.pos i e
    · exact hk.pos
  · rw [h.same i (hor i hi)]
    rw [hg] at hj
    split at hj
    · cases hj
    · have h3 := h.low j hp hj
      rcases hor i hi with e | rfl
      · exact Int.le_trans (hD.ord i k e hk.und hk.pos) h3
      · exact h3
  · rw [h.same i (hor i hi)]
    rcases hor i hi with e | rfl
    · have h4 := hD.near i e n hn
      have h5 := h.mono _ h4.1
      exact ⟨h5.1, Int.le_trans h5.2 h4.2⟩
    · exact h.near n (by rw [List.take_length]; exact hn)
  · rw [count_set hkl hk.und, hD.cnt]

/-- the least sum that leaves each number -/
structure Least (l : List Nat) (m hi : Nat) (L : List Int) : Prop where
  len : L.length = m
  val : ∀ r, r < m → ∃ v : Nat, gi L r = v ∧ Sum l v ∧ v % m = r ∧ v ≤ m * hi ∧ ∀ s, Sum l s → s % m = r → v ≤ s
theorem count_le_len (D : List Bool) : D.count true ≤ D.length := List.count_le_length ..
theorem DInv.final {l : List Nat} {m hi : Nat} {L : List Int} {D : List Bool} {c : Nat} (hm : 0 < m) (hg : l.foldl Nat.gcd 0 = 1) (h : DInv l m hi L D c) (hn : ∀ i, i < m → gb D i = false → gi L i < 0) : Least l m hi L := by
  have hd : ∀ i, 0 ≤ gi L i → gb D i = true := fun i hp => by
    have hl := gi_lt hp
    rw [h.lenL] at hl
    cases e : gb D i with
    | true => rfl
    | false => exact absurd (hn i hl e) (by omega)
  have key : ∀ s, Sum l s → 0 ≤ gi L (s % m) ∧ gi L (s % m) ≤ s := by
    intro s hs
    induction hs with
    | zero => rw [Nat.zero_mod, h.zero]; omega
    | @add s n hn hs ih =>
      have h1 := h.near _ (hd _ ih.1) n hn
      obtain ⟨v, hv⟩ : ∃ v : Nat, gi L (s % m) = v := ⟨(gi L (s % m)).toNat, by omega⟩
      have h2 := h.sum (s % m) (Nat.mod_lt _ hm) v hv
      have e : (v + n) % m = (s + n) % m := by rw [Nat.add_mod, h2.2, ← Nat.add_mod]
      rw [hv, show ((v : Int)).toNat = v from rfl, e] at h1
      omega
  refine ⟨h.lenL, fun r hr => ?_⟩
  obtain ⟨s, hs, e⟩ := reach_all hm hg r
  rw [Nat.mod_eq_of_lt hr] at e
  have h1 := key s hs
  rw [e] at h1
  obtain ⟨v, hv⟩ : ∃ v : Nat, gi L r = v := ⟨(gi L r).toNat, by omega⟩
  have h2 := h.sum r hr v hv
  refine ⟨v, hv, h2.1, h2.2, ?_, fun s hs hr2 => ?_⟩
  · have h3 := h.bnd r
    have h4 : c ≤ m := by rw [← h.cnt, ← h.lenD]; exact count_le_len D
    have h5 : c * hi ≤ m * hi := Nat.mul_le_mul_right _ h4
    omega
  · have := key s hs
    rw [hr2] at this; omega
theorem Least.gap {l : List Nat} {m hi : Nat} {L : List Int} (h : Least l m hi L) (hm : m ∈ l) (n : Nat) (h0 : 0 < m) : Sum l n ↔ gi L (n % m) ≤ n := by
  obtain ⟨v, hv, hs, hr, _, hmin⟩ := h.val (n % m) (Nat.mod_lt _ h0)
  rw [hv]
  constructor
  · intro hn; have := hmin n hn rfl; omega
  · intro hle
    have hle : v ≤ n := by omega
    have e : n = v + (n - v) / m * m := by
      have h1 : m ∣ n - v := dvd_sub_mod hr
      rw [Nat.div_mul_cancel h1]; omega
    rw [e]
    exact hs.plus ((Sum.one hm).mul _)
end Go.Proofs.Ytgocnjklpafabaa
