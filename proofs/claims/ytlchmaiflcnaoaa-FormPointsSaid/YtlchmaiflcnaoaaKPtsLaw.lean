/- The plain law of the points at which a form takes a value. -/
import Derived.Test.YtlchmaiflcnaoaaKComposedLaw
namespace Go.Proofs.Ytlchmaiflcnaoaa

theorem abs_mul_nat {x y : Int} {p q : Nat} (hx : x.natAbs ≤ p) (hy : y.natAbs ≤ q) : (x * y).natAbs ≤ p * q := by
  rw [Int.natAbs_mul]; exact Nat.mul_le_mul hx hy
theorem len_le_of_sub {α : Type} [DecidableEq α] : ∀ (l1 l2 : List α), l1.Nodup → (∀ x ∈ l1, x ∈ l2) → l1.length ≤ l2.length
  | [], _, _, _ => by simp
  | a :: l, l2, hn, hs => by
    obtain ⟨h0, h1⟩ := List.nodup_cons.1 hn
    have ha : a ∈ l2 := hs a (List.mem_cons_self ..)
    have h2 := len_le_of_sub l (l2.erase a) h1 (fun x hx => (List.mem_erase_of_ne (fun e => h0 (by rw [← e]; exact hx))).2 (hs x (List.mem_cons_of_mem _ hx)))
    rw [List.length_erase_of_mem ha] at h2
    have h3 := List.length_pos_of_mem ha
    rw [List.length_cons]
    omega
/-- a list without repetitions of the pairs of which S speaks -/
structure Has (L : List (Int × Int)) (S : Int → Int → Prop) : Prop where
  nd : L.Nodup
  mem : ∀ x y, (x, y) ∈ L ↔ S x y
theorem Has.len {L M : List (Int × Int)} {S : Int → Int → Prop} (h : Has L S) (k : Has M S) : L.length = M.length :=
  Nat.le_antisymm (len_le_of_sub _ _ h.nd fun x hx => (k.mem x.1 x.2).2 ((h.mem x.1 x.2).1 hx)) (len_le_of_sub _ _ k.nd fun x hx => (h.mem x.1 x.2).2 ((k.mem x.1 x.2).1 hx))
theorem Has.conv {L : List (Int × Int)} {S T : Int → Int → Prop} (h : Has L S) (k : ∀ x y, S x y ↔ T x y) : Has L T := ⟨h.nd, fun x y => (h.mem x y).trans (k x y)⟩
theorem Has.add {L : List (Int × Int)} {S T : Int → Int → Prop} (h : Has L S) (a b : Int) (hn : ¬ S a b) (k : ∀ x y, T x y ↔ S x y ∨ (x = a ∧ y = b)) : Has (L ++ [(a, b)]) T := by
  refine ⟨List.nodup_append.2 ⟨h.nd, by simp, ?_⟩, fun x y => ?_⟩
  · intro z hz z' hz' e
    rw [List.mem_singleton.1 hz'] at e
    subst e
    exact hn ((h.mem a b).1 hz)
  · rw [List.mem_append, h.mem, k, List.mem_singleton, Prod.mk.injEq]
theorem Has.nil {S : Int → Int → Prop} (h : ∀ x y, ¬ S x y) : Has [] S := ⟨by simp, fun x y => by simpa using h x y⟩

theorem four_val {a b c D : Int} (hD : D = b * b - 4 * a * c) (x y : Int) : 4 * a * tA a b c x y = (2 * a * x + b * y) * (2 * a * x + b * y) + -D * y * y := by
  unfold tA; subst hD; grind
theorem val_iff {a b c D n : Int} (hD : D = b * b - 4 * a * c) (ha : 1 ≤ a) (x y : Int) : tA a b c x y = n ↔ (2 * a * x + b * y) * (2 * a * x + b * y) = 4 * a * n - -D * y * y := by
  have h := four_val hD x y
  constructor
  · intro e; rw [e] at h; omega
  · intro e
    rw [e] at h
    exact Int.eq_of_mul_eq_mul_left (show 4 * a ≠ 0 by omega) (by omega)
theorem sq_eq {w z : Int} (h : w * w = z * z) : w = z ∨ w = -z := by
  have : (w - z) * (w + z) = 0 := by grind
  rcases Int.mul_eq_zero.1 this with h | h
  · exact .inl (by omega)
  · exact .inr (by omega)
theorem sq_between {w z r : Int} (hz : 0 ≤ z) (h1 : z * z ≤ r) (h2 : r < (z + 1) * (z + 1)) (h : w * w = r) : z * z = r := by
  have hw : w * w = (w.natAbs : Int) * w.natAbs := by
    rcases Int.natAbs_eq w with e | e
    · rw [← e]
    · have : (w.natAbs : Int) = -w := by omega
      rw [this]; grind
  rw [hw] at h
  have g1 : (w.natAbs : Int) ≤ z := by
    rcases Int.lt_or_le z (w.natAbs : Int) with h3 | h3
    · have := Int.mul_le_mul (show z + 1 ≤ (w.natAbs : Int) by omega) (show z + 1 ≤ (w.natAbs : Int) by omega) (by omega) (by omega)
      omega
    · exact h3
  have g2 : z ≤ (w.natAbs : Int) := by
    rcases Int.lt_or_le (w.natAbs : Int) z with h3 | h3
    · have := Int.mul_le_mul (show (w.natAbs : Int) + 1 ≤ z by omega) (show (w.natAbs : Int) + 1 ≤ z by omega) (by omega) (by omega)
      have e : ((w.natAbs : Int) + 1) * ((w.natAbs : Int) + 1) = (w.natAbs : Int) * w.natAbs + 2 * w.natAbs + 1 := by grind
      omega
    · exact h3
  have : (w.natAbs : Int) = z := by omega
  rw [← h, this]

/-! the program's list: the rows below y -/
section
variable {a b c D n : Int}
def PtL (a b c n y : Int) : Int → Int → Prop := fun x' y' => tA a b c x' y' = n ∧ y' < y
/-- .. and of the row y those with 2 a x + b y = z -/
def PtM (a b c n y z : Int) : Int → Int → Prop := fun x' y' => tA a b c x' y' = n ∧ (y' < y ∨ y' = y ∧ 2 * a * x' + b * y' = z)
theorem pt_none {L : List (Int × Int)} {y z : Int} (h : Has L (PtL a b c n y)) (hD : D = b * b - 4 * a * c) (ha : 1 ≤ a) (hz : 0 ≤ z) (h1 : z * z ≤ 4 * a * n - -D * y * y) (h2 : 4 * a * n - -D * y * y < (z + 1) * (z + 1)) (hne : z * z ≠ 4 * a * n - -D * y * y) : Has L (PtL a b c n (y + 1)) := by
  refine h.conv fun x' y' => ?_
  unfold PtL
  constructor
  · rintro ⟨e1, e2⟩; exact ⟨e1, by omega⟩
  · rintro ⟨e1, e2⟩
    refine ⟨e1, ?_⟩
    rcases (show y' < y ∨ y' = y by omega) with h | h
    · exact h
    · subst h
      exact absurd (sq_between hz h1 h2 ((val_iff hD ha x' y').1 e1)) hne
theorem pt_one {L : List (Int × Int)} {y z x : Int} (h : Has L (PtL a b c n y)) (hD : D = b * b - 4 * a * c) (ha : 1 ≤ a) (hz : z * z = 4 * a * n - -D * y * y) (hx : 2 * a * x + b * y = z) : Has (L ++ [(x, y)]) (PtM a b c n y z) := by
  refine h.add x y (fun k => by have := k.2; omega) fun x' y' => ?_
  unfold PtL PtM
  constructor
  · rintro ⟨e1, e2 | ⟨e2, e3⟩⟩
    · exact .inl ⟨e1, e2⟩
    · refine .inr ⟨?_, e2⟩
      subst e2
      exact Int.eq_of_mul_eq_mul_left (show 2 * a ≠ 0 by omega) (by omega)
  · rintro (⟨e1, e2⟩ | ⟨rfl, rfl⟩)
    · exact ⟨e1, .inl e2⟩
    · exact ⟨(val_iff hD ha _ _).2 (by rw [hx]; exact hz), .inr ⟨rfl, hx⟩⟩
theorem pt_one_no {L : List (Int × Int)} {y z : Int} (h : Has L (PtL a b c n y)) (hx : ¬ (2 * a) ∣ z - b * y) : Has L (PtM a b c n y z) := by
  refine h.conv fun x' y' => ?_
  unfold PtL PtM
  constructor
  · rintro ⟨e1, e2⟩; exact ⟨e1, .inl e2⟩
  · rintro ⟨e1, e2 | ⟨rfl, e3⟩⟩
    · exact ⟨e1, e2⟩
    · exact absurd ⟨x', by omega⟩ hx
theorem pt_two {L : List (Int × Int)} {y z x : Int} (h : Has L (PtM a b c n y z)) (hD : D = b * b - 4 * a * c) (ha : 1 ≤ a) (hz : z * z = 4 * a * n - -D * y * y) (hz0 : z ≠ 0) (hx : 2 * a * x + b * y = -z) : Has (L ++ [(x, y)]) (PtL a b c n (y + 1)) := by
  refine h.add x y (fun k => by have := k.2; omega) fun x' y' => ?_
  unfold PtL PtM
  constructor
  · rintro ⟨e1, e2⟩
    rcases (show y' < y ∨ y' = y by omega) with h | h
    · exact .inl ⟨e1, .inl h⟩
    · subst h
      rcases sq_eq (((val_iff hD ha x' y').1 e1).trans hz.symm) with h | h
      · exact .inl ⟨e1, .inr ⟨rfl, h⟩⟩
      · exact .inr ⟨Int.eq_of_mul_eq_mul_left (show 2 * a ≠ 0 by omega) (by omega), rfl⟩
  · rintro (⟨e1, e2⟩ | ⟨rfl, rfl⟩)
    · exact ⟨e1, by omega⟩
    · exact ⟨(val_iff hD ha _ _).2 (by rw [hx, ← hz]; grind), by omega⟩
theorem pt_two_no {L : List (Int × Int)} {y z : Int} (h : Has L (PtM a b c n y z)) (hD : D = b * b - 4 * a * c) (ha : 1 ≤ a) (hz : z * z = 4 * a * n - -D * y * y) (hx : z = 0 ∨ ¬ (2 * a) ∣ -z - b * y) : Has L (PtL a b c n (y + 1)) := by
  refine h.conv fun x' y' => ?_
  unfold PtL PtM
  constructor
  · rintro ⟨e1, e2⟩; exact ⟨e1, by omega⟩
  · rintro ⟨e1, e2⟩
    refine ⟨e1, ?_⟩
    rcases (show y' < y ∨ y' = y by omega) with h | h
    · exact .inl h
    · subst h
      rcases sq_eq (((val_iff hD ha x' y').1 e1).trans hz.symm) with h | h
      · exact .inr ⟨rfl, h⟩
      · rcases hx with hx | hx
        · exact .inr ⟨rfl, by omega⟩
        · exact absurd ⟨x', by omega⟩ hx
/-- no row lies beyond -/
theorem pt_rows {y Y x : Int} (hD : D = b * b - 4 * a * c) (hn : D < 0) (hY : 0 ≤ Y) (h2 : 4 * a * n < -D * (Y + 1) * (Y + 1)) (e : tA a b c x y = n) : -Y ≤ y ∧ y ≤ Y := by
  have h := four_val hD x y
  rw [e] at h
  have h3 := sq_nn (2 * a * x + b * y)
  have h4 : ∀ v : Int, Y + 1 ≤ v → v * v = y * y → False := by
    intro v hv hvv
    have h5 := Int.mul_le_mul hv hv (by omega) (by omega)
    have h6 := Int.mul_le_mul_of_nonneg_left h5 (show 0 ≤ -D by omega)
    have h7 : -D * (Y + 1) * (Y + 1) = -D * ((Y + 1) * (Y + 1)) := Int.mul_assoc ..
    have h8 : -D * y * y = -D * (v * v) := by rw [hvv]; exact Int.mul_assoc ..
    omega
  constructor
  · rcases Int.lt_or_le y (-Y) with h5 | h5
    · exact (h4 (-y) (by omega) (by grind)).elim
    · exact h5
  · rcases Int.lt_or_le Y y with h5 | h5
    · exact (h4 y (by omega) rfl).elim
    · exact h5

/-! the answers' count -/
/-- what was counted before the place (x, y) -/
def CnX (a b c n y x : Int) : Int → Int → Prop := fun p q => tA a b c p q = n ∧ ((q.natAbs : Int) < y ∨ (q.natAbs : Int) = y ∧ (p.natAbs : Int) < x)
def sgn2 (p q : Int) : Int := (if p < 0 then 1 else 0) + if q < 0 then 2 else 0
/-- .. and there before the sign s -/
def CnS (a b c n y x s : Int) : Int → Int → Prop := fun p q => tA a b c p q = n ∧ ((q.natAbs : Int) < y ∨ (q.natAbs : Int) = y ∧ ((p.natAbs : Int) < x ∨ (p.natAbs : Int) = x ∧ sgn2 p q < s))
theorem cn_start {L : List (Int × Int)} {y x : Int} (h : Has L (CnX a b c n y x)) : Has L (CnS a b c n y x 0) := by
  refine h.conv fun p q => ?_
  unfold CnX CnS sgn2
  constructor
  · rintro ⟨e1, e2⟩; exact ⟨e1, by omega⟩
  · rintro ⟨e1, e2⟩
    refine ⟨e1, ?_⟩
    split at e2 <;> split at e2 <;> omega
theorem cn_end {L : List (Int × Int)} {y x : Int} (h : Has L (CnS a b c n y x 4)) : Has L (CnX a b c n y (x + 1)) := by
  refine h.conv fun p q => ?_
  unfold CnX CnS sgn2
  constructor
  · rintro ⟨e1, e2⟩; exact ⟨e1, by omega⟩
  · rintro ⟨e1, e2⟩
    refine ⟨e1, ?_⟩
    split <;> split <;> omega
/-- the place that the sign s makes of (x, y) -/
def pS (x s : Int) : Int := if s = 1 ∨ s = 3 then -x else x
def qS (y s : Int) : Int := if 1 < s then -y else y
theorem cn_skip {L : List (Int × Int)} {y x s : Int} (h : Has L (CnS a b c n y x s)) (hs : 0 ≤ s ∧ s < 4) (hk : x = 0 ∧ (s = 1 ∨ s = 3) ∨ y = 0 ∧ 1 < s) : Has L (CnS a b c n y x (s + 1)) := by
  refine h.conv fun p q => ?_
  unfold CnS sgn2
  constructor
  · rintro ⟨e1, e2⟩; exact ⟨e1, by omega⟩
  · rintro ⟨e1, e2⟩
    refine ⟨e1, ?_⟩
    by_cases h1 : p < 0 <;> by_cases h2 : q < 0 <;> simp only [h1, h2, if_true, if_false] at e2 ⊢ <;> omega
theorem cn_step {L : List (Int × Int)} {y x s : Int} (h : Has L (CnS a b c n y x s)) (hs : 0 ≤ s ∧ s < 4) (hy : 0 ≤ y) (hx : 0 ≤ x) (hk : ¬ (x = 0 ∧ (s = 1 ∨ s = 3) ∨ y = 0 ∧ 1 < s)) :
    (tA a b c (pS x s) (qS y s) = n → Has (L ++ [(pS x s, qS y s)]) (CnS a b c n y x (s + 1))) ∧ (tA a b c (pS x s) (qS y s) ≠ n → Has L (CnS a b c n y x (s + 1))) := by
  have key : ∀ p q : Int, (q.natAbs : Int) = y → (p.natAbs : Int) = x → (sgn2 p q = s ↔ p = pS x s ∧ q = qS y s) := by
    intro p q h1 h2
    unfold sgn2 pS qS
    split <;> split <;> split <;> split <;> omega
  have hp : ((pS x s).natAbs : Int) = x ∧ ((qS y s).natAbs : Int) = y := by
    unfold pS qS
    split <;> split <;> omega
  have hq := (key _ _ hp.2 hp.1).2 ⟨rfl, rfl⟩
  constructor
  · intro e
    refine h.add _ _ (fun k => ?_) fun p q => ?_
    · unfold CnS at k
      omega
    · unfold CnS
      constructor
      · rintro ⟨e1, e2⟩
        by_cases h3 : (q.natAbs : Int) = y ∧ (p.natAbs : Int) = x ∧ sgn2 p q = s
        · exact .inr ((key p q h3.1 h3.2.1).1 h3.2.2)
        · exact .inl ⟨e1, by omega⟩
      · rintro (⟨e1, e2⟩ | ⟨rfl, rfl⟩)
        · exact ⟨e1, by omega⟩
        · exact ⟨e, by omega⟩
  · intro e
    refine h.conv fun p q => ?_
    unfold CnS
    constructor
    · rintro ⟨e1, e2⟩; exact ⟨e1, by omega⟩
    · rintro ⟨e1, e2⟩
      refine ⟨e1, ?_⟩
      by_cases h3 : (q.natAbs : Int) = y ∧ (p.natAbs : Int) = x ∧ sgn2 p q = s
      · obtain ⟨rfl, rfl⟩ := (key p q h3.1 h3.2.1).1 h3.2.2
        exact absurd e1 e
      · omega
/-- beyond the break there is nothing more in the row -/
theorem cn_break {L : List (Int × Int)} {y x : Int} (h : Has L (CnX a b c n y x)) (ha : 1 ≤ a) (h1 : n < a * x * x - (b.natAbs : Int) * x * y + c * y * y) (h2 : (b.natAbs : Int) * y < 2 * a * x) : Has L (CnX a b c n (y + 1) 0) := by
  refine h.conv fun p q => ?_
  unfold CnX
  constructor
  · rintro ⟨e1, e2⟩; exact ⟨e1, by omega⟩
  · rintro ⟨e1, e2⟩
    refine ⟨e1, ?_⟩
    rcases (show (q.natAbs : Int) < y ∨ (q.natAbs : Int) = y by omega) with h3 | h3
    · exact .inl h3
    · refine .inr ⟨h3, ?_⟩
      rcases Int.lt_or_le (p.natAbs : Int) x with h4 | h4
      · exact h4
      · exfalso
        have sq : ∀ u : Int, u * u = (u.natAbs : Int) * u.natAbs := by
          intro u
          rcases Int.natAbs_eq u with e | e
          · rw [← e]
          · have : (u.natAbs : Int) = -u := by omega
            rw [this]; grind
        have m1 : -((b.natAbs : Int) * ((p.natAbs : Int) * y)) ≤ b * p * q := by
          have hab : ((b * p * q).natAbs : Int) = (b.natAbs : Int) * ((p.natAbs : Int) * y) := by
            rw [Int.natAbs_mul, Int.natAbs_mul, ← h3]
            simp [Int.mul_assoc]
          omega
        obtain ⟨t, ht⟩ : ∃ t, (p.natAbs : Int) = x + t := ⟨p.natAbs - x, by omega⟩
        have ht0 : 0 ≤ t := by omega
        have m2 : a * p * p = a * ((p.natAbs : Int) * p.natAbs) := by rw [Int.mul_assoc, sq p]
        have m3 : c * q * q = c * (y * y) := by rw [Int.mul_assoc, sq q, h3]
        have e3 : a * p * p + b * p * q + c * q * q = n := e1
        rw [m2, m3, ht] at e3
        rw [ht] at m1
        have g1 : 0 ≤ t * (2 * a * x - (b.natAbs : Int) * y) := Int.mul_nonneg ht0 (by omega)
        have g2 : 0 ≤ a * (t * t) := Int.mul_nonneg (by omega) (Int.mul_nonneg ht0 ht0)
        have g3 : a * ((x + t) * (x + t)) - (b.natAbs : Int) * ((x + t) * y) + c * (y * y) = a * x * x - (b.natAbs : Int) * x * y + c * y * y + t * (2 * a * x - (b.natAbs : Int) * y) + a * (t * t) := by grind
        omega
theorem cn_all {L : List (Int × Int)} {y : Int} (h : Has L (CnX a b c n y 0)) (hD : D = b * b - 4 * a * c) (hn : D < 0) (hy : 0 ≤ y) (h2 : 4 * a * n < -D * y * y) : Has L (fun p q => tA a b c p q = n) := by
  refine h.conv fun p q => ?_
  unfold CnX
  refine ⟨fun e => e.1, fun e => ⟨e, .inl ?_⟩⟩
  rcases (show y = 0 ∨ 1 ≤ y by omega) with h0 | h0
  · subst h0
    have h := four_val hD p q
    rw [e] at h
    have h3 := sq_nn (2 * a * p + b * q)
    have h4 := Int.mul_nonneg (show 0 ≤ -D by omega) (sq_nn q)
    rw [← Int.mul_assoc] at h4
    simp at h2
    omega
  · have := pt_rows (Y := y - 1) hD hn (by omega) (by rw [show y - 1 + 1 = y by omega]; exact h2) e
    omega
/-- the four signs -/
theorem cn0 {L : List (Int × Int)} {y x : Int} (h : Has L (CnS a b c n y x 0)) (hy : 0 ≤ y) (hx : 0 ≤ x) :
    (tA a b c x y = n → Has (L ++ [(x, y)]) (CnS a b c n y x 1)) ∧ (tA a b c x y ≠ n → Has L (CnS a b c n y x 1)) := by
  have := cn_step h (by omega) hy hx (by omega)
  simpa [pS, qS] using this
theorem cn1 {L : List (Int × Int)} {y x : Int} (h : Has L (CnS a b c n y x 1)) (hy : 0 ≤ y) (hx : 0 ≤ x) (h0 : x ≠ 0) :
    (tA a b c (-x) y = n → Has (L ++ [(-x, y)]) (CnS a b c n y x 2)) ∧ (tA a b c (-x) y ≠ n → Has L (CnS a b c n y x 2)) := by
  have := cn_step h (by omega) hy hx (by omega)
  simpa [pS, qS] using this
theorem cn2 {L : List (Int × Int)} {y x : Int} (h : Has L (CnS a b c n y x 2)) (hy : 0 ≤ y) (hx : 0 ≤ x) (h0 : y ≠ 0) :
    (tA a b c x (-y) = n → Has (L ++ [(x, -y)]) (CnS a b c n y x 3)) ∧ (tA a b c x (-y) ≠ n → Has L (CnS a b c n y x 3)) := by
  have := cn_step h (by omega) hy hx (by omega)
  simpa [pS, qS] using this
theorem cn3 {L : List (Int × Int)} {y x : Int} (h : Has L (CnS a b c n y x 3)) (hy : 0 ≤ y) (hx : 0 ≤ x) (h0 : x ≠ 0) (h1 : y ≠ 0) :
    (tA a b c (-x) (-y) = n → Has (L ++ [(-x, -y)]) (CnS a b c n y x 4)) ∧ (tA a b c (-x) (-y) ≠ n → Has L (CnS a b c n y x 4)) := by
  have := cn_step h (by omega) hy hx (by omega)
  simpa [pS, qS] using this
end

/-! sizes -/
theorem pt_small {a b c n x y : Int} (h : RedF a b c) (hn : n ≤ 1000000) (e : tA a b c x y ≤ n) : (-1155 ≤ x ∧ x ≤ 1155) ∧ -1155 ≤ y ∧ y ≤ 1155 := by
  obtain ⟨h0, h1, h2, h3, _⟩ := h
  have main : ∀ u v : Int, u * u = x * x → v * v = y * y → 0 ≤ u → 0 ≤ v → -(a * (u * v)) ≤ b * (x * y) → u ≤ 1155 ∧ v ≤ 1155 := by
    intro u v hu hv u0 v0 hb
    have e1 : tA a b c x y = a * (u * u) + b * (x * y) + c * (v * v) := by unfold tA; rw [hu, hv]; grind
    have e2 : a * (v * v) ≤ c * (v * v) := Int.mul_le_mul_of_nonneg_right h3 (Int.mul_nonneg v0 v0)
    have e3 : a * (u * u) - a * (u * v) + a * (v * v) = a * (u * u - u * v + v * v) := by grind
    have e4 : 0 ≤ u * u - u * v + v * v := by
      have := sq_nn (2 * u - v)
      have := sq_nn v
      have e : (2 * u - v) * (2 * u - v) = 4 * (u * u) - 4 * (u * v) + v * v := by grind
      omega
    have e5 : 1 * (u * u - u * v + v * v) ≤ a * (u * u - u * v + v * v) := Int.mul_le_mul_of_nonneg_right (by omega) e4
    have f1 : 4 * (u * u - u * v + v * v) = (2 * v - u) * (2 * v - u) + 3 * (u * u) := by grind
    have f2 : 4 * (u * u - u * v + v * v) = (2 * u - v) * (2 * u - v) + 3 * (v * v) := by grind
    have f3 := sq_nn (2 * v - u)
    have f4 := sq_nn (2 * u - v)
    constructor
    · rcases Int.lt_or_le 1155 u with h | h
      · have := Int.mul_le_mul (show 1156 ≤ u by omega) (show 1156 ≤ u by omega) (by omega) (by omega)
        omega
      · exact h
    · rcases Int.lt_or_le 1155 v with h | h
      · have := Int.mul_le_mul (show 1156 ≤ v by omega) (show 1156 ≤ v by omega) (by omega) (by omega)
        omega
      · exact h
  have bd : ∀ u : Int, (∃ s : Int, (s = 1 ∨ s = -1) ∧ u = s * (x * y)) → 0 ≤ u → -(a * u) ≤ b * (x * y) := by
    rintro u ⟨s, hs, rfl⟩ hu
    have g1 : b * (s * (x * y)) ≤ a * (s * (x * y)) := Int.mul_le_mul_of_nonneg_right h2 hu
    have g2 : -a * (s * (x * y)) ≤ b * (s * (x * y)) := Int.mul_le_mul_of_nonneg_right (by omega) hu
    rcases hs with rfl | rfl
    · grind
    · grind
  rcases Int.lt_or_le x 0 with hx | hx
  · rcases Int.lt_or_le y 0 with hy | hy
    · have := main (-x) (-y) (by grind) (by grind) (by omega) (by omega) (bd _ ⟨1, .inl rfl, by grind⟩ (Int.mul_nonneg (by omega) (by omega)))
      omega
    · have := main (-x) y (by grind) rfl (by omega) (by omega) (bd _ ⟨-1, .inr rfl, by grind⟩ (Int.mul_nonneg (by omega) (by omega)))
      omega
  · rcases Int.lt_or_le y 0 with hy | hy
    · have := main x (-y) rfl (by grind) (by omega) (by omega) (bd _ ⟨-1, .inr rfl, by grind⟩ (Int.mul_nonneg (by omega) (by omega)))
      omega
    · have := main x y rfl rfl (by omega) (by omega) (bd _ ⟨1, .inl rfl, by grind⟩ (Int.mul_nonneg (by omega) (by omega)))
      omega
def boxL (M : Nat) : List (Int × Int) := (List.range (2 * M + 1)).flatMap fun (i : Nat) => (List.range (2 * M + 1)).map fun (j : Nat) => ((i : Int) - (M : Int), (j : Int) - (M : Int))
theorem box_len (M : Nat) : (boxL M).length = (2 * M + 1) * (2 * M + 1) := by
  unfold boxL
  rw [List.length_flatMap]
  have h : ∀ k : Nat, ((List.range k).map fun _ => 2 * M + 1).sum = k * (2 * M + 1) := by
    intro k
    induction k with
    | zero => simp
    | succ k ih => rw [List.range_succ, List.map_append, List.sum_append, ih]; simp only [List.map_cons, List.map_nil, List.sum_cons, List.sum_nil, Nat.add_zero]; exact (Nat.succ_mul k (2 * M + 1)).symm
  simpa using h (2 * M + 1)
theorem Has.short {L : List (Int × Int)} {S : Int → Int → Prop} (h : Has L S) (M : Nat) (k : ∀ x y, S x y → (-(M : Int) ≤ x ∧ x ≤ M) ∧ -(M : Int) ≤ y ∧ y ≤ M) : L.length ≤ (2 * M + 1) * (2 * M + 1) := by
  rw [← box_len]
  refine len_le_of_sub _ _ h.nd fun z hz => ?_
  obtain ⟨x, y⟩ := z
  obtain ⟨⟨h1, h2⟩, h3, h4⟩ := k x y ((h.mem x y).1 hz)
  unfold boxL
  rw [List.mem_flatMap]
  refine ⟨(x + M).toNat, List.mem_range.2 (by omega), List.mem_map.2 ⟨(y + M).toNat, List.mem_range.2 (by omega), ?_⟩⟩
  ext <;> simp only [] <;> omega
/-- what the loops of the count ask of their numbers -/
theorem cn_y {a b c D n y : Int} (h : RedF a b c) (hD : D = b * b - 4 * a * c) (hlow : -4000000000000 ≤ D) (hn : 0 ≤ n) (hn2 : n ≤ 1000000) (hy : 0 ≤ y) (k : y = 0 ∨ -D * (y - 1) * (y - 1) ≤ 4 * a * n) :
    y ≤ 1156 ∧ 0 ≤ -D * y ∧ -D * y ≤ 80000000000000 ∧ 0 ≤ -D * y * y ∧ -D * y * y ≤ 80000000000000 ∧ 0 ≤ 4 * a * n ∧ 4 * a * n ≤ 4700000000000 := by
  obtain ⟨k1, k2, k3, k4, _⟩ := red_bounds h hD hlow
  obtain ⟨h0, h1, h2, h3, _⟩ := h
  have e1 := sq_up (x := b) (N := a) (by omega) h2
  have e2 : a * a ≤ a * c := Int.mul_le_mul_of_nonneg_left h3 (by omega)
  have e3 : 4 * a * c = 4 * (a * c) := Int.mul_assoc ..
  have e4 : 3 * (a * a) ≤ -D := by omega
  have q1 : 0 ≤ a * n := Int.mul_nonneg (by omega) hn
  have q2 : a * n ≤ 1154701 * 1000000 := Int.mul_le_mul k1 hn2 hn (by omega)
  have q3 : 4 * a * n = 4 * (a * n) := Int.mul_assoc ..
  have q4 : 1 * 1 ≤ a * a := Int.mul_le_mul (by omega) (by omega) (by omega) (by omega)
  rcases k with rfl | k
  · simp
    omega
  · have y1 : y ≤ 1156 := by
      rcases Int.lt_or_le 1156 y with h | h
      · have g1 := Int.mul_le_mul (show 1156 ≤ y - 1 by omega) (show 1156 ≤ y - 1 by omega) (by omega) (by omega)
        have g2 : 3 * (a * a) * (1156 * 1156) ≤ -D * ((y - 1) * (y - 1)) := Int.mul_le_mul e4 g1 (by omega) (by omega)
        have g5 : -D * (y - 1) * (y - 1) = -D * ((y - 1) * (y - 1)) := Int.mul_assoc ..
        have g3 : a * n ≤ a * (a * 1000000) := Int.mul_le_mul_of_nonneg_left (by
          have : 1 * 1000000 ≤ a * 1000000 := Int.mul_le_mul_of_nonneg_right (by omega) (by omega)
          omega) (by omega)
        have g4 : a * (a * 1000000) = a * a * 1000000 := by grind
        omega
      · exact h
    have p1 : 0 ≤ -D * y := Int.mul_nonneg (by omega) hy
    have p2 : 0 ≤ -D * y * y := Int.mul_nonneg p1 hy
    have p3 : -D * y * y = -D * (y - 1) * (y - 1) + 2 * (-D * y) + D := by grind
    rcases (show y ≤ 2 ∨ 3 ≤ y by omega) with h | h
    · have p4 : -D * y ≤ 4000000000000 * 2 := Int.mul_le_mul (by omega) h hy (by omega)
      have p5 : -D * y * y ≤ 8000000000000 * 2 := Int.mul_le_mul (by omega) h hy (by omega)
      omega
    · have p4 : -D * y ≤ -D * (y - 1) * (y - 1) := by
        have g1 : (y - 1) * 2 ≤ (y - 1) * (y - 1) := Int.mul_le_mul_of_nonneg_left (by omega) (by omega)
        have g2 : -D * y ≤ -D * ((y - 1) * (y - 1)) := Int.mul_le_mul_of_nonneg_left (by omega) (by omega)
        rw [← Int.mul_assoc] at g2
        exact g2
      omega
theorem cn_x {a b c D n y x : Int} (h : RedF a b c) (hD : D = b * b - 4 * a * c) (hlow : -4000000000000 ≤ D) (hn : 0 ≤ n) (hn2 : n ≤ 1000000) (hy : 0 ≤ y) (k : -D * y * y ≤ 4 * a * n) (hx : 0 ≤ x) (hx2 : x ≤ n + 1 + y) (hy2 : y ≤ 1156) :
    (a * x).natAbs ≤ 2000000000000 ∧ (a * x * x).natAbs ≤ 1200000000000000000 ∧ (b * x).natAbs ≤ 2000000000000 ∧ (b * x * y).natAbs ≤ 3000000000000000 ∧ (c * y).natAbs ≤ 20000000 ∧ (c * y * y).natAbs ≤ 20000000 ∧ ((b.natAbs : Int) * x).natAbs ≤ 2000000000000 ∧ ((b.natAbs : Int) * x * y).natAbs ≤ 3000000000000000 ∧ ((b.natAbs : Int) * y).natAbs ≤ 2000000000 := by
  obtain ⟨k1, k2, k3, k4, _⟩ := red_bounds h hD hlow
  obtain ⟨h0, h1, h2, h3, _⟩ := h
  have m1 := abs_mul_nat (x := a) (y := x) (p := 1154701) (q := 1001157) (by omega) (by omega)
  have m2 := abs_mul_nat (x := a * x) (y := x) (p := 1154701 * 1001157) (q := 1001157) (by omega) (by omega)
  have m3 := abs_mul_nat (x := b) (y := x) (p := 1154701) (q := 1001157) (by omega) (by omega)
  have m4 := abs_mul_nat (x := b * x) (y := y) (p := 1154701 * 1001157) (q := 1156) (by omega) (by omega)
  have m5 := abs_mul_nat (x := (b.natAbs : Int)) (y := x) (p := 1154701) (q := 1001157) (by omega) (by omega)
  have m6 := abs_mul_nat (x := (b.natAbs : Int) * x) (y := y) (p := 1154701 * 1001157) (q := 1156) (by omega) (by omega)
  have m7 := abs_mul_nat (x := (b.natAbs : Int)) (y := y) (p := 1154701) (q := 1156) (by omega) (by omega)
  have e1 := sq_up (x := b) (N := a) (by omega) h2
  have e2 : a * a ≤ a * c := Int.mul_le_mul_of_nonneg_left h3 (by omega)
  have e3 : 4 * a * c = 4 * (a * c) := Int.mul_assoc ..
  have e4 : 3 * (a * c) ≤ -D := by omega
  have c0 : 0 ≤ c * y := Int.mul_nonneg (by omega) hy
  have c1 : 0 ≤ c * y * y := Int.mul_nonneg c0 hy
  have c2 : c * y ≤ c * y * y := by
    rcases (show y = 0 ∨ 1 ≤ y by omega) with h | h
    · subst h; simp
    · have := Int.mul_le_mul_of_nonneg_left h c0
      omega
  have c3 : c * y * y ≤ 20000000 := by
    have g1 : 3 * (a * c) * (y * y) ≤ -D * (y * y) := Int.mul_le_mul_of_nonneg_right e4 (Int.mul_nonneg hy hy)
    rw [← Int.mul_assoc (-D)] at g1
    have g2 : 3 * (a * c) * (y * y) = 3 * (a * (c * y * y)) := by grind
    have g3 : 4 * a * n = 4 * (a * n) := Int.mul_assoc ..
    rcases Int.lt_or_le 20000000 (c * y * y) with h | h
    · have g4 : a * (20 * n + 1) ≤ a * (c * y * y) := Int.mul_le_mul_of_nonneg_left (by omega) (by omega)
      have g5 : a * (20 * n + 1) = 20 * (a * n) + a := by grind
      have g6 : 0 ≤ a * n := Int.mul_nonneg (by omega) hn
      omega
    · exact h
  omega
theorem cn_far {a b c n y x : Int} (h : RedF a b c) (hn : 0 ≤ n) (hy : 0 ≤ y) (hx : x = n + 1 + y) : n < a * x * x - (b.natAbs : Int) * x * y + c * y * y ∧ (b.natAbs : Int) * y < 2 * a * x := by
  obtain ⟨h0, h1, h2, h3, _⟩ := h
  have hx1 : 1 ≤ x := by omega
  have e1 : (b.natAbs : Int) * (x * y) ≤ a * (x * y) := Int.mul_le_mul_of_nonneg_right (by omega) (Int.mul_nonneg (by omega) hy)
  have e2 : a * x * x - a * (x * y) = a * (x * (n + 1)) := by
    rw [show n + 1 = x - y by omega]; grind
  have e3 : 1 * (x * (n + 1)) ≤ a * (x * (n + 1)) := Int.mul_le_mul_of_nonneg_right (by omega) (Int.mul_nonneg (by omega) (by omega))
  have e4 : 1 * (n + 1) ≤ x * (n + 1) := Int.mul_le_mul_of_nonneg_right (by omega) (by omega)
  have e5 : 0 ≤ c * y * y := Int.mul_nonneg (Int.mul_nonneg (by omega) hy) hy
  have e6 : (b.natAbs : Int) * x * y = (b.natAbs : Int) * (x * y) := Int.mul_assoc ..
  have e7 : (b.natAbs : Int) * y ≤ a * y := Int.mul_le_mul_of_nonneg_right (by omega) hy
  have e8 : 2 * a * x = 2 * (a * x) := Int.mul_assoc ..
  have e9 : a * y ≤ a * x := Int.mul_le_mul_of_nonneg_left (by omega) (by omega)
  have e10 : 1 * 1 ≤ a * x := Int.mul_le_mul (by omega) hx1 (by omega) (by omega)
  omega
end Go.Proofs.Ytlchmaiflcnaoaa
