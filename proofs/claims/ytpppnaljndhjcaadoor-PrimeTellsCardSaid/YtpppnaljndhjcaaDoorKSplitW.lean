/- Plain laws of Pollard's rho: its numbers come again; what a batch of products tells. The walk of prime.split: it ends, and finds a divisor. Under the condition that a prime divisor is known, and under a bound. -/
import Derived.Test.YtpppnaljndhjcaaDoorKPadD
import Derived.Deep.LoopGhost
namespace Go.Proofs.YtpppnaljndhjcaaDoor

/-- among n + 1 numbers below n two are the same -/
theorem pigeon : ∀ (n : Nat) (f : Nat → Nat), (∀ i, i ≤ n → f i < n) → ∃ a b, a < b ∧ b ≤ n ∧ f a = f b := by
  intro n
  induction n with
  | zero => intro f h; have := h 0 (Nat.le_refl _); omega
  | succ n ih =>
    intro f h
    by_cases h1 : ∃ i, i ≤ n ∧ f i = f (n + 1)
    · obtain ⟨i, hi, e⟩ := h1
      exact ⟨i, n + 1, by omega, Nat.le_refl _, e⟩
    · have h2 : ∀ i, i ≤ n → f i ≠ f (n + 1) := fun i hi e => h1 ⟨i, hi, e⟩
      have h3 := h (n + 1) (Nat.le_refl _)
      obtain ⟨a, b, hab, hb, e⟩ := ih (fun i => if f i = n then f (n + 1) else f i) (by
        intro i hi
        have h4 := h i (by omega)
        have h5 := h2 i hi
        show (if f i = n then f (n + 1) else f i) < n
        split <;> omega)
      refine ⟨a, b, hab, by omega, ?_⟩
      have ha2 := h2 a (by omega)
      have hb2 := h2 b (by omega)
      have e : (if f a = n then f (n + 1) else f a) = (if f b = n then f (n + 1) else f b) := e
      split at e <;> split at e <;> omega

def rhoF (n c x : Nat) : Nat := (x * x % n + c) % n
def rho (n c : Nat) : Nat → Nat
  | 0 => 2
  | t + 1 => rhoF n c (rho n c t)
theorem rho_lt {n c : Nat} (hn : 2 < n) : ∀ t, rho n c t < n := by
  intro t
  cases t with
  | zero => exact hn
  | succ t => exact Nat.mod_lt _ (by omega)
theorem rho_add {n c a b : Nat} (h : rho n c a = rho n c b) : ∀ k, rho n c (a + k) = rho n c (b + k) := by
  intro k
  induction k with
  | zero => exact h
  | succ k ih => rw [← Nat.add_assoc, ← Nat.add_assoc, rho, rho, ih]
/-- a round of more than n steps meets its first number again -/
theorem rho_hit {n c r : Nat} (hn : 2 < n) (hr : n < r) : ∃ j, 1 ≤ j ∧ j ≤ r ∧ rho n c (r - 1 + j) = rho n c (r - 1) := by
  obtain ⟨a, b, hab, hb, e⟩ := pigeon n (rho n c) (fun i _ => rho_lt hn i)
  refine ⟨b - a, by omega, by omega, ?_⟩
  have := rho_add e (r - 1 - a)
  rw [show a + (r - 1 - a) = r - 1 from by omega, show b + (r - 1 - a) = r - 1 + (b - a) from by omega] at this
  exact this.symm

/-- what a batch's product tells: 0 if its number came again; nothing in common with n if none of its parts has -/
def Batch (n c : Nat) (X t0 s : Nat) (q : Int) : Prop :=
  0 ≤ q ∧ q < n ∧ ((∃ j, 1 ≤ j ∧ j ≤ s ∧ rho n c (t0 + j) = X) → q = 0) ∧ ((∀ j, 1 ≤ j → j ≤ s → Int.gcd ((X : Int) - rho n c (t0 + j)) n = 1) → Int.gcd q n = 1)
theorem batch_start {n c X t0 : Nat} (hn : 2 < n) : Batch n c X t0 0 1 :=
  ⟨by omega, by omega, fun ⟨j, h1, h2, _⟩ => by omega, fun _ => by simp⟩
theorem gcd_mul_one {a b n : Int} (h1 : Int.gcd a n = 1) (h2 : Int.gcd b n = 1) : Int.gcd (a * b) n = 1 := by
  unfold Int.gcd at *
  rw [Int.natAbs_mul]
  exact Nat.Coprime.mul_left h1 h2
theorem gcd_emod {a n : Int} : Int.gcd (a % n) n = Int.gcd a n := by
  conv => rhs; rw [← Int.emod_add_mul_ediv a n]
  rw [Int.gcd_comm, Int.gcd_comm _ n]
  simp
theorem batch_next {n c X t0 s : Nat} {q : Int} (hn : 2 < n) (h : Batch n c X t0 s q) : Batch n c X t0 (s + 1) (q * ((X : Int) - rho n c (t0 + (s + 1))) % n) := by
  obtain ⟨h1, h2, h3, h4⟩ := h
  refine ⟨Int.emod_nonneg _ (by omega), Int.emod_lt_of_pos _ (by omega), ?_, ?_⟩
  · rintro ⟨j, j1, j2, e⟩
    rcases Nat.lt_or_ge s j with hj | hj
    · have : j = s + 1 := by omega
      subst this
      rw [e]; simp
    · rw [h3 ⟨j, j1, hj, e⟩]; simp
  · intro hall
    rw [gcd_emod]
    exact gcd_mul_one (h4 fun j j1 j2 => hall j j1 (by omega)) (hall (s + 1) (by omega) (Nat.le_refl _))
/-- too far: then one by one something is found -/
theorem batch_found {n c X t0 s : Nat} {q : Int} (hn : 2 < n) (h : Batch n c X t0 s q) (hg : Int.gcd q n = n) : ∃ j, 1 ≤ j ∧ j ≤ s ∧ Int.gcd ((X : Int) - rho n c (t0 + j)) n ≠ 1 := by
  apply Classical.byContradiction
  intro hno
  have := h.2.2.2 fun j j1 j2 => Classical.byContradiction fun h5 => hno ⟨j, j1, j2, h5⟩
  omega
/-- nothing found: no number came again -/
theorem batch_none {n c X t0 s : Nat} {q : Int} (hn : 2 < n) (h : Batch n c X t0 s q) (hg : Int.gcd q n = 1) : ∀ j, 1 ≤ j → j ≤ s → rho n c (t0 + j) ≠ X := by
  intro j j1 j2 e
  rw [h.2.2.1 ⟨j, j1, j2, e⟩] at hg
  simp at hg
  omega

/-- the way with c = p - 2, p a prime divisor: its first step finds p -/
theorem rho_last {n p : Nat} (hp2 : 3 ≤ p) (hpn : p + 2 < n) : rho n (p - 2) 1 = p + 2 := by
  show rhoF n (p - 2) 2 = p + 2
  unfold rhoF
  rw [Nat.mod_eq_of_lt (show 2 * 2 < n by omega), show 2 * 2 + (p - 2) = p + 2 from by omega]
  exact Nat.mod_eq_of_lt hpn
theorem gcd_last {n p : Nat} (hp : p ∣ n) : Int.gcd (1 * ((2 : Int) - ((p + 2 : Nat) : Int)) % n) n = p := by
  rw [gcd_emod]
  have : (1 * ((2 : Int) - ((p + 2 : Nat) : Int))).natAbs = p := by omega
  unfold Int.gcd
  rw [this]
  exact Nat.gcd_eq_left hp

/-- a batch's product -/
def bq (n c X t0 : Nat) : Nat → Int
  | 0 => 1
  | s + 1 => bq n c X t0 s * ((X : Int) - rho n c (t0 + (s + 1))) % n
theorem bq_batch {n c X t0 : Nat} (hn : 2 < n) : ∀ s, Batch n c X t0 s (bq n c X t0 s) := by
  intro s
  induction s with
  | zero => exact batch_start hn
  | succ s ih => exact batch_next hn ih
theorem bq_bounds {n c X t0 : Nat} (hn : 2 < n) (s : Nat) : 0 ≤ bq n c X t0 s ∧ bq n c X t0 s < n := ⟨(bq_batch hn s).1, (bq_batch hn s).2.1⟩

/-- at a round's start; within it; while going one by one -/
def L1ok (n c p R Q Y : Nat) : Prop := (Q = 1 → R ≤ 2 * n ∧ Y = rho n c (R - 1) ∧ (c = p - 2 → R = 1)) ∧ (Q ≠ 1 → Q ∣ n ∧ (c = p - 2 → Q = p))
def L2ok (n c p R I Q Y : Nat) : Prop := (Q = 1 → Y = rho n c (R - 1 + min I R) ∧ (∀ j, 1 ≤ j → j ≤ min I R → rho n c (R - 1 + j) ≠ rho n c (R - 1)) ∧ (c = p - 2 → I = 0)) ∧ (Q ≠ 1 → Q ∣ n ∧ (c = p - 2 → Q = p))
def L4ok (n c X T M S Q Y : Nat) : Prop := S ≤ M ∧ (Q = 1 → Y = rho n c (T + S) ∧ ∀ j, 1 ≤ j → j ≤ S → Int.gcd ((X : Int) - rho n c (T + j)) n = 1) ∧ (Q ≠ 1 → Q ∣ n)
theorem L1_start (n c p : Nat) (hn : 2 < n) : L1ok n c p 1 1 2 := ⟨fun _ => ⟨by omega, rfl, fun _ => rfl⟩, fun h => absurd rfl h⟩
theorem L2_start {n c p R Y : Nat} (h : L1ok n c p R 1 Y) : L2ok n c p R 0 1 Y :=
  ⟨fun _ => ⟨by rw [(h.1 rfl).2.1, Nat.zero_min, Nat.add_zero], fun j h1 h2 => by rw [Nat.zero_min] at h2; omega, fun _ => rfl⟩, fun h => absurd rfl h⟩
theorem L2_end {n c p R I Q Y : Nat} (hn : 2 < n) (hR : 1 ≤ R) (h : L2ok n c p R I Q Y) (he : ¬ (I < R ∧ Q = 1)) : L1ok n c p (2 * R) Q Y := by
  refine ⟨fun hq => ?_, h.2⟩
  obtain ⟨h1, h2, h3⟩ := h.1 hq
  have hI : R ≤ I := by
    rcases Nat.lt_or_ge I R with h4 | h4
    · exact (he ⟨h4, hq⟩).elim
    · exact h4
  rw [Nat.min_eq_right hI] at h1 h2
  have hRn : R ≤ n := by
    rcases Nat.lt_or_ge n R with h4 | h4
    · obtain ⟨j, j1, j2, e⟩ := rho_hit (c := c) hn h4
      exact (h2 j j1 j2 e).elim
    · exact h4
  exact ⟨by omega, by rw [h1]; congr 1; omega, fun hc => by have := h3 hc; omega⟩
theorem L2_found {n c p R I Q Y : Nat} (hq : Q ≠ 1) (hd : Q ∣ n) (hc : c = p - 2 → Q = p) : L2ok n c p R (I + 64) Q Y := ⟨fun h => absurd h hq, fun _ => ⟨hd, hc⟩⟩
theorem L2_none {n c p R I Y M : Nat} (hn : 2 < n) (hI : I < R) (hM : M = min 64 (R - I)) (h : L2ok n c p R I 1 Y) (hg : Int.gcd (bq n c (rho n c (R - 1)) (R - 1 + I) M) n = 1) (hc : c ≠ p - 2) : L2ok n c p R (I + 64) 1 (rho n c (R - 1 + I + M)) := by
  obtain ⟨h1, h2, h3⟩ := h.1 rfl
  rw [Nat.min_eq_left (by omega)] at h1 h2
  refine ⟨fun _ => ⟨by congr 1; omega, fun j j1 j2 => ?_, fun h => absurd h hc⟩, fun h => absurd rfl h⟩
  rcases Nat.lt_or_ge I j with h4 | h4
  · have := batch_none hn (bq_batch (c := c) (X := rho n c (R - 1)) (t0 := R - 1 + I) hn M) hg (j - I) (by omega) (by omega)
    rwa [show R - 1 + I + (j - I) = R - 1 + j from by omega] at this
  · exact h2 j j1 h4
theorem L4_start {n c p R I Y M : Nat} (hI : I < R) (h : L2ok n c p R I 1 Y) : L4ok n c (rho n c (R - 1)) (R - 1 + I) M 0 1 Y := by
  obtain ⟨h1, _, _⟩ := h.1 rfl
  rw [Nat.min_eq_left (by omega)] at h1
  exact ⟨by omega, fun _ => ⟨by rw [h1]; rfl, fun j j1 j2 => by omega⟩, fun h => absurd rfl h⟩
theorem L4_next {n c X T M S Y : Nat} (hn : 2 < n) (h : L4ok n c X T M S 1 Y) (hg : Int.gcd (bq n c X T M) n = n) : S < M ∧ Y = rho n c (T + S) ∧ (∀ G, G = Int.gcd ((X : Int) - rho n c (T + (S + 1))) n → L4ok n c X T M (S + 1) G (rho n c (T + (S + 1)))) := by
  obtain ⟨h0, h1, _⟩ := h
  obtain ⟨h2, h3⟩ := h1 rfl
  obtain ⟨j, j1, j2, hj⟩ := batch_found hn (bq_batch hn M) hg
  have hSM : S < M := by
    rcases Nat.lt_or_ge S M with h4 | h4
    · exact h4
    · exact (hj (h3 j j1 (by omega))).elim
  refine ⟨hSM, h2, fun G hG => ⟨by omega, fun h5 => ⟨rfl, fun i i1 i2 => ?_⟩, fun _ => ?_⟩⟩
  · rcases Nat.lt_or_ge S i with h6 | h6
    · have : i = S + 1 := by omega
      subst this
      rw [← hG]; exact h5
    · exact h3 i i1 h6
  · rw [hG]
    have := Int.gcd_dvd_right ((X : Int) - rho n c (T + (S + 1))) (n : Int)
    exact Int.natCast_dvd_natCast.1 this
theorem gcd_dvd_nat (a : Int) (n : Nat) : Int.gcd a n ∣ n := Int.natCast_dvd_natCast.1 (Int.gcd_dvd_right a n)
/-- the last way's first step -/
theorem last_gcd {n p R I M : Nat} (hp3 : 3 ≤ p) (hp : p ∣ n) (hpn : p + 2 < n) (hR : R = 1) (hI : I < R) (hM : M = min 64 (R - I)) : Int.gcd (bq n (p - 2) (rho n (p - 2) (R - 1)) (R - 1 + I) M) n = p := by
  subst hR
  obtain rfl : I = 0 := by omega
  obtain rfl : M = 1 := by omega
  show Int.gcd (1 * ((2 : Int) - ((rho n (p - 2) (0 + (0 + 1)) : Nat) : Int)) % n) n = p
  rw [show 0 + (0 + 1) = 1 from rfl, rho_last hp3 hpn]
  exact gcd_last hp
end Go.Proofs.YtpppnaljndhjcaaDoor
namespace Go.Proofs.YtpppnaljndhjcaaDoor
open Go.RowKit

set_option maxRecDepth 100000 in
set_option maxHeartbeats 3200000 in
theorem step_any (n c x : Nat) (p q : Addr) (w : World) (hn : 2 < n) (hn2 : n ≤ 1000000000000000000) (hc : c ≤ 1000000000000000000) (hx : x < n) (h1 : w.cell? p = some (.int .i64 n)) (h2 : w.cell? q = some (.int .i64 c)) :
    Calls Tryd.prog 63 #[.int .i64 x, .pointer (some p), .pointer (some q)] w fun e w' => e = .returned (.int .i64 (rhoF n c x : Nat)) ∧ ∃ k, w' = w.drewN k := by
  have C1 := fun W => hide (times_any x x n W (by omega) (by omega) (by omega) (by omega) (by omega) (by omega))
  have y0 := Int.emod_nonneg ((x : Int) * x) (b := (n : Int)) (by omega)
  have y1 := Int.emod_lt_of_pos ((x : Int) * x) (show (0 : Int) < n by omega)
  have HU : Hid (((x : Int) * x % n + c) % n = (rhoF n c x : Nat)) := by unfold Hid rhoF; rw [Int.natCast_emod, Int.natCast_add, Int.natCast_emod, Int.natCast_mul]
  obtain ⟨Y, hY⟩ : ∃ Y, (x : Int) * x % n = Y := ⟨_, rfl⟩
  rw [hY] at C1 y0 y1 HU
  have C2 := fun W => hide (mod_any (Y + c) n W (by omega) (by omega) (by omega) (by omega))
  have W1 : IntKind.i64.wrap (Y + c) = Y + c := by rw [IntKind.wrap_i64]; omega
  have u0 := Int.emod_nonneg (Y + c) (b := (n : Int)) (by omega)
  have u1 := Int.emod_lt_of_pos (Y + c) (show (0 : Int) < n by omega)
  obtain ⟨U, hU⟩ : ∃ U, (Y + c) % n = U := ⟨_, rfl⟩
  rw [hU] at C2 HU u0 u1
  clear hY hU hx
  go_enter Tryd.func63, Tryd.ntmps63
  go_wp2_with fail
  go_quiet (first | (go_at_call 22; first | (with_reducible refine Calls.quiet_of (C1 _).out) | (with_reducible refine quietd_of (C1 _).out)) | (go_at_call 34; first | (with_reducible refine Calls.quiet_of_same ((C2 _).out.mono fun _ _ h => ⟨h.1, h.2.symm⟩)) | (with_reducible refine quietd_same ((C2 _).out.mono fun _ _ h => ⟨h.1, h.2.symm⟩))))
  go_wp2_with fail
  go_ret
  exact ⟨ret_int HU.out, _, rfl⟩
end Go.Proofs.YtpppnaljndhjcaaDoor
namespace Go.Proofs.YtpppnaljndhjcaaDoor
open Go.RowKit

/-- a block of one number -/
def NB (w : World) (g : Nat) (a : Int) : Prop := w.heap[g]? = some (.cells #[.int .i64 a] 3 (0, 0))
theorem NB.made (w : World) (x : Int) : NB (w.alloc (.cells #[.int .i64 x] 3)) w.heap.size x := by
  show (w.heap.push _)[w.heap.size]? = _
  simp
theorem NB.lt {w : World} {g : Nat} {a : Int} (h : NB w g a) : g < w.heap.size := heap_lt h
theorem NB.below {w w' : World} {g : Nat} {a : Int} (h : NB w g a) (k : Below w.heap.size w w') : NB w' g a := (k.block g h.lt).trans h
theorem NB.cells {w : World} {g : Nat} {a : Int} (h : NB w g a) : w.cell? ⟨g, 0, none⟩ = some (.int .i64 a) ∧ w.frozen? ⟨g, 0, none⟩ = false := by
  unfold NB at h
  exact ⟨by simp [World.cell?, h], by simp [World.frozen?, h]⟩
theorem NB.set {w : World} {g : Nat} {a : Int} (h : NB w g a) (x : Int) : NB (w.setCell ⟨g, 0, none⟩ (.int .i64 x)) g x := by
  unfold NB at h ⊢
  simp [World.setCell, Array.getElem?_modify, h]
theorem NB.far {w : World} {g : Nat} {a : Int} (h : NB w g a) {p : Addr} (hp : g ≠ p.block) (v : Value) : NB (w.setCell p v) g a := (Below.heap_setCell _ _ _ _ hp).trans h

structure SpSt (w W : World) (n c : Nat) (g : Nat) : Prop where
  nb : NB W w.heap.size n
  cb : NB W g c
  lt : w.heap.size < g
  b : Below w.heap.size w W
theorem SpSt.start (w : World) (n : Nat) : SpSt w ((w.alloc (.cells #[.int .i64 n] 3)).alloc (.cells #[.int .i64 1] 3)) n 1 (w.heap.size + 1) := by
  refine ⟨(NB.made w n).below ((Below.refl _ _).alloc (Nat.le_refl _) _), ?_, by omega, ((Below.refl _ _).alloc (Nat.le_refl _) _).alloc (by simp) _⟩
  have := NB.made (w.alloc (.cells #[.int .i64 n] 3)) 1
  rwa [World.size_alloc] at this
theorem SpSt.drewN {w W : World} {n c g : Nat} (h : SpSt w W n c g) (k : Nat) : SpSt w (W.drewN k) n c g :=
  ⟨h.nb.below (below_drewN (Below.refl _ _) k), h.cb.below (below_drewN (Below.refl _ _) k), h.lt, below_drewN h.b k⟩
theorem SpSt.next {w W : World} {n c g : Nat} (h : SpSt w W n c g) (k : Nat) : SpSt w ((((W.drewN k).alloc (.cells #[.int .i64 0] 3)).setCell ⟨W.heap.size, 0, none⟩ (.int .i64 c)).setCell ⟨W.heap.size, 0, none⟩ (.int .i64 ((c : Int) + 1))) n (c + 1) W.heap.size := by
  have h1 := h.nb.lt
  have h2 := h.b.size
  exact ⟨(((h.drewN k).nb.below ((Below.refl _ _).alloc (Nat.le_refl _) _)).far (p := ⟨W.heap.size, 0, none⟩) (by show w.heap.size ≠ W.heap.size; omega) _).far (p := ⟨W.heap.size, 0, none⟩) (by show w.heap.size ≠ W.heap.size; omega) _, ((NB.made (W.drewN k) 0).set c).set _, h1, (((h.drewN k).b.alloc h2 _).setCell (p := ⟨W.heap.size, 0, none⟩) h2 _).setCell (p := ⟨W.heap.size, 0, none⟩) h2 _⟩

set_option maxRecDepth 100000 in
set_option maxHeartbeats 12800000 in
theorem split_any (n p : Nat) (w : World) (hp3 : 3 ≤ p) (hp : p ∣ n) (hpn : p + 2 < n) (hn2 : n ≤ 1000000000000000000) :
    Calls Tryd.prog 54 #[.int .i64 n] w fun e w' => ∃ d : Nat, e = .returned (.int .i64 d) ∧ (d ∣ n ∧ 1 < d ∧ d < n) ∧ Below w.heap.size w w' := by
  have hmf : ∀ (fn : Fn) (first cap : Array Value) (w : World), (Instr.makeFunc fn first cap).run Tryd.prog w = .ok (.func fn first cap) w := fun _ _ _ _ => rfl
  have HP := hide (And.intro hp3 (And.intro hp (And.intro hpn hn2)))
  have hn : 2 < n := by omega
  clear hp3 hp hpn
  go_enter Tryd.func54, Tryd.ntmps54
  go_wp2_with fail
  go_loopg [3] (p - 2 - 1) (fun N t wr => ∃ c g : Nat, N = p - 2 - c ∧ t = .pointer (some ⟨g, 0, none⟩) ∧ 1 ≤ c ∧ Hid (c ≤ p - 2) ∧ Hid (SpSt w wr n c g))
  case atStart => exact ⟨1, w.heap.size + 1, by omega, rfl, by omega, by have := HP.out; unfold Hid; omega, SpSt.start w n⟩
  case round =>
    obtain ⟨c, g, hN, rfl, hc1, HC, HS⟩ := hrel
    obtain ⟨n0, n1⟩ := HS.out.nb.cells
    obtain ⟨c0, c1⟩ := HS.out.cb.cells
    have hc2 : c ≤ 1000000000000000000 := by
      have h1 := HC.out
      have h2 := HP.out
      omega
    have CS := fun W (x : Nat) (hx : x < n) h1 h2 => hide (step_any n c x ⟨w.heap.size, 0, none⟩ ⟨g, 0, none⟩ W hn hn2 hc2 hx h1 h2)
    go_wp2_with fail
    go_loopg [6, 7, 8] (2 * n + 2 - 1) (fun M y q r wq => ∃ k R Q Y : Nat, M = 2 * n + 2 - R ∧ y = .int .i64 Y ∧ q = .int .i64 Q ∧ r = .int .i64 R ∧ 1 ≤ R ∧ R ≤ 4 * n ∧ 1 ≤ Q ∧ Q ≤ n ∧ Hid (L1ok n c p R Q Y) ∧ wq = wr.drewN k)
    case atStart => exact ⟨0, 1, 1, 2, by omega, rfl, rfl, rfl, by omega, by omega, by omega, by omega, L1_start n c p hn, rfl⟩
    case round =>
      obtain ⟨k, R, Q, Y, hM, rfl, rfl, rfl, hR1, hR2, hQ1, hQ2, HL1, rfl⟩ := hrel
      by_cases hq : Q = 1
      · subst hq
        have HRn : Hid (R ≤ 2 * n) := (HL1.out.1 rfl).1
        have HL2 := hide (L2_start HL1.out)
        have hYn : Y < n := by rw [(HL1.out.1 rfl).2.1]; exact rho_lt hn _
        have HX : Hid (Y = rho n c (R - 1)) := (HL1.out.1 rfl).2.1
        have HCR : Hid (c = p - 2 → R = 1) := (HL1.out.1 rfl).2.2
        clear HL1
        go_wp2_with fail
        go_loopg [6, 7, 9] R (fun L y q i wq => ∃ k I Q Z : Nat, L = R - I ∧ y = .int .i64 Z ∧ q = .int .i64 Q ∧ i = .int .i64 I ∧ I ≤ R + 64 ∧ 1 ≤ Q ∧ Q ≤ n ∧ Hid (L2ok n c p R I Q Z) ∧ wq = wr.drewN k)
        case atStart => exact ⟨k, 0, 1, Y, by omega, rfl, rfl, rfl, by omega, by omega, by omega, HL2, rfl⟩
        case round =>
          obtain ⟨k, I, Q, Z, hL, rfl, rfl, rfl, hI1, hQ3, hQ4, HL2, rfl⟩ := hrel
          clear hQ1 hQ2
          by_cases hIR : I < R
          · by_cases hq : Q = 1
            · subst hq
              obtain ⟨B, hB⟩ : ∃ B, B = min 64 (R - I) := ⟨_, rfl⟩
              have hmin : min (64 : Int) ((R : Int) - (I : Int)) = (B : Int) := by omega
              have HB := hide hB
              have hB64 : B ≤ 64 := by omega
              have HZ : Hid (Z = rho n c (R - 1 + I)) := by have := (HL2.out.1 rfl).1; rwa [Nat.min_eq_left (by omega)] at this
              clear hB
              go_wp2_with fail
              go_loopg [6, 7, 33] B (fun J y q s wq => ∃ k S Y2 : Nat, ∃ q2 : Int, J = B - S ∧ s = .int .i64 S ∧ S ≤ B ∧ y = .int .i64 Y2 ∧ Y2 < n ∧ q = .int .i64 q2 ∧ 0 ≤ q2 ∧ q2 < n ∧ Hid (Y2 = rho n c (R - 1 + I + S) ∧ q2 = bq n c (rho n c (R - 1)) (R - 1 + I) S) ∧ wq = wr.drewN k)
              case atStart => exact ⟨k, 0, Z, 1, by omega, rfl, by omega, rfl, by rw [HZ.out]; exact rho_lt hn _, rfl, by omega, by omega, ⟨HZ.out, rfl⟩, rfl⟩
              case round =>
                obtain ⟨k, S, Y2, q2, hJ, rfl, hS, rfl, hY2, rfl, hq0, hq1, HQ, rfl⟩ := hrel
                by_cases hSB : S < B
                · have hy3 := rho_lt (c := c) hn (R - 1 + I + (S + 1))
                  have HY3 : Hid (rhoF n c Y2 = rho n c (R - 1 + I + (S + 1))) := by unfold Hid; rw [HQ.out.1]; rfl
                  obtain ⟨Y3, hY3⟩ : ∃ Y3, rho n c (R - 1 + I + (S + 1)) = Y3 := ⟨_, rfl⟩
                  have CT := fun W => hide (times_any q2 ((Y : Int) - Y3) n W (by omega) (by omega) (by omega) (by omega) (by omega) (by omega))
                  have hqn := bq_bounds (n := n) (c := c) (X := rho n c (R - 1)) (t0 := R - 1 + I) hn (S + 1)
                  have HQ3 : Hid (q2 * ((Y : Int) - Y3) % n = bq n c (rho n c (R - 1)) (R - 1 + I) (S + 1)) := by
                    unfold Hid; rw [HQ.out.2, HX.out, ← hY3]; rfl
                  rw [hY3] at hy3 HY3
                  have CS1 := fun W h1 h2 => CS W Y2 hY2 h1 h2
                  rw [HY3.out] at CS1
                  rw [← HQ3.out] at hqn
                  obtain ⟨q3, hq3⟩ : ∃ q3, q2 * ((Y : Int) - Y3) % n = q3 := ⟨_, rfl⟩
                  rw [hq3] at CT hqn HQ3
                  obtain ⟨hqn0, hqn1⟩ := hqn
                  have HY4 : Hid (Y3 = rho n c (R - 1 + I + (S + 1))) := hY3.symm
                  clear hY3 hq3
                  go_wp2_with fail
                  refine (CS1 _ (by first | assumption | (simp; assumption)) (by first | assumption | (simp; assumption))).out.mono ?_
                  rintro e wa ⟨rfl, k2, rfl⟩
                  go_wp2_with fail
                  refine (CT _).out.mono ?_
                  rintro e wb ⟨rfl, k3, rfl⟩
                  go_wp2_with fail
                  go_roundg (B - (S + 1))
                  case measure => omega
                  case rel => exact ⟨_, S + 1, Y3, q3, rfl, by simp, by omega, rfl, hy3, rfl, hqn0, hqn1, ⟨HY4.out, HQ3.out⟩, by first | rfl | (rw [World.drewN_drewN]) | (rw [World.drewN_drewN, World.drewN_drewN])⟩
                · obtain rfl : S = B := by omega
                  have CD := fun W => hide (divisor_any q2 n W (by omega) (by omega) (by omega) (by omega))
                  have HGD : Hid (Int.gcd q2 n ∣ n) := gcd_dvd_nat q2 n
                  have HG : Hid (Int.gcd q2 n = Int.gcd (bq n c (rho n c (R - 1)) (R - 1 + I) S) n) := by unfold Hid; rw [HQ.out.2]
                  have hGn := Nat.le_of_dvd (by omega) HGD.out
                  have hG0 : 1 ≤ Int.gcd q2 n := Nat.pos_of_dvd_of_pos HGD.out (by omega)
                  obtain ⟨G, hG⟩ : ∃ G, Int.gcd q2 n = G := ⟨_, rfl⟩
                  rw [hG] at CD HGD HG hGn hG0
                  have HLast : Hid (c = p - 2 → G = p) := fun h => by
                    rw [HG.out]
                    have e := last_gcd HP.out.1 HP.out.2.1 HP.out.2.2.1 (HCR.out h) hIR HB.out
                    rw [h]; exact e
                  clear hG
                  go_wp2_with fail
                  refine (CD _).out.mono ?_
                  rintro e wa ⟨rfl, k2, rfl⟩
                  by_cases hGN : G = n
                  · have HGN : Hid (Int.gcd (bq n c (rho n c (R - 1)) (R - 1 + I) S) n = n) := by unfold Hid; rw [← HG.out]; exact hGN
                    have hcp : c ≠ p - 2 := fun h => by
                      have h1 := HLast.out h
                      have := HP.out
                      omega
                    have HCP := hide hcp
                    have HL4 := hide (L4_start (M := S) hIR HL2.out)
                    subst hGN
                    clear hcp HG HLast
                    go_wp2_with fail
                    go_loopg [6, 7] (S + 1) (fun J y q wq => ∃ k S2 Q Y2 : Nat, J = S + 1 - S2 ∧ y = .int .i64 Y2 ∧ q = .int .i64 Q ∧ 1 ≤ Q ∧ Q ≤ G ∧ Hid (L4ok G c (rho G c (R - 1)) (R - 1 + I) S S2 Q Y2) ∧ wq = wr.drewN k)
                    case atStart => exact ⟨_, 0, 1, Z, by omega, rfl, rfl, by omega, by omega, HL4, by first | rfl | (rw [World.drewN_drewN]) | (rw [World.drewN_drewN, World.drewN_drewN])⟩
                    case round =>
                      obtain ⟨k, S2, Q, Y2, hJ, rfl, rfl, hQ5, hQ6, HL4, rfl⟩ := hrel
                      by_cases hq : Q = 1
                      · subst hq
                        obtain ⟨hS2, hY2, hnext⟩ := L4_next hn HL4.out HGN.out
                        have hY2n : Y2 < G := by rw [hY2]; exact rho_lt hn _
                        have hy3 := rho_lt (c := c) hn (R - 1 + I + (S2 + 1))
                        have HY3 : Hid (rhoF G c Y2 = rho G c (R - 1 + I + (S2 + 1))) := by unfold Hid; rw [hY2]; rfl
                        obtain ⟨Y3, hY3⟩ : ∃ Y3, rho G c (R - 1 + I + (S2 + 1)) = Y3 := ⟨_, rfl⟩
                        rw [hY3, ← HX.out] at hnext
                        rw [hY3] at hy3 HY3
                        have CS1 := fun W h1 h2 => CS W Y2 hY2n h1 h2
                        rw [HY3.out] at CS1
                        have CE := fun W => hide (divisor_any ((Y : Int) - Y3) G W (by omega) (by omega) (by omega) (by omega))
                        have hgd := gcd_dvd_nat ((Y : Int) - Y3) G
                        have hG2 := Nat.le_of_dvd (by omega) hgd
                        have hG3 : 1 ≤ Int.gcd ((Y : Int) - Y3) G := Nat.pos_of_dvd_of_pos hgd (by omega)
                        have HN := hide (hnext _ rfl)
                        obtain ⟨G2, hGG⟩ : ∃ G2, Int.gcd ((Y : Int) - Y3) G = G2 := ⟨_, rfl⟩
                        rw [hGG] at CE hG2 hG3 HN
                        clear hnext hgd hGG hY3 hY2
                        go_wp2_with fail
                        refine (CS1 _ (by first | assumption | (simp; assumption)) (by first | assumption | (simp; assumption))).out.mono ?_
                        rintro e wa ⟨rfl, k2, rfl⟩
                        go_wp2_with fail
                        refine (CE _).out.mono ?_
                        rintro e wb ⟨rfl, k3, rfl⟩
                        go_wp2_with fail
                        go_roundg (S + 1 - (S2 + 1))
                        case measure => omega
                        case rel => exact ⟨_, S2 + 1, G2, Y3, rfl, rfl, rfl, by omega, by omega, by rw [← HX.out]; exact HN, by first | rfl | (rw [World.drewN_drewN]) | (rw [World.drewN_drewN, World.drewN_drewN])⟩
                      · have q1 : ((Q : Int) == 1) = false := by simp; omega
                        have HF := hide (L2_found (R := R) (I := I) (Y := Y2) hq (HL4.out.2.2 hq) (fun h => absurd h HCP.out))
                        clear hq
                        go_wp2_with fail
                        go_roundg (R - (I + 64))
                        case measure => omega
                        case rel => exact ⟨_, I + 64, Q, Y2, rfl, rfl, rfl, by simp, by omega, by omega, by omega, HF, rfl⟩
                  · have q1 : ((G : Int) == (n : Int)) = false := by simp; omega
                    have HF : Hid (L2ok n c p R (I + 64) G Y2) := by
                      by_cases h1 : G = 1
                      · subst h1
                        have hcp : c ≠ p - 2 := fun h => by have := HLast.out h; have := HP.out; omega
                        have := L2_none hn hIR HB.out HL2.out HG.out.symm hcp
                        rw [HQ.out.1]; exact this
                      · exact L2_found h1 HGD.out HLast.out
                    clear hGN
                    go_wp2_with fail
                    go_roundg (R - (I + 64))
                    case measure => omega
                    case rel => exact ⟨_, I + 64, G, Y2, rfl, rfl, rfl, by simp, by omega, by omega, by omega, HF, by first | rfl | (rw [World.drewN_drewN]) | (rw [World.drewN_drewN, World.drewN_drewN])⟩
            · have q1 : ((Q : Int) == 1) = false := by simp; omega
              have HF := hide (L2_end hn hR1 HL2.out (fun h => hq h.2))
              have hRR := HRn.out
              clear hq
              go_wp2_with fail
              go_roundg (2 * n + 2 - 2 * R)
              case measure => omega
              case rel => exact ⟨_, 2 * R, Q, Z, rfl, rfl, rfl, by simp; omega, by omega, by omega, by omega, by omega, HF, rfl⟩
          · have HF := hide (L2_end hn hR1 HL2.out (fun h => hIR h.1))
            have hRR := HRn.out
            go_wp2_with fail
            go_roundg (2 * n + 2 - 2 * R)
            case measure => omega
            case rel => exact ⟨_, 2 * R, Q, Z, rfl, rfl, rfl, by simp; omega, by omega, by omega, by omega, by omega, HF, rfl⟩
      · have q1 : ((Q : Int) == 1) = false := by simp; omega
        have hd := HL1.out.2 hq
        by_cases hQn : Q = n
        · have hcp : c ≠ p - 2 := fun h => by have := hd.2 h; have := HP.out; omega
          have fz : ((wr.drewN k).alloc (.cells #[.int .i64 0] 3)).frozen? ⟨wr.heap.size, 0, none⟩ = false := (NB.made (wr.drewN k) 0).cells.2
          have fw : ((wr.drewN k).alloc (.cells #[.int .i64 0] 3)).cell? ⟨wr.heap.size, 0, none⟩ = some (.int .i64 0) := (NB.made (wr.drewN k) 0).cells.1
          have fy : (((wr.drewN k).alloc (.cells #[.int .i64 0] 3)).setCell ⟨wr.heap.size, 0, none⟩ (.int .i64 c)).frozen? ⟨wr.heap.size, 0, none⟩ = false := ((NB.made (wr.drewN k) 0).set c).cells.2
          have fx : (((wr.drewN k).alloc (.cells #[.int .i64 0] 3)).setCell ⟨wr.heap.size, 0, none⟩ (.int .i64 c)).cell? ⟨wr.heap.size, 0, none⟩ = some (.int .i64 c) := ((NB.made (wr.drewN k) 0).set c).cells.1
          have HC2 : Hid (c + 1 ≤ p - 2) := by have := HC.out; unfold Hid; omega
          have HCL : Hid (c + 1 ≤ p - 2) := HC2
          subst hQn
          clear hd hq
          go_wp2_with fail
          go_roundg (p - 2 - (c + 1))
          case measure => have := HC2.out; omega
          case rel => exact ⟨c + 1, _, rfl, rfl, by omega, HC2, HS.out.next k⟩
        · have q2 : ((Q : Int) != (n : Int)) = true := by simp; omega
          have HB2 := hide (HS.out.drewN k).b
          have HD : Hid (Q ∣ n ∧ 1 < Q ∧ Q < n) := ⟨hd.1, by omega, by omega⟩
          clear hd hq hQn
          go_wp2_with fail
          go_ret
          exact ⟨Q, rfl, HD.out, HB2.out⟩
end Go.Proofs.YtpppnaljndhjcaaDoor
