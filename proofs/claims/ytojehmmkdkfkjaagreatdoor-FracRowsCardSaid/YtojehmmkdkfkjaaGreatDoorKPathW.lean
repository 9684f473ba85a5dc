/- The walk of frac.Path: the way down to a fraction, as text; or its fault. -/
import Derived.Test.YtojehmmkdkfkjaaGreatDoorK0
import Derived.Test.YtojehmmkdkfkjaaGreatDoorKShelfT
import Derived.Lib.Strings
import Derived.Lib.Slices
import Derived.Lib.Walk
import Derived.Lib.Builder
import Derived.Lib.AppendStr
import Derived.Lib.UnsafeStr
import Derived.Laws.Externs
import Derived.Deep.LoopGhost
namespace Go.Proofs.YtojehmmkdkfkjaaGreatDoor
open Go.RowKit Go.Shelf

theorem binfo : (Tryz.prog.info? 5).map (fun i => (i.zero, i.size, i.bytes)) = some (some (.int .u8 0), 1, 1) := by kernel_rfl
theorem bsize : (Tryz.prog.info? 62).map (·.size) = some 2 := by kernel_rfl
theorem blies : liesAt Tryz.prog Tryz.prog.depth 62 (2 / Tryz.prog.cellsOf 62) 0 62 1 = true := by kernel_rfl

set_option maxHeartbeats 1000000 in
set_option maxRecDepth 100000 in
theorem ccheck_used (b : Nat) (w : World) (h0 : w.cell? ⟨b, 0, none⟩ = some (.pointer (some ⟨b, 0, none⟩))) :
    Calls Tryz.prog 49 #[.pointer (some ⟨b, 0, none⟩)] w fun e w' => e = .returned (.tuple #[]) ∧ w' = w := by
  obtain ⟨j, hj, _⟩ := Option.map_eq_some_iff.1 bsize
  go_enter Tryz.func49, Tryz.ntmps49
  go_wp2
  rw [Lib.run_neq_ptr_same w _ Tryz.underlying59 hj]
  go_wp2
  go_end0
  exact ⟨rfl, rfl⟩

set_option maxHeartbeats 1000000 in
set_option maxRecDepth 100000 in
theorem ccheck_fresh (b : Nat) (w : World) (h0 : w.cell? ⟨b, 0, none⟩ = some (.pointer none)) (hsh : w.shape? b = some (62, 2)) (hfz : w.frozen? ⟨b, 0, none⟩ = false) :
    Calls Tryz.prog 49 #[.pointer (some ⟨b, 0, none⟩)] w fun e w' => e = .returned (.tuple #[]) ∧ w' = w.setCell ⟨b, 0, none⟩ (.pointer (some ⟨b, 0, none⟩)) := by
  obtain ⟨j, hj, hjs⟩ := Option.map_eq_some_iff.1 bsize
  go_enter Tryz.func49, Tryz.ntmps49
  go_wp2
  rw [Lib.run_to_unsafe w ⟨b, 0, none⟩ Tryz.underlying59 Tryz.underlying101 hj (by rw [hjs]; decide) hsh (Nat.zero_lt_succ 1)]
  simp only [Result.andThen]
  rw [Oper.upon_value]
  go_wp2
  rw [run_callFunc_extern Tryz.func69 (by kernel_rfl) (by kernel_rfl) (by kernel_rfl) (e := Extern.AbiNoEscape.same) (by kernel_rfl)]
  rw [Lib.run_noEscape]
  simp only [Result.andThen]
  rw [Oper.upon_value]
  go_wp2
  rw [Lib.run_from_unsafe w ⟨b, 0, none⟩ Tryz.underlying101 Tryz.underlying59 hj hsh blies]
  simp only [Result.andThen]
  rw [Oper.upon_value]
  go_wp2
  go_end0
  exact ⟨rfl, rfl⟩

theorem ccheck_any (B b : Nat) (bs : List Value) (w : World) (h : Lib.IsBuilder 62 5 B b bs w) :
    Calls Tryz.prog 49 #[.pointer (some ⟨b, 0, none⟩)] w fun e w' => e = .returned (.tuple #[]) ∧ (Lib.BuilderAt 62 5 B b (.pointer (some ⟨b, 0, none⟩)) bs w' ∧ Below B w w') := by
  rcases h with h | h
  · refine (ccheck_fresh b w h.cell0 h.shape h.frozen0).mono ?_
    rintro e w' ⟨rfl, rfl⟩
    exact ⟨rfl, h.used _, (Below.refl B w).setCell (p := ⟨b, 0, none⟩) h.1 _⟩
  · refine (ccheck_used b w h.cell0).mono ?_
    rintro e w' ⟨rfl, rfl⟩
    exact ⟨rfl, h, Below.refl B _⟩

set_option maxHeartbeats 2000000 in
set_option maxRecDepth 100000 in
theorem writeString_any (B b : Nat) (bs : List Value) (s : ByteArray) (w : World) (h : Lib.IsBuilder 62 5 B b bs w) (hlen : bs.length + s.size ≤ 140737488355328) (hBw : B ≤ w.heap.size) :
    Calls Tryz.prog 33 #[.pointer (some ⟨b, 0, none⟩), .string s] w fun e w' => e = .returned (.tuple #[.int .i64 s.size, .nilIface]) ∧ (Lib.BuilderAt 62 5 B b (.pointer (some ⟨b, 0, none⟩)) (bs ++ Lib.strCells s) w' ∧ Below B w w') := by
  obtain ⟨i0, hi, hz0, hz1, hz2⟩ := info_parts binfo
  go_enter Tryz.func33, Tryz.ntmps33
  go_wp2_with fail
  refine (ccheck_any B b bs _ h).mono ?_
  rintro e w1 ⟨rfl, h1, hb1⟩
  obtain ⟨hB, v, hbk, hown, hne⟩ := h1
  have c0 : w1.cell? ⟨b, 0, none⟩ = some (.pointer (some ⟨b, 0, none⟩)) := by rw [Lib.cell_of_heap hbk]; rfl
  have c1 : w1.cell? ⟨b, 1, none⟩ = some v := by rw [Lib.cell_of_heap hbk]; rfl
  go_wp2_with (at_builtin; refine Lib.wpList_append_own_string _ rfl _ _ 60 9 rfl B 5 i0 Tryz.underlying60 Tryz.underlying9 hi hz0 hz1 hz2 _ _ _ rfl hown s rfl ?c3 ?c4 ?c5 ?_)
  case c3 => unfold maxLen; omega
  case c4 => omega
  case c5 => have := hb1.size; omega
  intro v' w2 hown' hgrow _
  have hlt : b < w1.heap.size := by
    rcases Nat.lt_or_ge b w1.heap.size with h' | h'
    · exact h'
    · simp [Array.getElem?_eq_none h'] at hbk
  have hb2 : w2.heap[b]? = some (.cells #[.pointer (some ⟨b, 0, none⟩), v] 62 (0, 0)) := by
    rw [hgrow.block b hlt (fun e => hne e.symm)]
    exact hbk
  have d0 : w2.cell? ⟨b, 0, none⟩ = some (.pointer (some ⟨b, 0, none⟩)) := by rw [Lib.cell_of_heap hb2]; rfl
  have d1 : w2.cell? ⟨b, 1, none⟩ = some v := by rw [Lib.cell_of_heap hb2]; rfl
  have f1 : w2.frozen? ⟨b, 1, none⟩ = false := Lib.frozen_of_heap hb2 1
  obtain ⟨ao, n', cap, rfl⟩ : ∃ ao n' cap, v' = .slice ao n' cap := by
    rcases hown'.2 with ⟨hv, _⟩ | ⟨g, cap, cur, hv, _⟩
    · exact ⟨_, _, _, hv⟩
    · exact ⟨_, _, _, hv⟩
  go_wp2
  go_ret2
  refine ⟨rfl, ?_, ?_⟩
  · exact Lib.BuilderAt.put (T := 62) (e := 5) hB hb2 (bs' := bs ++ Lib.strCells s) (by simpa [Lib.strCells_length] using hown') (by decide)
  · exact (hb1.grown hgrow (by have := hb1.size; omega) (fun k hk => (hown.lt k hk).1)).setCell (p := ⟨b, 1, none⟩) hB _

theorem own_bel {w w' : World} {base n size : Nat} {e : TypeId} {v : Value} {xs : List Value} (h : w.ownsRow base e size v n xs) (k : Below w.heap.size w w') : w'.ownsRow base e size v n xs := by
  obtain ⟨h1, h2⟩ := h
  refine ⟨h1, ?_⟩
  rcases h2 with h2 | ⟨g, cap, cur, e, hg, hh, hr⟩
  · exact .inl h2
  · exact .inr ⟨g, cap, cur, e, hg, (k.block g (heap_lt hh)).trans hh, hr⟩
theorem build_below {w w' : World} {B b : Nat} {bs : List Value} (h : Lib.IsBuilder 62 5 B b bs w) (k : Below w.heap.size w w') : Lib.IsBuilder 62 5 B b bs w' := by
  rcases h with ⟨hB, v, hb, hown, hne⟩ | ⟨hB, v, hb, hown, hne⟩
  · exact .inl ⟨hB, v, (k.block b (heap_lt hb)).trans hb, own_bel hown k, hne⟩
  · exact .inr ⟨hB, v, (k.block b (heap_lt hb)).trans hb, own_bel hown k, hne⟩
theorem build_lt {w : World} {B b : Nat} {bs : List Value} (h : Lib.IsBuilder 62 5 B b bs w) : b < w.heap.size := by
  rcases h with h | h
  · exact h.lt
  · exact h.lt
end Go.Proofs.YtojehmmkdkfkjaaGreatDoor

namespace Go.Proofs.YtojehmmkdkfkjaaGreatDoor

/-- between p / q and r / s -/
structure Mid where
  p : Nat
  q : Nat
  r : Nat
  s : Nat
def Mid.one : Mid := ⟨0, 1, 1, 0⟩
/-- a step: true to the right -/
def Mid.step (m : Mid) : Bool → Mid
  | true => ⟨m.p + m.r, m.q + m.s, m.r, m.s⟩
  | false => ⟨m.p, m.q, m.p + m.r, m.q + m.s⟩
def Mid.go (m : Mid) : List Bool → Mid
  | [] => m
  | x :: l => (m.step x).go l
theorem Mid.go_app (m : Mid) (l k : List Bool) : m.go (l ++ k) = (m.go l).go k := by
  induction l generalizing m with
  | nil => rfl
  | cons x l ih => exact ih _
theorem Mid.go_snoc (m : Mid) (l : List Bool) (x : Bool) : m.go (l ++ [x]) = (m.go l).step x := Mid.go_app m l [x]
def Mid.up (m : Mid) : Nat := m.p + m.r
def Mid.down (m : Mid) : Nat := m.q + m.s

/-- the fraction at a way's end -/
def node : List Bool → Nat × Nat
  | [] => (1, 1)
  | true :: l => ((node l).1 + (node l).2, (node l).2)
  | false :: l => ((node l).1, (node l).1 + (node l).2)
theorem node_pos (l : List Bool) : 1 ≤ (node l).1 ∧ 1 ≤ (node l).2 := by
  induction l with
  | nil => exact ⟨Nat.le_refl _, Nat.le_refl _⟩
  | cons x l ih => cases x <;> (simp only [node]; omega)
theorem node_gcd (l : List Bool) : Nat.gcd (node l).1 (node l).2 = 1 := by
  induction l with
  | nil => rfl
  | cons x l ih =>
    cases x
    · simp only [node]; rw [Nat.gcd_self_add_right]; exact ih
    · simp only [node]; rw [Nat.gcd_add_self_left]; exact ih
theorem go_node (l : List Bool) (m : Mid) : (m.go l).up = m.p * (node l).2 + m.r * (node l).1 ∧ (m.go l).down = m.q * (node l).2 + m.s * (node l).1 := by
  induction l generalizing m with
  | nil => simp [Mid.go, node, Mid.up, Mid.down]
  | cons x l ih =>
    obtain ⟨h1, h2⟩ := ih (m.step x)
    cases x
    · simp only [Mid.go, Mid.step, node] at h1 h2 ⊢
      rw [h1, h2]
      simp only [Nat.mul_add, Nat.add_mul]
      omega
    · simp only [Mid.go, Mid.step, node] at h1 h2 ⊢
      rw [h1, h2]
      simp only [Nat.mul_add, Nat.add_mul]
      omega
theorem one_node (l : List Bool) : (Mid.one.go l).up = (node l).1 ∧ (Mid.one.go l).down = (node l).2 := by
  have h := go_node l Mid.one
  simpa [Mid.one] using h
/-- what stands ahead on the way is not greater -/
theorem go_le (m : Mid) (l : List Bool) : m.up ≤ (m.go l).up ∧ m.down ≤ (m.go l).down := by
  obtain ⟨h1, h2⟩ := go_node l m
  obtain ⟨a, b⟩ := node_pos l
  have e1 := Nat.mul_le_mul_left m.p b
  have e2 := Nat.mul_le_mul_left m.r a
  have e3 := Nat.mul_le_mul_left m.q b
  have e4 := Nat.mul_le_mul_left m.s a
  rw [h1, h2]
  unfold Mid.up Mid.down
  omega
theorem go_take_le (l : List Bool) (i : Nat) : (Mid.one.go (l.take i)).up ≤ (node l).1 ∧ (Mid.one.go (l.take i)).down ≤ (node l).2 := by
  have h := go_le (Mid.one.go (l.take i)) (l.drop i)
  rw [← Mid.go_app, List.take_append_drop, (one_node l).1, (one_node l).2] at h
  exact h

/-- the way is told by its end -/
theorem node_inj : ∀ (l k : List Bool), node l = node k → l = k := by
  intro l
  induction l with
  | nil =>
    intro k h
    cases k with
    | nil => rfl
    | cons x k =>
      have hp := node_pos k
      cases x
      · simp only [node, Prod.mk.injEq] at h; omega
      · simp only [node, Prod.mk.injEq] at h; omega
  | cons x l ih =>
    intro k h
    have hl := node_pos l
    cases k with
    | nil =>
      cases x
      · simp only [node, Prod.mk.injEq] at h; omega
      · simp only [node, Prod.mk.injEq] at h; omega
    | cons y k =>
      have hk := node_pos k
      cases x <;> cases y <;> simp only [node, Prod.mk.injEq] at h
      · rw [ih k (Prod.ext (by omega) (by omega))]
      · omega
      · omega
      · rw [ih k (Prod.ext (by omega) (by omega))]

/-- so many steps to one side -/
theorem node_rep_true (k : Nat) (l : List Bool) : node (List.replicate k true ++ l) = ((node l).1 + k * (node l).2, (node l).2) := by
  induction k with
  | zero => simp
  | succ k ih =>
    rw [List.replicate_succ, List.cons_append, node, ih]
    simp only [Nat.add_mul, Nat.one_mul, Prod.mk.injEq, and_true]
    omega
theorem node_rep_false (k : Nat) (l : List Bool) : node (List.replicate k false ++ l) = ((node l).1, (node l).2 + k * (node l).1) := by
  induction k with
  | zero => simp
  | succ k ih =>
    rw [List.replicate_succ, List.cons_append, node, ih]
    simp only [Nat.add_mul, Nat.one_mul, Prod.mk.injEq, true_and]
    omega

/-- the sum of Euclid's quotients -/
def quots : Nat → Nat → Nat → Nat
  | 0, _, _ => 0
  | f + 1, a, b => if b = 0 then 0 else a / b + quots f b (a % b)
theorem quots_fuel : ∀ (f g a b : Nat), b < f → b < g → quots f a b = quots g a b := by
  intro f
  induction f with
  | zero => intro g a b h; omega
  | succ f ih =>
    intro g a b hf hg
    cases g with
    | zero => omega
    | succ g =>
      simp only [quots]
      split
      · rfl
      · have := Nat.mod_lt a (y := b) (by omega)
        rw [ih g b (a % b) (by omega) (by omega)]
def quot (a b : Nat) : Nat := quots (b + 1) a b
theorem quot_zero (a : Nat) : quot a 0 = 0 := rfl
theorem quot_step {a b : Nat} (h : b ≠ 0) : quot a b = a / b + quot b (a % b) := by
  unfold quot
  rw [quots, if_neg h]
  have := Nat.mod_lt a (y := b) (by omega)
  rw [quots_fuel b (a % b + 1) b (a % b) (by omega) (by omega)]
theorem quot_add (a b : Nat) (h : b ≠ 0) : quot (a + b) b = quot a b + 1 := by
  rw [quot_step h, quot_step h, Nat.add_div_right _ (by omega), Nat.add_mod_right]; omega
theorem quot_swap {a b : Nat} (h : a < b) : quot a b = quot b a := by
  rw [quot_step (by omega), Nat.div_eq_of_lt h, Nat.mod_eq_of_lt h, Nat.zero_add]
theorem quot_add' (a b : Nat) (ha : 1 ≤ a) (hb : 1 ≤ b) : quot a (a + b) = quot a b + 1 := by
  rw [quot_swap (by omega), Nat.add_comm, quot_add b a (by omega)]
  rcases Nat.lt_trichotomy a b with h | h | h
  · rw [quot_swap h]
  · rw [h]
  · rw [quot_swap h]
/-- how many steps there are -/
theorem node_quot (l : List Bool) : quot (node l).1 (node l).2 = l.length + 1 := by
  induction l with
  | nil => decide
  | cons x l ih =>
    have hp := node_pos l
    cases x
    · simp only [node, List.length_cons]; rw [quot_add' _ _ hp.1 hp.2, ih]
    · simp only [node, List.length_cons]; rw [quot_add _ _ (by omega), ih]

/-- each fraction in lowest terms stands at a way's end -/
theorem node_all : ∀ (n a b : Nat), a + b ≤ n → 1 ≤ a → 1 ≤ b → Nat.gcd a b = 1 → ∃ l, node l = (a, b) := by
  intro n
  induction n with
  | zero => intro a b h h1; omega
  | succ n ih =>
    intro a b h ha hb hg
    rcases Nat.lt_trichotomy a b with h1 | h1 | h1
    · obtain ⟨l, hl⟩ := ih a (b - a) (by omega) ha (by omega) (by
        rw [← hg]; have := Nat.gcd_add_self_right a (b - a); rw [show b - a + a = b from by omega] at this; exact this.symm)
      exact ⟨false :: l, by simp only [node, hl]; rw [show a + (b - a) = b from by omega]⟩
    · subst h1
      rw [Nat.gcd_self] at hg
      subst hg
      exact ⟨[], rfl⟩
    · obtain ⟨l, hl⟩ := ih (a - b) b (by omega) (by omega) hb (by
        rw [← hg]; have := Nat.gcd_add_self_left b (a - b); rw [show a - b + b = a from by omega] at this; exact this.symm)
      exact ⟨true :: l, by simp only [node, hl]; rw [show a - b + b = a from by omega]⟩
end Go.Proofs.YtojehmmkdkfkjaaGreatDoor

namespace Go.Proofs.YtojehmmkdkfkjaaGreatDoor
open Go.RowKit

/-- a way's text -/
def wb (l : List Bool) : List UInt8 := l.map fun x => if x then 82 else 76
theorem wb_app (l k : List Bool) : wb (l ++ k) = wb l ++ wb k := by simp [wb]
theorem wb_len (l : List Bool) : (wb l).length = l.length := by simp [wb]
theorem rep_true (k : Nat) : Lib.repeatL [82] k = wb (List.replicate k true) := by
  induction k with
  | zero => simp [Lib.repeatL, wb]
  | succ k ih => simp [Lib.repeatL, wb, List.replicate_succ] at *; first | exact ih | simp [ih]
theorem rep_false (k : Nat) : Lib.repeatL [76] k = wb (List.replicate k false) := by
  induction k with
  | zero => simp [Lib.repeatL, wb]
  | succ k ih => simp [Lib.repeatL, wb, List.replicate_succ] at *; first | exact ih | simp [ih]

/-- how many steps there are to a fraction -/
def steps (a b : Int) : Nat := quot a.toNat b.toNat - 1
/-- the fault of Path -/
def pathF (a b : Int) : Int × Int := if (fracF a b).1 ≠ 0 then fracF a b else if a < 1 then (3, 0) else if 20000 < steps a b then (9, 0) else (0, 0)
def RetPath (w : World) (a b : Int) : Ending → World → Prop := fun e w' => ∃ s : List UInt8, e = .returned (.tuple #[.string ⟨s.toArray⟩, fv (pathF a b)]) ∧ ((pathF a b).1 ≠ 0 → s = []) ∧ ((pathF a b).1 = 0 → ∃ l : List Bool, s = wb l ∧ node l = (a.toNat, b.toNat) ∧ l.length ≤ 20000) ∧ Below w.heap.size w w'

theorem FrSt.base {w W W' : World} {a b : Int} {B : Nat} (h : FrSt w W a b) (k : Below B W W') (hB : w.heap.size + 2 ≤ B) : FrSt w W' a b :=
  ⟨(k.block _ (by omega)).trans h.x, (k.block _ (by omega)).trans h.f, h.b.trans (k.mono (by omega))⟩
/-- a new builder -/
theorem builder_new (W : World) (g : Nat) (hg : g = W.heap.size) : Lib.IsBuilder 62 5 g g [] (W.alloc (.cells #[.pointer none, .slice none 0 0] 62)) := by
  subst hg
  exact .inl ⟨Nat.le_refl _, .slice none 0 0, heap_alloc_new W _, ⟨rfl, .inl ⟨rfl, rfl⟩⟩, by simp [Value.ownBlock]⟩

/-- what is left behind k steps to the right -/
theorem rest_true {A B : Nat} {rest : List Bool} (h : node rest = (A, B)) (hBA : B < A) :
    ∃ r, rest = List.replicate ((A - 1) / B) true ++ r ∧ node r = (A - (A - 1) / B * B, B) ∧ 1 ≤ A - (A - 1) / B * B ∧ A - (A - 1) / B * B < A ∧ (A - 1) / B * B ≤ A ∧ 1 ≤ (A - 1) / B := by
  have hp := node_pos rest
  have hg := node_gcd rest
  rw [h] at hp hg
  have hp1 : 1 ≤ A := hp.1
  have hp2 : 1 ≤ B := hp.2
  have hg : Nat.gcd A B = 1 := hg
  have hk : (A - 1) / B * B ≤ A - 1 := Nat.div_mul_le_self _ _
  have h1 : 1 ≤ (A - 1) / B := (Nat.le_div_iff_mul_le (by omega)).2 (by omega)
  have hge : B ≤ (A - 1) / B * B := Nat.le_mul_of_pos_left B h1
  generalize (A - 1) / B = k at hk h1 hge
  obtain ⟨r, hr⟩ := node_all (A - k * B + B) (A - k * B) B (Nat.le_refl _) (by omega) hp2 (by
    have e : A - k * B + k * B = A := by omega
    rw [← hg]
    conv => rhs; rw [← e]
    rw [Nat.gcd_comm, Nat.gcd_comm _ B, Nat.mul_comm k B, Nat.gcd_add_mul_left_right])
  refine ⟨r, node_inj _ _ ?_, hr, by omega, by omega, by omega, h1⟩
  rw [h, node_rep_true, hr]
  simp only [Prod.mk.injEq, and_true]
  omega
theorem rest_false {A B : Nat} {rest : List Bool} (h : node rest = (A, B)) (hBA : A < B) :
    ∃ r, rest = List.replicate ((B - 1) / A) false ++ r ∧ node r = (A, B - (B - 1) / A * A) ∧ 1 ≤ B - (B - 1) / A * A ∧ B - (B - 1) / A * A < B ∧ (B - 1) / A * A ≤ B ∧ 1 ≤ (B - 1) / A := by
  have hp := node_pos rest
  have hg := node_gcd rest
  rw [h] at hp hg
  have hp1 : 1 ≤ A := hp.1
  have hp2 : 1 ≤ B := hp.2
  have hg : Nat.gcd A B = 1 := hg
  have hk : (B - 1) / A * A ≤ B - 1 := Nat.div_mul_le_self _ _
  have h1 : 1 ≤ (B - 1) / A := (Nat.le_div_iff_mul_le (by omega)).2 (by omega)
  have hge : A ≤ (B - 1) / A * A := Nat.le_mul_of_pos_left A h1
  generalize (B - 1) / A = k at hk h1 hge
  obtain ⟨r, hr⟩ := node_all (A + (B - k * A)) A (B - k * A) (Nat.le_refl _) hp1 (by omega) (by
    have e : B - k * A + k * A = B := by omega
    rw [← hg]
    conv => rhs; rw [← e]
    rw [Nat.mul_comm k A, Nat.gcd_add_mul_left_right])
  refine ⟨r, node_inj _ _ ?_, hr, by omega, by omega, by omega, h1⟩
  rw [h, node_rep_false, hr]
  simp only [Prod.mk.injEq, true_and]
  omega

/-- look's call at the head of a function of a fraction -/
theorem flook_st {a b u v : Int} {w : World} (h : fracF a b = (u, v)) (hS : FrSt w ((w.alloc (.cells #[.int .i64 a, .int .i64 b] 23)).alloc (.cells #[.int .i64 0, .int .i64 0] 25)) a b) :
    Calls Tryz.prog 11 #[.agg #[.int .i64 a, .int .i64 b]] ((w.alloc (.cells #[.int .i64 a, .int .i64 b] 23)).alloc (.cells #[.int .i64 0, .int .i64 0] 25)) fun e w' => e = .returned (.agg #[.int .i64 u, .int .i64 v]) ∧ FrSt w w' a b := by
  refine (flook_any a b _).mono ?_
  rintro e w' ⟨rfl, hb⟩
  exact ⟨by rw [h]; rfl, hS.below hb⟩

set_option maxRecDepth 100000 in
set_option maxHeartbeats 3200000 in
theorem path_any (a b : Int) (w : World) : Calls Tryz.prog 16 #[.agg #[.int .i64 a, .int .i64 b]] w (RetPath w a b) := by
  have S0 := FrSt.start w a b
  by_cases hF : (fracF a b).1 = 0
  · obtain ⟨hF0, hoa, hob, hb1, hg⟩ := fracF_ok hF
    have CL := hide (flook_st hF0 S0)
    have la := ok_lims hoa
    have lb := ok_lims hob
    by_cases ha1 : a < 1
    · have HR : Hid (pathF a b = (3, 0)) := by unfold Hid pathF; rw [if_neg (by rw [hF]; simp), if_pos ha1]
      have C := fun W => hide (ffault_any 3 0 W)
      have q1 : decide (a < 1) = true := by simpa using ha1
      clear S0 hF hF0 hoa hob hb1 hg la lb ha1
      go_enter Tryz.func16, Tryz.ntmps16
      go_wp2_with fail
      refine CL.out.mono ?_
      rintro e w1 ⟨rfl, hS⟩
      have S1 := hide (hS.below (bel_f w1 (.cells #[.int .i64 0, .int .i64 0] 25)))
      obtain ⟨c0, c1, hlt⟩ := S1.out.cells
      have hlt1 := hS.f.lt
      clear hS
      go_wp2_with fail
      refine (C _).out.mono ?_
      rintro e w2 ⟨rfl, hb⟩
      have S2 := hide (S1.out.below hb)
      obtain ⟨d0, d1, f0, f1⟩ := S2.out.f.cells
      obtain ⟨p0, p1, p2⟩ := S2.out.put 3 0
      have HP := hide p2
      clear hb p2
      go_wp2_with fail
      exact bodyPost_ret (v := .tuple #[.string ⟨#[]⟩, fv (3, 0)]) (by simp [results, Tryz.results16, go_sem, fv, p0, p1]) rfl ⟨[], by rw [HR.out], fun _ => rfl, fun h => by rw [HR.out] at h; simp at h, HP.out⟩
    · obtain ⟨A0, rfl⟩ : ∃ A : Nat, a = A := ⟨a.toNat, by omega⟩
      obtain ⟨B0, rfl⟩ : ∃ B : Nat, b = B := ⟨b.toNat, by omega⟩
      have hg2 : Nat.gcd A0 B0 = 1 := by simpa [Int.gcd] using hg
      obtain ⟨L, hL⟩ := node_all (A0 + B0) A0 B0 (Nat.le_refl _) (by omega) (by omega) hg2
      have hq := node_quot L
      rw [hL] at hq
      have HR : Hid (pathF (A0 : Int) B0 = if 20000 < L.length then (9, 0) else (0, 0)) := by
        have e : steps (A0 : Int) B0 = L.length := by
          unfold steps
          rw [show ((A0 : Int)).toNat = A0 from rfl, show ((B0 : Int)).toNat = B0 from rfl]
          have hq : quot A0 B0 = L.length + 1 := hq
          omega
        unfold Hid pathF
        rw [if_neg (by rw [hF]; simp), if_neg (by omega), e]
      have HLL := hide hL
      have q1 : decide ((A0 : Int) < 1) = false := by simpa using ha1
      have C := fun W => hide (ffault_any 9 0 W)
      have hA18 : A0 ≤ 1000000000000000000 := by omega
      have hB18 : B0 ≤ 1000000000000000000 := by omega
      clear hF hF0 hoa hob hb1 hg la lb ha1 hg2 hq hL
      have S00 := S0
      clear S0
      go_enter Tryz.func16, Tryz.ntmps16
      go_wp2_with fail
      refine CL.out.mono ?_
      rintro e w1 ⟨rfl, hS⟩
      have S1 := hS.below (bel_f w1 (.cells #[.int .i64 0, .int .i64 0] 25))
      obtain ⟨c0, c1, hlt⟩ := S1.cells
      have hlt1 := hS.f.lt
      obtain ⟨h0, h1, _⟩ := hS.cells
      have S2 := hide (S1.below (bel_f _ (.cells #[.pointer none, .slice none 0 0] 62)))
      obtain ⟨k0, k1, hlt3⟩ := S2.out.cells
      have HB2 := hide (builder_new (w1.alloc (.cells #[.int .i64 0, .int .i64 0] 25)) (w1.heap.size + 1) (World.size_alloc ..).symm)
      clear hS S1
      go_wp2_with fail
      go_quiet (fail)
      go_wp2_with fail
      obtain ⟨g, hg⟩ : ∃ g, w1.heap.size + 1 = g := ⟨_, rfl⟩
      rw [hg] at HB2 ⊢
      have hg2 : w.heap.size + 2 ≤ g := by omega
      have HLn : Hid (L.length = L.length) := rfl
      clear c0 c1 hlt hlt1 h0 h1 k0 k1 hlt3 CL S00 hg
      go_loopg [6, 7] (A0 + B0) (fun J x y wr => ∃ (A B : Nat) (done rest : List Bool), J = A + B ∧ x = .int .i64 A ∧ y = .int .i64 B ∧ A ≤ 1000000000000000000 ∧ B ≤ 1000000000000000000 ∧ Hid (L = done ++ rest ∧ node rest = (A, B) ∧ done.length ≤ 20000) ∧ Hid (Lib.IsBuilder 62 5 g g (Lib.byteCells (wb done)) wr) ∧ Hid (FrSt w wr A0 B0))
      case atStart => exact ⟨A0, B0, [], L, rfl, rfl, rfl, hA18, hB18, ⟨rfl, HLL.out, by simp⟩, HB2.out, S2.out.below (below_drewN (Below.refl _ _) _)⟩
      case round =>
        clear HB2 S2 hA18 hB18
        obtain ⟨A, B, done, rest, hJ, rfl, rfl, hA, hB, HN, HBU, HS⟩ := hrel
        have hlen := Lib.byteCells_length (wb done)
        rw [wb_len] at hlen
        have hD := HN.out.2.2
        have hsz := build_lt HBU.out
        have CLn := fun W (hW : Lib.IsBuilder 62 5 g g (Lib.byteCells (wb done)) W) => hide (show Calls Tryz.prog 32 #[.pointer (some ⟨g, 0, none⟩)] W fun e w' => e = .returned (.int .i64 done.length) ∧ w' = W from by
          have h := Tryz.Builder_Len g g _ W hW
          rw [hlen] at h
          exact h)
        have hpos := node_pos rest
        rw [HN.out.2.1] at hpos
        obtain ⟨hA1, hB1⟩ := hpos
        have hA1 : 1 ≤ A := hA1
        have hB1 : 1 ≤ B := hB1
        rcases Nat.lt_trichotomy A B with hlt | heq | hgt
        · as_aux_lemma =>
          obtain ⟨r, hr, hnr, r1, r2, r3, rk⟩ := rest_false HN.out.2.1 hlt
          obtain ⟨k, hk⟩ : ∃ k, (B - 1) / A = k := ⟨_, rfl⟩
          rw [hk] at hr hnr r1 r2 r3 rk
          have ek : ((B : Int) - 1) / (A : Int) = (k : Int) := by
            rw [← hk, Int.natCast_ediv]
            rw [show ((B - 1 : Nat) : Int) = (B : Int) - 1 from by omega]
          have ek2 : ((B : Int) - 1).tdiv (A : Int) = (k : Int) := by rw [Int.tdiv_eq_ediv_of_nonneg (by omega)]; exact ek
          have hkX : k ≤ B := by have := Nat.le_mul_of_pos_right k hA1; omega
          obtain ⟨P, hP⟩ : ∃ P, k * A = P := ⟨_, rfl⟩
          rw [hP] at hnr r1 r2 r3
          have hPi : (k : Int) * (A : Int) = (P : Int) := by rw [← Int.natCast_mul, hP]
          obtain ⟨X', hX'⟩ : ∃ X', B - P = X' := ⟨_, rfl⟩
          rw [hX'] at hnr r1 r2
          have V0 : IntKind.i64.wrap ((B : Int) - 1) = (B : Int) - 1 := by rw [IntKind.wrap_i64]; omega
          have V1 : IntKind.i64.wrap (k : Int) = (k : Int) := by rw [IntKind.wrap_i64]; omega
          have V2 : IntKind.i64.wrap ((k : Int) * (A : Int)) = (P : Int) := by rw [hPi, IntKind.wrap_i64]; omega
          have V3 : IntKind.i64.wrap ((B : Int) - (P : Int)) = (X' : Int) := by rw [IntKind.wrap_i64]; omega
          have V4 : IntKind.i64.wrap ((done.length : Int) + (k : Int)) = (done.length : Int) + (k : Int) := by rw [IntKind.wrap_i64]; omega
          have q0 : ((A : Int) != (B : Int)) = true := by simp; omega
          have q3 : decide ((B : Int) < (A : Int)) = false := by rw [decide_eq_false_iff_not]; omega
          have HNR : Hid (L = (done ++ List.replicate k false) ++ r ∧ node r = (A, X')) := ⟨by rw [HN.out.1, hr, List.append_assoc], hnr⟩
          have hLlen : L.length = done.length + k + r.length := by rw [HNR.out.1]; simp [Nat.add_assoc]
          clear hk hr hnr ek2 hP hPi hX'
          by_cases hbig : 20000 < done.length + k
          · have q4 : decide ((20000 : Int) < (done.length : Int) + (k : Int)) = true := by rw [decide_eq_true_eq]; omega
            have HE : Hid (20000 < L.length) := by unfold Hid; omega
            clear hLlen hbig
            go_wp2_with fail
            skip
            refine (CLn _ (by first | exact HBU.out | exact build_below HBU.out (below_drewN (Below.refl _ _) _))).out.mono ?_
            rintro e w2 ⟨rfl, rfl⟩
            go_wp2_with fail
            refine (C _).out.mono ?_
            rintro e w3 ⟨rfl, hb⟩
            have S3 := hide (HS.out.below hb)
            obtain ⟨d0, d1, f0, f1⟩ := S3.out.f.cells
            obtain ⟨p0, p1, p2⟩ := S3.out.put 9 0
            have HP := hide p2
            clear hb p2
            go_wp2_with fail
            exact bodyPost_ret (v := .tuple #[.string ⟨#[]⟩, fv (9, 0)]) (by simp [results, Tryz.results16, go_sem, fv, p0, p1]) rfl ⟨[], by rw [HR.out, if_pos HE.out], fun _ => rfl, fun h => by rw [HR.out, if_pos HE.out] at h; exact absurd h (by decide), HP.out⟩
          · have q4 : decide ((20000 : Int) < (done.length : Int) + (k : Int)) = false := by rw [decide_eq_false_iff_not]; omega
            have CR := fun W => hide (Tryz.strings_Repeat ⟨#[76]⟩ k W (by omega) (by show 1 * k ≤ 140737488355328; omega))
            have hsz2 := Lib.repeatL_length [76] k
            have HDL : Hid (done.length + k ≤ 20000) := by unfold Hid; omega
            clear hLlen hbig
            go_wp2_with fail
            skip
            refine (CLn _ (by first | exact HBU.out | exact build_below HBU.out (below_drewN (Below.refl _ _) _))).out.mono ?_
            rintro e w2 ⟨rfl, rfl⟩
            go_wp2_with fail
            refine (CR _).out.mono ?_
            rintro e w3 ⟨rfl, hb⟩
            have S3 := hide (HS.out.below hb)
            have HB3 := hide (build_below HBU.out hb)
            have hs3 := build_lt HB3.out
            have CW := hide (writeString_any g g _ ⟨(Lib.repeatL [76] k).toArray⟩ w3 HB3.out (by
              rw [hlen]
              show done.length + (Lib.repeatL [76] k).toArray.size ≤ _
              rw [List.size_toArray, hsz2]
              have := HDL.out
              simp only [List.length_cons, List.length_nil]
              omega) (Nat.le_of_lt hs3))
            clear hb HB3
            go_wp2_with fail
            refine CW.out.mono ?_
            rintro e w4 ⟨rfl, hbu, hb⟩
            have S4 := hide (S3.out.base hb hg2)
            have HB4 : Hid (Lib.IsBuilder 62 5 g g (Lib.byteCells (wb (done ++ List.replicate k false))) w4) := by
              unfold Hid
              rw [wb_app, Lib.byteCells_append, ← rep_false]
              exact .inr hbu
            clear hb hbu CW S3
            go_wp2_with fail
            go_roundg (A + X')
            case measure => omega
            case rel => exact ⟨A, X', done ++ List.replicate k false, r, rfl, rfl, rfl, by omega, by omega, ⟨HNR.out.1, HNR.out.2, by have := HDL.out; simpa using this⟩, HB4, S4⟩
        · as_aux_lemma =>
          subst heq
          have q2 : ((A : Int) != (A : Int)) = false := by simp
          have CS := hide (Tryz.Builder_String_any g g (wb done) wr HBU.out (Nat.le_of_lt hsz))
          have HE : Hid (L = done ∧ L.length ≤ 20000) := by
            have hr : rest = [] := node_inj _ _ (by
              rw [HN.out.2.1]
              have := node_gcd rest
              rw [HN.out.2.1] at this
              have h1 : Nat.gcd A A = 1 := this
              rw [Nat.gcd_self] at h1
              rw [h1]; rfl)
            have h2 := HN.out.1
            rw [hr, List.append_nil] at h2
            exact ⟨h2, by rw [h2]; exact hD⟩
          have HE2 := hide hD
          clear hA1 hB1 hD hlen
          go_wp2_with fail
          refine CS.out.mono ?_
          rintro e w2 ⟨rfl, hb⟩
          have S3 := hide (HS.out.base hb hg2)
          obtain ⟨d0, d1, f0, f1⟩ := S3.out.f.cells
          obtain ⟨p0, p1, p2⟩ := S3.out.put 0 0
          have HP := hide p2
          clear hb p2
          go_wp2_with fail
          exact bodyPost_ret (v := .tuple #[.string ⟨(wb done).toArray⟩, fv (0, 0)]) (by simp [results, Tryz.results16, go_sem, fv, p0, p1]) rfl ⟨wb done, by rw [HR.out, if_neg (by have := HE.out.2; omega)], fun h => by rw [HR.out, if_neg (by have := HE.out.2; omega)] at h; exact absurd rfl h, fun _ => ⟨done, rfl, by rw [← HE.out.1]; exact HLL.out, HE2.out⟩, HP.out⟩
        · as_aux_lemma =>
          obtain ⟨r, hr, hnr, r1, r2, r3, rk⟩ := rest_true HN.out.2.1 hgt
          obtain ⟨k, hk⟩ : ∃ k, (A - 1) / B = k := ⟨_, rfl⟩
          rw [hk] at hr hnr r1 r2 r3 rk
          have ek : ((A : Int) - 1) / (B : Int) = (k : Int) := by
            rw [← hk, Int.natCast_ediv]
            rw [show ((A - 1 : Nat) : Int) = (A : Int) - 1 from by omega]
          have ek2 : ((A : Int) - 1).tdiv (B : Int) = (k : Int) := by rw [Int.tdiv_eq_ediv_of_nonneg (by omega)]; exact ek
          have hkX : k ≤ A := by have := Nat.le_mul_of_pos_right k hB1; omega
          obtain ⟨P, hP⟩ : ∃ P, k * B = P := ⟨_, rfl⟩
          rw [hP] at hnr r1 r2 r3
          have hPi : (k : Int) * (B : Int) = (P : Int) := by rw [← Int.natCast_mul, hP]
          obtain ⟨X', hX'⟩ : ∃ X', A - P = X' := ⟨_, rfl⟩
          rw [hX'] at hnr r1 r2
          have V0 : IntKind.i64.wrap ((A : Int) - 1) = (A : Int) - 1 := by rw [IntKind.wrap_i64]; omega
          have V1 : IntKind.i64.wrap (k : Int) = (k : Int) := by rw [IntKind.wrap_i64]; omega
          have V2 : IntKind.i64.wrap ((k : Int) * (B : Int)) = (P : Int) := by rw [hPi, IntKind.wrap_i64]; omega
          have V3 : IntKind.i64.wrap ((A : Int) - (P : Int)) = (X' : Int) := by rw [IntKind.wrap_i64]; omega
          have V4 : IntKind.i64.wrap ((done.length : Int) + (k : Int)) = (done.length : Int) + (k : Int) := by rw [IntKind.wrap_i64]; omega
          have q0 : ((A : Int) != (B : Int)) = true := by simp; omega
          have q3 : decide ((B : Int) < (A : Int)) = true := by rw [decide_eq_true_eq]; omega
          have HNR : Hid (L = (done ++ List.replicate k true) ++ r ∧ node r = (X', B)) := ⟨by rw [HN.out.1, hr, List.append_assoc], hnr⟩
          have hLlen : L.length = done.length + k + r.length := by rw [HNR.out.1]; simp [Nat.add_assoc]
          clear hk hr hnr ek2 hP hPi hX'
          by_cases hbig : 20000 < done.length + k
          · have q4 : decide ((20000 : Int) < (done.length : Int) + (k : Int)) = true := by rw [decide_eq_true_eq]; omega
            have HE : Hid (20000 < L.length) := by unfold Hid; omega
            clear hLlen hbig
            go_wp2_with fail
            go_quiet (fail)
            go_wp2_with fail
            refine (CLn _ (by first | exact HBU.out | exact build_below HBU.out (below_drewN (Below.refl _ _) _))).out.mono ?_
            rintro e w2 ⟨rfl, rfl⟩
            go_wp2_with fail
            refine (C _).out.mono ?_
            rintro e w3 ⟨rfl, hb⟩
            have S3 := hide (HS.out.below ((below_drewN (Below.refl _ _) _).trans hb))
            obtain ⟨d0, d1, f0, f1⟩ := S3.out.f.cells
            obtain ⟨p0, p1, p2⟩ := S3.out.put 9 0
            have HP := hide p2
            clear hb p2
            go_wp2_with fail
            exact bodyPost_ret (v := .tuple #[.string ⟨#[]⟩, fv (9, 0)]) (by simp [results, Tryz.results16, go_sem, fv, p0, p1]) rfl ⟨[], by rw [HR.out, if_pos HE.out], fun _ => rfl, fun h => by rw [HR.out, if_pos HE.out] at h; exact absurd h (by decide), HP.out⟩
          · have q4 : decide ((20000 : Int) < (done.length : Int) + (k : Int)) = false := by rw [decide_eq_false_iff_not]; omega
            have CR := fun W => hide (Tryz.strings_Repeat ⟨#[82]⟩ k W (by omega) (by show 1 * k ≤ 140737488355328; omega))
            have hsz2 := Lib.repeatL_length [82] k
            have HDL : Hid (done.length + k ≤ 20000) := by unfold Hid; omega
            clear hLlen hbig
            go_wp2_with fail
            go_quiet (fail)
            go_wp2_with fail
            refine (CLn _ (by first | exact HBU.out | exact build_below HBU.out (below_drewN (Below.refl _ _) _))).out.mono ?_
            rintro e w2 ⟨rfl, rfl⟩
            go_wp2_with fail
            refine (CR _).out.mono ?_
            rintro e w3 ⟨rfl, hb⟩
            have S3 := hide (HS.out.below ((below_drewN (Below.refl _ _) _).trans hb))
            have HB3 := hide (build_below HBU.out ((below_drewN (Below.refl _ _) _).trans hb))
            have hs3 := build_lt HB3.out
            have CW := hide (writeString_any g g _ ⟨(Lib.repeatL [82] k).toArray⟩ w3 HB3.out (by
              rw [hlen]
              show done.length + (Lib.repeatL [82] k).toArray.size ≤ _
              rw [List.size_toArray, hsz2]
              have := HDL.out
              simp only [List.length_cons, List.length_nil]
              omega) (Nat.le_of_lt hs3))
            clear hb HB3
            go_wp2_with fail
            refine CW.out.mono ?_
            rintro e w4 ⟨rfl, hbu, hb⟩
            have S4 := hide (S3.out.base hb hg2)
            have HB4 : Hid (Lib.IsBuilder 62 5 g g (Lib.byteCells (wb (done ++ List.replicate k true))) w4) := by
              unfold Hid
              rw [wb_app, Lib.byteCells_append, ← rep_true]
              exact .inr hbu
            clear hb hbu CW S3
            go_wp2_with fail
            go_roundg (X' + B)
            case measure => omega
            case rel => exact ⟨X', B, done ++ List.replicate k true, r, rfl, rfl, rfl, by omega, by omega, ⟨HNR.out.1, HNR.out.2, by have := HDL.out; simpa using this⟩, HB4, S4⟩
  · obtain ⟨⟨u, v⟩, hf⟩ : ∃ f, fracF a b = f := ⟨_, rfl⟩
    have HR : Hid (pathF a b = (u, v)) := by unfold Hid pathF; rw [if_pos (by simpa using hF), hf]
    have HU : Hid (u ≠ 0) := by rw [hf] at hF; exact hF
    have qx : (u != 0) = true := by rw [hf] at hF; simpa using hF
    have CL := hide (flook_st hf S0)
    clear hf hF S0
    go_enter Tryz.func16, Tryz.ntmps16
    go_wp2_with fail
    refine CL.out.mono ?_
    rintro e w1 ⟨rfl, hS⟩
    have F1 := hide (FC.made w1 u v)
    obtain ⟨d0, d1, f0, f1⟩ := F1.out.cells
    have S1 := hide (hS.below (bel_f w1 (.cells #[.int .i64 u, .int .i64 v] 25)))
    obtain ⟨e0, e1, g0, g1⟩ := S1.out.f.cells
    clear hS
    go_wp2_with fail
    go_region
    obtain ⟨p0, p1, p2⟩ := S1.out.put u v
    have HP := hide (below_drewN p2 1)
    clear p2
    go_wp2_with fail
    exact bodyPost_ret (v := .tuple #[.string ⟨#[]⟩, fv (u, v)]) (by simp [results, Tryz.results16, go_sem, fv, p0, p1]) rfl ⟨[], by rw [HR.out], fun _ => rfl, fun h => by rw [HR.out] at h; exact absurd h HU.out, HP.out⟩
end Go.Proofs.YtojehmmkdkfkjaaGreatDoor
