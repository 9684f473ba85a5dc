/- Markov's search: the closure that calls itself. -/
import Derived.Test.YtlchmaiflcnaoaaKMarkM
import Derived.Deep.DeepCutAuto
import Derived.Deep.AppendLies
import Derived.Deep.LoopGhost
import Derived.Deep.QuietTactic
import Derived.BigQuiet
import Derived.Deep.RegionHeld3
import Derived.Laws.Cover3
namespace Go.Proofs.Ytlchmaiflcnaoaa
open Go.RowKit Go.Sort Go.Lib Go.Maps Go.WideMaps

theorem tinfo : (Try.prog.info? 83).map (fun i => (i.zero, i.size, i.bytes)) = some (some (.agg #[.int .i64 0, .int .i64 0, .int .i64 0]), 3, 24) := by kernel_rfl
def fvalM (mb hb ob fb : Nat) : Value := .func (.func 85) #[] #[.pointer (some ⟨mb, 0, none⟩), .pointer (some ⟨hb, 0, none⟩), .pointer (some ⟨ob, 0, none⟩), .pointer (some ⟨fb, 0, none⟩)]
/-- the search's memory -/
structure MSt (R most mb hb ob fb M : Nat) (W : World) (acc : List T3) (v : Value) : Prop where
  cm : W.heap[mb]? = some (.cells #[.int .i64 (most : Nat)] 3 (0, 0))
  ch : W.heap[hb]? = some (.cells #[.map (some M)] 114 (0, 0))
  co : W.heap[ob]? = some (.cells #[v] 86 (0, 0))
  cf : W.heap[fb]? = some (.cells #[fvalM mb hb ob fb] 115 (0, 0))
  had : Had W M acc.length acc
  row : W.ownsRow R 83 3 v acc.length (acc.flatMap encT)
structure MOrd (R mb hb ob fb M : Nat) : Prop where
  m : mb < R ∧ mb ≠ ob ∧ mb ≠ M
  h : hb < R ∧ hb ≠ ob ∧ hb ≠ M
  o : ob < R ∧ ob ≠ M
  f : fb < R ∧ fb ≠ ob ∧ fb ≠ M
  M : M < R
/-- all but the list's cell, the map and the list's row stays -/
structure Kp (W W' : World) (ob M : Nat) (v : Value) : Prop where
  os : W'.os = W.os
  tape : W'.tape = W.tape
  output : W'.output = W.output
  size : W.heap.size ≤ W'.heap.size
  block : ∀ g, g < W.heap.size → g ≠ ob → g ≠ M → v.ownBlock ≠ some g → W'.heap[g]? = W.heap[g]?
/-- the list's row is what it was, or new -/
def Nx (W : World) (v v' : Value) : Prop := ∀ g, v'.ownBlock = some g → v.ownBlock = some g ∨ W.heap.size ≤ g
theorem Kp.refl (W : World) (ob M : Nat) (v : Value) : Kp W W ob M v := ⟨rfl, rfl, rfl, Nat.le_refl _, fun _ _ _ _ _ => rfl⟩
theorem Nx.refl (W : World) (v : Value) : Nx W v v := fun _ h => .inl h
theorem Kp.trans {W W1 W2 : World} {ob M : Nat} {v v1 : Value} (h : Kp W W1 ob M v) (k : Kp W1 W2 ob M v1) (hn : Nx W v v1) : Kp W W2 ob M v :=
  ⟨k.os.trans h.os, k.tape.trans h.tape, k.output.trans h.output, Nat.le_trans h.size k.size, fun g hg h1 h2 h3 => (k.block g (Nat.lt_of_lt_of_le hg h.size) h1 h2 (fun e => by
    rcases hn g e with e1 | e1
    · exact h3 e1
    · omega)).trans (h.block g hg h1 h2 h3)⟩
theorem Nx.trans {W W1 : World} {v v1 v2 : Value} (h : Nx W v v1) (k : Nx W1 v1 v2) (hs : W.heap.size ≤ W1.heap.size) : Nx W v v2 := fun g e => by
  rcases k g e with e1 | e1
  · exact h g e1
  · exact .inr (Nat.le_trans hs e1)
theorem Kp.of_below {W W' : World} (h : Below W.heap.size W W') (ob M : Nat) (v : Value) : Kp W W' ob M v := ⟨h.os, h.tape, h.output, h.size, fun g hg _ _ _ => h.block g hg⟩
theorem own_blw {w w' : World} {base n size : Nat} {e : TypeId} {v : Value} {xs : List Value} (h : w.ownsRow base e size v n xs) (k : Below w.heap.size w w') : w'.ownsRow base e size v n xs := by
  obtain ⟨h1, h2⟩ := h
  refine ⟨h1, ?_⟩
  rcases h2 with h2 | ⟨g, cap, cur, e, hg, hh, hr⟩
  · exact .inl h2
  · exact .inr ⟨g, cap, cur, e, hg, (k.block g (heap_lt hh)).trans hh, hr⟩
theorem MSt.below {R most mb hb ob fb M : Nat} {W W' : World} {acc : List T3} {v : Value} (h : MSt R most mb hb ob fb M W acc v) (k : Below W.heap.size W W') : MSt R most mb hb ob fb M W' acc v :=
  ⟨(k.block _ (heap_lt h.cm)).trans h.cm, (k.block _ (heap_lt h.ch)).trans h.ch, (k.block _ (heap_lt h.co)).trans h.co, (k.block _ (heap_lt h.cf)).trans h.cf, h.had.kept (grown_of_below none k) (by simp), own_blw h.row k⟩
theorem cell_one {W : World} {g : Nat} {u : Value} {T : TypeId} {fr : Nat × Nat} (h : W.heap[g]? = some (.cells #[u] T fr)) : W.cell? ⟨g, 0, none⟩ = some u := by simp [World.cell?, h]
theorem free_one {W : World} {g : Nat} {u : Value} {T : TypeId} (h : W.heap[g]? = some (.cells #[u] T (0, 0))) : W.frozen? ⟨g, 0, none⟩ = false := by simp [World.frozen?, h]

theorem own_far {R n : Nat} {W : World} {v : Value} {xs : List Value} {T : TypeId} {s : Nat} (h : W.ownsRow R T s v n xs) {g : Nat} (hg : g < R) : v.ownBlock ≠ some g := fun e => by
  have := (h.lt g e).1; omega
/-- the pieces behind the map's store -/
theorem MSt.put {R most mb hb ob fb M : Nat} {W W' : World} {acc : List T3} {v : Value} (h : MSt R most mb hb ob fb M W acc v) (ho : MOrd R mb hb ob fb M) (k : W.grownBy W' (some M)) :
    W'.heap[mb]? = some (.cells #[.int .i64 (most : Nat)] 3 (0, 0)) ∧ W'.heap[hb]? = some (.cells #[.map (some M)] 114 (0, 0)) ∧ W'.heap[ob]? = some (.cells #[v] 86 (0, 0)) ∧ W'.heap[fb]? = some (.cells #[fvalM mb hb ob fb] 115 (0, 0)) ∧ W'.ownsRow R 83 3 v acc.length (acc.flatMap encT) := by
  have ne : ∀ g, g ≠ M → some g ≠ some M := fun g hg e => hg (by injection e)
  exact ⟨(k.block mb (heap_lt h.cm) (ne _ ho.m.2.2)).trans h.cm, (k.block hb (heap_lt h.ch) (ne _ ho.h.2.2)).trans h.ch, (k.block ob (heap_lt h.co) (ne _ ho.o.2)).trans h.co, (k.block fb (heap_lt h.cf) (ne _ ho.f.2.2)).trans h.cf, h.row.kept k (.inr (own_far h.row ho.M))⟩
/-- .. and behind the append and the store of the list -/
theorem MSt.app {R most mb hb ob fb M : Nat} {W W1 : World} {acc : List T3} {v : Value} {g cap : Nat} {t : T3} (ho : MOrd R mb hb ob fb M)
    (h : W.heap[mb]? = some (.cells #[.int .i64 (most : Nat)] 3 (0, 0)) ∧ W.heap[hb]? = some (.cells #[.map (some M)] 114 (0, 0)) ∧ W.heap[ob]? = some (.cells #[v] 86 (0, 0)) ∧ W.heap[fb]? = some (.cells #[fvalM mb hb ob fb] 115 (0, 0)) ∧ W.ownsRow R 83 3 v acc.length (acc.flatMap encT))
    (hh : Had W M (acc.length + 1) (acc ++ [t])) (k : W.grownBy W1 v.ownBlock) (hown : W1.ownsRow R 83 3 (.slice (some ⟨g, 0, none⟩) (acc.length + 1) cap) (acc.length + 1) (acc.flatMap encT ++ encT t)) :
    MSt R most mb hb ob fb M (W1.setCell ⟨ob, 0, none⟩ (.slice (some ⟨g, 0, none⟩) (acc.length + 1) cap)) (acc ++ [t]) (.slice (some ⟨g, 0, none⟩) (acc.length + 1) cap) := by
  obtain ⟨h1, h2, h3, h4, h5⟩ := h
  have far : ∀ q, q < R → some q ≠ v.ownBlock := fun q hq e => own_far h5 hq e.symm
  have b1 := (k.block mb (heap_lt h1) (far _ ho.m.1)).trans h1
  have b2 := (k.block hb (heap_lt h2) (far _ ho.h.1)).trans h2
  have b3 := (k.block ob (heap_lt h3) (far _ ho.o.1)).trans h3
  have b4 := (k.block fb (heap_lt h4) (far _ ho.f.1)).trans h4
  have hgR := (hown.lt g rfl).1
  have set : ∀ q, q ≠ ob → (W1.setCell ⟨ob, 0, none⟩ (.slice (some ⟨g, 0, none⟩) (acc.length + 1) cap)).heap[q]? = W1.heap[q]? := fun q hq => Below.heap_setCell _ ⟨ob, 0, none⟩ _ q hq
  have kk : W1.grownBy (W1.setCell ⟨ob, 0, none⟩ (.slice (some ⟨g, 0, none⟩) (acc.length + 1) cap)) (some ob) := ⟨rfl, rfl, rfl, by simp, fun q _ hq => set q (fun e => hq (by rw [e]))⟩
  refine ⟨(set _ ho.m.2.1).trans b1, (set _ ho.h.2.1).trans b2, ?_, (set _ ho.f.2.1).trans b4, ?_, ?_⟩
  · simp [World.setCell, Array.getElem?_modify, b3]
  · rw [List.length_append]
    exact (hh.kept k (far _ ho.M)).kept kk (fun e => ho.o.2 (by injection e with e; exact e.symm))
  · rw [List.length_append, List.flatMap_append]
    have := hown.kept kk (.inr (fun e => by
      simp [Value.ownBlock] at e
      have := ho.o.1
      omega))
    simpa using this
theorem Kp.of_grown {W W' : World} {row : Option Nat} {ob M : Nat} {v : Value} (h : W.grownBy W' row) (hr : row = some M ∨ row = some ob ∨ row = v.ownBlock) : Kp W W' ob M v :=
  ⟨h.os, h.tape, h.output, h.size, fun g hg h1 h2 h3 => h.block g hg (by
    intro e
    rcases hr with rfl | rfl | rfl
    · injection e with e; exact h2 e
    · injection e with e; exact h1 e
    · exact h3 e.symm)⟩
theorem grown_set (W : World) (g : Nat) (v : Value) : W.grownBy (W.setCell ⟨g, 0, none⟩ v) (some g) := ⟨rfl, rfl, rfl, by simp, fun q _ hq => Below.heap_setCell _ ⟨g, 0, none⟩ _ q (fun e => hq (by rw [e]))⟩
theorem Kp.and {W W1 W2 : World} {ob M : Nat} {v : Value} (h : Kp W W1 ob M v) (k : Kp W1 W2 ob M v) : Kp W W2 ob M v := h.trans k (Nx.refl _ _)
/-- behind k pairs -/
def accK (most f : Nat) (t : T3) (acc : List T3) : Nat → List T3
  | 0 => acc ++ [t]
  | 1 => (kid1 t).foldl (fun a k => dfs most f k a) (acc ++ [t])
  | _ => (kid2 t).foldl (fun a k => dfs most f k a) ((kid1 t).foldl (fun a k => dfs most f k a) (acc ++ [t]))
theorem mul_guard {P c : Nat} (hc : 1 ≤ c) (h : ¬ 1000000000000000000 / c / 3 < P) : 3 * P * c ≤ 1000000000000000000 := by
  have h1 : P ≤ 1000000000000000000 / c / 3 := by omega
  rw [Nat.le_div_iff_mul_le (by omega), Nat.le_div_iff_mul_le (by omega)] at h1
  rw [Nat.mul_comm 3 P]; exact h1
theorem accK_step {most f : Nat} {a b c : Nat} {acc : List T3} (hb : 1 ≤ a ∧ a ≤ b ∧ b ≤ c) (hkid : ∀ k ∈ kids (a, b, c), k ∈ TT ∧ most < k.2.2 * 2 ^ f) {W : World} {g : Nat} {T : TypeId} (h : W.heap[g]? = some (.cells #[.int .i64 (a : Nat), .int .i64 (c : Nat), .int .i64 (b : Nat), .int .i64 (c : Nat)] T (0, 0))) {k : Nat} (hk : k < 2) :
    ∃ P Q : Nat, W.cell? ⟨g, k * 2, none⟩ = some (.int .i64 (P : Nat)) ∧ W.cell? ⟨g, k * 2 + 1, none⟩ = some (.int .i64 (c : Nat)) ∧ a + b = P + Q ∧ 1 ≤ P ∧ P ≤ c ∧ Q ≤ c ∧
      (1000000000000000000 / c / 3 < P → accK most f (a, b, c) acc (k + 1) = accK most f (a, b, c) acc k) ∧
      (¬ 1000000000000000000 / c / 3 < P → accK most f (a, b, c) acc (k + 1) = dfs most f (P, c, 3 * P * c - Q) (accK most f (a, b, c) acc k) ∧ (P, c, 3 * P * c - Q) ∈ TT ∧ most < (3 * P * c - Q) * 2 ^ f) := by
  match k, hk with
  | 0, _ =>
    refine ⟨a, b, by simp [World.cell?, h], by simp [World.cell?, h], rfl, hb.1, by omega, hb.2.2, fun hg => ?_, fun hg => ?_⟩
    · show (kid1 (a, b, c)).foldl _ _ = _
      unfold kid1
      rw [if_pos hg]; rfl
    · have e : kid1 (a, b, c) = [(a, c, 3 * a * c - b)] := by unfold kid1; rw [if_neg hg]
      have := hkid (a, c, 3 * a * c - b) (by unfold kids; rw [e]; simp)
      refine ⟨?_, this.1, this.2⟩
      show (kid1 (a, b, c)).foldl _ _ = _
      rw [e]; rfl
  | 1, _ =>
    refine ⟨b, a, by simp [World.cell?, h], by simp [World.cell?, h], by omega, by omega, hb.2.2, by omega, fun hg => ?_, fun hg => ?_⟩
    · show (kid2 (a, b, c)).foldl _ _ = _
      unfold kid2
      rw [if_pos hg]; rfl
    · have e : kid2 (a, b, c) = [(b, c, 3 * b * c - a)] := by unfold kid2; rw [if_neg hg]
      have := hkid (b, c, 3 * b * c - a) (by unfold kids; rw [e]; simp)
      refine ⟨?_, this.1, this.2⟩
      show (kid2 (a, b, c)).foldl _ _ = _
      rw [e]; rfl
theorem Nx.mono {W W1 : World} {v v1 : Value} (h : Nx W1 v v1) (hs : W.heap.size ≤ W1.heap.size) : Nx W v v1 := fun g e => (h g e).imp id (Nat.le_trans hs)
theorem dfs_big {most f : Nat} {t : T3} {acc : List T3} (h : most < t.2.2) : dfs most f t acc = acc := by
  cases f with
  | zero => rfl
  | succ f => rw [dfs, if_pos (.inl h)]
theorem dfs_had {most f : Nat} {t : T3} {acc : List T3} (h : t ∈ acc) : dfs most f t acc = acc := by
  cases f with
  | zero => rfl
  | succ f => rw [dfs, if_pos (.inr h)]

set_option maxRecDepth 100000 in
set_option maxHeartbeats 1600000 in
/-- a triple that is too great -/
theorem from_big (R most mb hb ob fb M : Nat) (t : T3) (acc : List T3) (v : Value) (W : World) (hc2 : t.2.2 ≤ 1000000000000000000) (hS : MSt R most mb hb ob fb M W acc v) (hc : most < t.2.2) :
    Calls Try.prog 85 #[tv t, .pointer (some ⟨mb, 0, none⟩), .pointer (some ⟨hb, 0, none⟩), .pointer (some ⟨ob, 0, none⟩), .pointer (some ⟨fb, 0, none⟩)] W fun e w' => e = .returned (.tuple #[]) ∧ MSt R most mb hb ob fb M w' acc v ∧ Kp W w' ob M v := by
  obtain ⟨a, b, c⟩ := t
  have HS := hide hS
  have S1 := hide (HS.out.below (bel_e W (.cells #[.int .i64 (a : Nat), .int .i64 (b : Nat), .int .i64 (c : Nat)] 83)))
  have K1 := hide (Kp.of_below (bel_e W (.cells #[.int .i64 (a : Nat), .int .i64 (b : Nat), .int .i64 (c : Nat)] 83)) ob M v)
  have cm := cell_one HS.out.cm
  have hlm := heap_lt HS.out.cm
  unfold tv
  clear hS
  simp only at hc hc2
  go_enter Try.func85, Try.ntmps85
  go_wp2_with fail
  exact bodyPost_ret (v := .tuple #[]) (by simp [results, Try.results85, go_sem]) rfl ⟨rfl, S1.out, K1.out⟩

set_option maxRecDepth 100000 in
set_option maxHeartbeats 1600000 in
/-- a triple that was there -/
theorem from_had (R most mb hb ob fb M : Nat) (t : T3) (acc : List T3) (v : Value) (W : World) (hs : SmallT t) (hS : MSt R most mb hb ob fb M W acc v) (hc : t.2.2 ≤ most) (hm : t ∈ acc) :
    Calls Try.prog 85 #[tv t, .pointer (some ⟨mb, 0, none⟩), .pointer (some ⟨hb, 0, none⟩), .pointer (some ⟨ob, 0, none⟩), .pointer (some ⟨fb, 0, none⟩)] W fun e w' => e = .returned (.tuple #[]) ∧ MSt R most mb hb ob fb M w' acc v ∧ Kp W w' ob M v := by
  obtain ⟨a, b, c⟩ := t
  have HS := hide hS
  have S1 := hide (HS.out.below (bel_e W (.cells #[.int .i64 (a : Nat), .int .i64 (b : Nat), .int .i64 (c : Nat)] 83)))
  have K1 := hide (Kp.of_below (bel_e W (.cells #[.int .i64 (a : Nat), .int .i64 (b : Nat), .int .i64 (c : Nat)] 83)) ob M v)
  have cm := cell_one HS.out.cm
  have ch := cell_one HS.out.ch
  have hlm := heap_lt HS.out.cm
  have hlh := heap_lt HS.out.ch
  have hlk := S1.out.had.look hs
  have e : decide ((a, b, c) ∈ acc) = true := by simpa using hm
  rw [e] at hlk
  unfold tv at hlk ⊢
  simp only at hc hlk
  clear hS hm e hs
  go_enter Try.func85, Try.ntmps85
  go_wp2_with fail
  exact bodyPost_ret (v := .tuple #[]) (by simp [results, Try.results85, go_sem]) rfl ⟨rfl, S1.out, K1.out⟩

set_option maxRecDepth 100000 in
set_option maxHeartbeats 3200000 in
theorem from_any (R most mb hb ob fb M : Nat) (hord : MOrd R mb hb ob fb M) : ∀ (f : Nat) (t : T3) (acc : List T3) (v : Value) (W : World), t ∈ TT → Inv most acc → most < t.2.2 * 2 ^ f → MSt R most mb hb ob fb M W acc v → R ≤ W.heap.size →
    Calls Try.prog 85 #[tv t, .pointer (some ⟨mb, 0, none⟩), .pointer (some ⟨hb, 0, none⟩), .pointer (some ⟨ob, 0, none⟩), .pointer (some ⟨fb, 0, none⟩)] W fun e w' => e = .returned (.tuple #[]) ∧ ∃ v', MSt R most mb hb ob fb M w' (dfs most f t acc) v' ∧ Kp W w' ob M v ∧ Nx W v v' := by
  intro f
  induction f with
  | zero =>
    intro t acc v W ht hinv hf hS hR
    rw [Nat.pow_zero, Nat.mul_one] at hf
    refine (from_big R most mb hb ob fb M t acc v W (ok_of ht).d hS hf).mono ?_
    rintro e w' ⟨rfl, h1, h2⟩
    exact ⟨rfl, v, h1, h2, Nx.refl _ _⟩
  | succ f ih =>
    intro t acc v W ht hinv hf hS hR
    have hok := ok_of ht
    have hsm : SmallT t := ⟨Nat.le_trans hok.b (Nat.le_trans hok.c hok.d), Nat.le_trans hok.c hok.d, hok.d⟩
    by_cases hc : most < t.2.2
    · refine (from_big R most mb hb ob fb M t acc v W hok.d hS hc).mono ?_
      rintro e w' ⟨rfl, h1, h2⟩
      rw [dfs_big hc]
      exact ⟨rfl, v, h1, h2, Nx.refl _ _⟩
    by_cases hm : t ∈ acc
    · refine (from_had R most mb hb ob fb M t acc v W hsm hS (by omega) hm).mono ?_
      rintro e w' ⟨rfl, h1, h2⟩
      rw [dfs_had hm]
      exact ⟨rfl, v, h1, h2, Nx.refl _ _⟩
    have HD : Hid (dfs most (f + 1) t acc = (kid2 t).foldl (fun a k => dfs most f k a) ((kid1 t).foldl (fun a k => dfs most f k a) (acc ++ [t]))) := hide (by
      rw [dfs, if_neg (fun h => h.elim hc hm)]
      unfold kids
      rw [List.foldl_append])
    obtain ⟨a, b, c⟩ := t
    have HB := hide (show 1 ≤ a ∧ a ≤ b ∧ b ≤ c ∧ c ≤ 1000000000000000000 from ⟨hok.a, hok.b, hok.c, hok.d⟩)
    have HI := hide (hinv.push ht (by omega) hm)
    have HL := hide hinv.len
    have HT := hide ht
    have HS := hide hS
    have HO := hide hord
    have IH := hide ih
    have HKID : Hid (∀ k ∈ kids (a, b, c), k ∈ TT ∧ most < k.2.2 * 2 ^ f) := hide (fun k hk => by
      have h1 := hok.kid k hk
      refine ⟨h1.1, ?_⟩
      have h2 : 2 * c * 2 ^ f ≤ k.2.2 * 2 ^ f := Nat.mul_le_mul_right _ h1.2
      rw [Nat.pow_succ] at hf
      simp only at hf
      have h3 : 2 * c * 2 ^ f = c * (2 ^ f * 2) := by rw [Nat.mul_comm 2, Nat.mul_assoc, Nat.mul_comm 2]
      omega)
    have S1 := hide (HS.out.below (bel_e W (.cells #[.int .i64 (a : Nat), .int .i64 (b : Nat), .int .i64 (c : Nat)] 83)))
    have cm := cell_one HS.out.cm
    have ch := cell_one HS.out.ch
    have hlm := heap_lt HS.out.cm
    have hlh := heap_lt HS.out.ch
    have hlk := S1.out.had.look hsm
    have e : decide ((a, b, c) ∈ acc) = false := by simpa using hm
    rw [e] at hlk
    obtain ⟨W2, hput, hhad, hgr⟩ := S1.out.had.put (by have := HL.out; unfold maxLen; omega) hsm
    have HG := hide hgr
    have HH := hide hhad
    have hb5 : W.heap.size < W2.heap.size := Nat.lt_of_lt_of_le (by simp) HG.out.size
    obtain ⟨b1, b2, b3, b4⟩ := HB.out
    unfold tv at hlk hput ⊢
    simp only at hc hlk hput
    clear ht hinv hS hok ih hord hm e hf hsm hhad hgr b1 b2 b3
    go_enter Try.func85, Try.ntmps85
    go_upto_region 3 with (fail)
    have hbox : W2.heap[W.heap.size]? = some (.cells #[.int .i64 (a : Nat), .int .i64 (b : Nat), .int .i64 (c : Nat)] 83 (0, 0)) :=
      (HG.out.block _ (by simp) (by have := HO.out.M; intro e; injection e with e; omega)).trans (heap_alloc_new W _)
    have P2 := hide (S1.out.put HO.out HG.out)
    have co := cell_one P2.out.2.2.1
    have fo := free_one P2.out.2.2.1
    have x0 := cell_three hbox (j := 0) rfl
    have x1 := cell_three hbox (j := 1) rfl
    have x2 := cell_three hbox (j := 2) rfl
    have hol := heap_lt P2.out.2.2.1
    have HBX := hide hbox
    obtain ⟨i0, hi, hz0, hz1, hz2⟩ := info_parts tinfo
    have HIN := hide (And.intro hi (And.intro hz0 (And.intro hz1 hz2)))
    have HR3 := hide (own_blw P2.out.2.2.2.2 (bel_e W2 (.cells #[.int .i64 (a : Nat), .int .i64 (b : Nat), .int .i64 (c : Nat)] 83)))
    have hll : acc.length ≤ 328 := HL.out
    clear hbox cm ch hlk hput hlm hlh hi hz0 hz1 hz2
    go_wp2_with (at_builtin; refine wpList_append_lies _ rfl _ _ 86 rfl R 83 i0 (.agg #[.int .i64 0, .int .i64 0, .int .i64 0]) 3 24 Try.underlying86 HIN.out.1 HIN.out.2.1 HIN.out.2.2.1 HIN.out.2.2.2 rfl (by decide) v _ _ rfl HR3.out ⟨W2.heap.size, 0, none⟩ 1 1 [.int .i64 (a : Nat), .int .i64 (b : Nat), .int .i64 (c : Nat)] rfl rfl (World.news_of_block (heap_alloc_new W2 _)) ?c2 (by decide) ?c3 ?c4 ?c5 _ rfl ?_)
    case c2 => intro u hu; simp at hu; rcases hu with rfl | rfl | rfl <;> rfl
    case c3 => simp only [maxLen]; omega
    case c4 => omega
    case c5 => simp; omega
    intro g1 cap1 W4 hown4 hg4 hat4 hlt4
    have B23 := bel_e W2 (.cells #[.int .i64 (a : Nat), .int .i64 (b : Nat), .int .i64 (c : Nat)] 83)
    have P3 : (W2.alloc (.cells #[.int .i64 (a : Nat), .int .i64 (b : Nat), .int .i64 (c : Nat)] 83)).heap[mb]? = some (.cells #[.int .i64 (most : Nat)] 3 (0, 0)) ∧ (W2.alloc (.cells #[.int .i64 (a : Nat), .int .i64 (b : Nat), .int .i64 (c : Nat)] 83)).heap[hb]? = some (.cells #[.map (some M)] 114 (0, 0)) ∧ (W2.alloc (.cells #[.int .i64 (a : Nat), .int .i64 (b : Nat), .int .i64 (c : Nat)] 83)).heap[ob]? = some (.cells #[v] 86 (0, 0)) ∧ (W2.alloc (.cells #[.int .i64 (a : Nat), .int .i64 (b : Nat), .int .i64 (c : Nat)] 83)).heap[fb]? = some (.cells #[fvalM mb hb ob fb] 115 (0, 0)) ∧ (W2.alloc (.cells #[.int .i64 (a : Nat), .int .i64 (b : Nat), .int .i64 (c : Nat)] 83)).ownsRow R 83 3 v acc.length (acc.flatMap encT) :=
      ⟨(B23.block _ (heap_lt P2.out.1)).trans P2.out.1, (B23.block _ (heap_lt P2.out.2.1)).trans P2.out.2.1, (B23.block _ (heap_lt P2.out.2.2.1)).trans P2.out.2.2.1, (B23.block _ (heap_lt P2.out.2.2.2.1)).trans P2.out.2.2.2.1, HR3.out⟩
    have S5 := hide (MSt.app (t := (a, b, c)) HO.out P3 (HH.out.kept (grown_of_below none B23) (by simp)) hg4 hown4)
    have ne : some ob ≠ v.ownBlock := fun e => own_far P3.2.2.2.2 HO.out.o.1 e.symm
    have o4 := (hg4.block ob (heap_lt P3.2.2.1) ne).trans P3.2.2.1
    have co4 := cell_one o4
    have fo4 := free_one o4
    have hvl : ∀ g, v.ownBlock = some g → g < W.heap.size := fun g e => (HS.out.row.lt g e).2
    have hbx4 := (hg4.block W.heap.size (by simp; omega) (fun e => by have := hvl _ e.symm; omega)).trans ((B23.block _ hb5).trans HBX.out)
    have N5 : Hid (Nx W v (.slice (some ⟨g1, 0, none⟩) (acc.length + 1) cap1)) := hide (fun g e => by
      simp only [Value.ownBlock, Option.some.injEq] at e
      subst e
      rcases hat4 with h | h
      · exact .inl h
      · exact .inr (by rw [h]; first | omega | (simp; omega)))
    have hg1b : g1 ≠ W.heap.size := by
      rcases hat4 with h | h
      · have := hvl _ h; omega
      · rw [h]; first | omega | (simp; omega)
    have hne0 : W.heap.size ≠ ob := by have := HO.out.o.1; omega
    have K5 := hide ((((Kp.of_below (bel_e W (.cells #[.int .i64 (a : Nat), .int .i64 (b : Nat), .int .i64 (c : Nat)] 83)) ob M v).and (Kp.of_grown HG.out (.inl rfl))).and (Kp.of_below B23 ob M v)).and (Kp.of_grown hg4 (.inr (.inr rfl))))
    have K6 := hide (K5.out.and (Kp.of_grown (grown_set W4 ob (.slice (some ⟨g1, 0, none⟩) (acc.length + 1) cap1)) (.inr (.inl rfl))))
    have hbx5 := (Below.heap_setCell W4 ⟨ob, 0, none⟩ (.slice (some ⟨g1, 0, none⟩) (acc.length + 1) cap1) W.heap.size hne0).trans hbx4
    have HBX5 := hide hbx5
    have hlt5 : g1 < (W4.setCell ⟨ob, 0, none⟩ (.slice (some ⟨g1, 0, none⟩) (acc.length + 1) cap1)).heap.size := by simpa using hlt4
    have hb55 : W.heap.size < (W4.setCell ⟨ob, 0, none⟩ (.slice (some ⟨g1, 0, none⟩) (acc.length + 1) cap1)).heap.size := heap_lt hbx5
    clear hown4 hg4 hat4 hlt4 B23 P3 ne o4 hvl hbx4 hbx5 P2 HR3 HH HG HBX co fo x0 x1 x2 hol hb5 S1 HS K5
    go_upto_region 4 with (fail)
    obtain ⟨W5, hW5⟩ : ∃ Z, W4.setCell ⟨ob, 0, none⟩ (.slice (some ⟨g1, 0, none⟩) (acc.length + 1) cap1) = Z := ⟨_, rfl⟩
    rw [hW5] at S5 K6 HBX5 hlt5 hb55
    (try rw [hW5])
    obtain ⟨v1, hv1⟩ : ∃ u, Value.slice (some ⟨g1, 0, none⟩) (acc.length + 1) cap1 = u := ⟨_, rfl⟩
    have hv1b : ∀ q, q ≠ g1 → v1.ownBlock ≠ some q := fun q hq e => by
      rw [← hv1] at e
      simp only [Value.ownBlock, Option.some.injEq] at e
      exact hq e.symm
    rw [hv1] at S5 N5
    have x0 := cell_three HBX5.out (j := 0) rfl
    have x1 := cell_three HBX5.out (j := 1) rfl
    have x2 := cell_three HBX5.out (j := 2) rfl
    clear hW5 co4 fo4 hv1
    go_wp2_with fail
    have B56 := bel_e W5 (.cells #[.int .i64 (a : Nat), .int .i64 (c : Nat), .int .i64 (b : Nat), .int .i64 (c : Nat)] 34)
    have S6 := hide (S5.out.below B56)
    have HBX6 := hide ((B56.block _ hb55).trans HBX5.out)
    obtain ⟨b6, hb6⟩ : ∃ q, W5.heap.size = q := ⟨_, rfl⟩
    have HPR := hide (heap_alloc_new W5 (.cells #[.int .i64 (a : Nat), .int .i64 (c : Nat), .int .i64 (b : Nat), .int .i64 (c : Nat)] 34))
    have K7 := hide (K6.out.and (Kp.of_below B56 ob M v))
    have hs6 : (W5.alloc (.cells #[.int .i64 (a : Nat), .int .i64 (c : Nat), .int .i64 (b : Nat), .int .i64 (c : Nat)] 34)).heap.size = b6 + 1 := by rw [World.size_alloc, hb6]
    rw [hb6] at HPR hb55 hlt5
    obtain ⟨W6, hW6⟩ : ∃ Z, W5.alloc (.cells #[.int .i64 (a : Nat), .int .i64 (c : Nat), .int .i64 (b : Nat), .int .i64 (c : Nat)] 34) = Z := ⟨_, rfl⟩
    rw [hW6] at S6 HBX6 HPR K7 hs6
    (try rw [hW6])
    (try rw [hb6])
    have HIV : Hid (Inv most (accK most f (a, b, c) acc 0)) := HI
    have hbo : W.heap.size ≠ ob ∧ W.heap.size ≠ M ∧ b6 ≠ ob ∧ b6 ≠ M := by have h1 := HO.out.o.1; have h2 := HO.out.M; omega
    have hvb : v1.ownBlock ≠ some W.heap.size ∧ v1.ownBlock ≠ some b6 := ⟨hv1b _ (by omega), hv1b _ (by omega)⟩
    have HV := hide hvb
    clear hW6 hb6 B56 S5 HBX5 K6 x0 x1 x2 hv1b hvb
    go_loopw [37] (fun kv wr => ∃ k : Nat, ∃ vk : Value, k ≤ 2 ∧ kv = .int .i64 k ∧ Hid (MSt R most mb hb ob fb M wr (accK most f (a, b, c) acc k) vk) ∧ Hid (Inv most (accK most f (a, b, c) acc k)) ∧ Hid (Kp W6 wr ob M v1) ∧ Hid (Nx W6 v1 vk)) (fun kv _ => 2 - (intOf kv).toNat)
    case atStart => exact ⟨0, v1, by omega, rfl, S6, HIV, Kp.refl _ _ _ _, Nx.refl _ _⟩
    case round =>
      clear S6 HIV
      obtain ⟨k, vk, hk, rfl, SK, HIK, KK, NK⟩ := hrel
      obtain ⟨wo, rfl⟩ : ∃ Z, Z = wr := ⟨_, rfl⟩
      have hbxk := (KK.out.block W.heap.size (by omega) hbo.1 hbo.2.1 HV.out.1).trans HBX6.out
      have hprk := (KK.out.block b6 (by omega) hbo.2.2.1 hbo.2.2.2 HV.out.2).trans HPR.out
      by_cases hk2 : k < 2
      · obtain ⟨P, Q, cP, cc, hPQ, hP1, hP2, hQ2, hst1, hst2⟩ := accK_step (most := most) (f := f) (acc := acc) ⟨HB.out.1, HB.out.2.1, HB.out.2.2.1⟩ HKID.out hprk hk2
        have x0 := cell_three hbxk (j := 0) rfl
        have x1 := cell_three hbxk (j := 1) rfl
        have x2 := cell_three hbxk (j := 2) rfl
        have hlx := heap_lt hbxk
        have hlp := heap_lt hprk
        have H1 := hide hst1
        have H2 := hide hst2
        have hc1 : 1 ≤ c := by have := HB.out; omega
        clear hst1 hst2 hbxk hprk
        go_wp2_with fail
        have Bx := bel_e wo (.cells #[.int .i64 (P : Nat), .int .i64 (c : Nat)] 34)
        have SX := hide (SK.out.below Bx)
        have KX := hide (KK.out.trans (Kp.of_below Bx ob M vk) NK.out)
        have hp := heap_alloc_new wo (.cells #[.int .i64 (P : Nat), .int .i64 (c : Nat)] 34)
        have x0' := (Bx.cell (p := ⟨W.heap.size, 0, none⟩) hlx).trans x0
        have x1' := (Bx.cell (p := ⟨W.heap.size, 1, none⟩) hlx).trans x1
        have x2' := (Bx.cell (p := ⟨W.heap.size, 2, none⟩) hlx).trans x2
        have hsx : wo.heap.size < (wo.alloc (.cells #[.int .i64 (P : Nat), .int .i64 (c : Nat)] 34)).heap.size := by simp
        have hlx2 : W.heap.size < (wo.alloc (.cells #[.int .i64 (P : Nat), .int .i64 (c : Nat)] 34)).heap.size := Nat.lt_trans hlx hsx
        obtain ⟨b7, hb7⟩ : ∃ q, wo.heap.size = q := ⟨_, rfl⟩
        have NX := hide (NK.out)
        have hwo6 := KK.out.size
        obtain ⟨Wx, hWx⟩ : ∃ Z, wo.alloc (.cells #[.int .i64 (P : Nat), .int .i64 (c : Nat)] 34) = Z := ⟨_, rfl⟩
        rw [hWx] at SX KX hp x0' x1' x2' hsx hlx2
        (try rw [hWx])
        rw [hb7] at hp hsx hwo6
        (try rw [hb7])
        have y0 : Wx.cell? ⟨b7, 0, none⟩ = some (.int .i64 (P : Nat)) := by simp [World.cell?, hp]
        have y1 : Wx.cell? ⟨b7, 1, none⟩ = some (.int .i64 (c : Nat)) := by simp [World.cell?, hp]
        clear hWx hb7 Bx hp x0 x1 x2 cP cc KK SK NK hlp hlx
        obtain ⟨D, hD⟩ : ∃ D, 1000000000000000000 / c = D := ⟨_, rfl⟩
        have hd1 : (1000000000000000000 : Int) / (c : Int) = (D : Int) := by rw [← hD]; rfl
        have hd2 : (1000000000000000000 : Int).tdiv (c : Int) = (D : Int) := by rw [Int.tdiv_eq_ediv_of_nonneg (by omega), hd1]
        have hDl : D ≤ 1000000000000000000 := by rw [← hD]; exact Nat.div_le_self ..
        have HDD := hide hD
        obtain ⟨E, hE⟩ : ∃ E, D / 3 = E := ⟨_, rfl⟩
        have he1 : (D : Int) / 3 = (E : Int) := by rw [← hE]; rfl
        have HEE := hide hE
        have hcb := HB.out.2.2.2
        have hab1 := HB.out.2.1
        have hbc1 := HB.out.2.2.1
        clear hD hE
        by_cases hg : E < P
        · have HST := hide (H1.out (by rw [HDD.out, HEE.out]; exact hg))
          go_quiet (fail)
          go_wp2_with fail
          go_roundw
          case rel =>
            refine ⟨k + 1, vk, by omega, by go_num, ?_, ?_, ?_, NX⟩
            · rw [HST.out]; exact SX.out.below (below_drewN (Below.refl _ _) _)
            · rw [HST.out]; exact HIK
            · exact KX.out.trans (Kp.of_below (below_drewN (Below.refl _ _) _) ob M vk) NX.out
          case measure => simp [intOf]; omega
        · obtain ⟨hst, htt, hmf⟩ := H2.out (by rw [HDD.out, HEE.out]; exact hg)
          have hX1 := mul_guard (P := P) (c := c) (by omega) (by rw [HDD.out, HEE.out]; exact hg)
          have hX2 : 3 * c ≤ 3 * P * c := Nat.mul_le_mul_right c (by omega)
          obtain ⟨X, hX⟩ : ∃ X, 3 * P * c = X := ⟨_, rfl⟩
          have hXi : 3 * (P : Int) * (c : Int) = (X : Int) := by rw [← hX]; push_cast; rfl
          rw [hX] at hX1 hX2 hst htt hmf
          obtain ⟨N, hN⟩ : ∃ N, X - Q = N := ⟨_, rfl⟩
          rw [hN] at hst htt hmf
          have hNi : (X : Int) - (Q : Int) = (N : Int) := by omega
          have hcN : c ≤ N := by omega
          have hNl : N ≤ 1000000000000000000 := by omega
          have hQi : (a : Int) + b + c - P - c = Q := by omega
          have hwX : IntKind.i64.wrap (3 * (P : Int) * (c : Int)) = (X : Int) := by rw [hXi, IntKind.wrap_i64]; omega
          have HST := hide (And.intro hst (And.intro htt hmf))
          clear hst htt hmf hX hN
          go_quiet (fail)
          obtain ⟨Wy, hWy⟩ : ∃ Z, Z = Wx.drewN nq := ⟨_, rfl⟩
          have By : Below Wx.heap.size Wx Wy := hWy ▸ below_drewN (Below.refl _ _) _
          have SY := hide (SX.out.below By)
          have KY := hide (KX.out.trans (Kp.of_below By ob M vk) NX.out)
          have z0 := (By.cell (p := ⟨W.heap.size, 0, none⟩) hlx2).trans x0'
          have z1 := (By.cell (p := ⟨W.heap.size, 1, none⟩) hlx2).trans x1'
          have z2 := (By.cell (p := ⟨W.heap.size, 2, none⟩) hlx2).trans x2'
          have q0 := (By.cell (p := ⟨b7, 0, none⟩) hsx).trans y0
          have q1 := (By.cell (p := ⟨b7, 1, none⟩) hsx).trans y1
          have hsy : W6.heap.size ≤ Wy.heap.size := Nat.le_trans (Nat.le_trans hwo6 (Nat.le_of_lt hsx)) By.size
          have hby : b7 < Wy.heap.size := Nat.lt_of_lt_of_le hsx By.size
          have hxy : W.heap.size < Wy.heap.size := Nat.lt_of_lt_of_le hlx2 By.size
          have CS := hide (sort3_any (P : Int) (c : Int) (N : Int) Wy.heap.size (Wy.alloc (.cells #[.int .i64 (P : Nat), .int .i64 (c : Nat), .int .i64 (N : Nat)] 3)) (by omega) (by omega) (heap_alloc_new Wy _))
          (try rw [← hWy])
          clear hWy By SX KX x0' x1' x2' y0 y1 hsx hlx2 hwo6 HPR HBX6
          go_wp2_with fail
          refine CS.out.mono ?_
          rintro e w9 ⟨rfl, hg9, hc9⟩
          have B9 : Below Wy.heap.size Wy w9 := ((bel_e Wy (.cells #[.int .i64 (P : Nat), .int .i64 (c : Nat), .int .i64 (N : Nat)] 3))).grown hg9 (by simp) (fun q hq => by injection hq with hq; omega)
          have S9 := hide (SY.out.below B9)
          have K9 := hide (KY.out.trans (Kp.of_below B9 ob M vk) NX.out)
          have r0 := hc9 0 _ rfl
          have r1 := hc9 1 _ rfl
          have r2 := hc9 2 _ rfl
          have cf := cell_one S9.out.cf
          have hvk : vk.ownBlock ≠ some Wy.heap.size := fun e => by have := (SY.out.row.lt _ e).2; omega
          have hb9o : Wy.heap.size ≠ ob ∧ Wy.heap.size ≠ M := by have h1 := HO.out.o.1; have h2 := HO.out.M; omega
          have h9 : Wy.heap.size < w9.heap.size := Nat.lt_of_lt_of_le (by simp) hg9.size
          have hs9 : W6.heap.size ≤ w9.heap.size := by omega
          have hR9 : R ≤ w9.drew.heap.size := by show R ≤ w9.heap.size; omega
          have CI := hide (IH.out (P, c, N) (accK most f (a, b, c) acc k) vk w9.drew HST.out.2.1 HIK.out HST.out.2.2 (S9.out.below (below_drewN (Below.refl _ _) 1)) hR9)
          unfold tv at CI
          simp only at CI
          obtain ⟨b9, hb9⟩ : ∃ q, Wy.heap.size = q := ⟨_, rfl⟩
          rw [hb9] at r0 r1 r2 h9 hvk hb9o
          (try rw [hb9])
          unfold fvalM at cf
          clear hg9 hc9 B9 SY KY z0 z1 z2 q0 q1 hby hxy CS hb9
          go_upto_region 11 with (fail)
          have hAr := fun (w : World) => run_arrayAt (P := Try.prog) (w := w) 83 3 3 (some ⟨b9, 0, none⟩) 3 3 Try.underlying83 (Nat.le_refl _)
          have KC : ∀ (Z : World), Z.heap[fb]? = some (.cells #[fvalM mb hb ob fb] 115 (0, 0)) → Kp w9.drew Z ob M vk → Z.cell? ⟨fb, 0, none⟩ = some (.func (.func 85) #[] #[.pointer (some ⟨mb, 0, none⟩), .pointer (some ⟨hb, 0, none⟩), .pointer (some ⟨ob, 0, none⟩), .pointer (some ⟨fb, 0, none⟩)]) ∧ Z.cell? ⟨b9, 0, none⟩ = some (.int .i64 (P : Nat)) ∧ Z.cell? ⟨b9, 1, none⟩ = some (.int .i64 (c : Nat)) ∧ Z.cell? ⟨b9, 2, none⟩ = some (.int .i64 (N : Nat))   := fun Z h1 h2 => by
            have h3 : Z.heap[b9]? = w9.heap[b9]? := h2.block b9 h9 hb9o.1 hb9o.2 hvk
            have h4 : ∀ o, Z.cell? ⟨b9, o, none⟩ = w9.cell? ⟨b9, o, none⟩ := fun o => World.cell?_of_block (w := w9) (a := ⟨b9, o, none⟩) h3
            exact ⟨cell_one h1, (h4 0).trans r0, (h4 1).trans r1, (h4 2).trans r2⟩
          go_region_held3 (fun Z => Z.cell? ⟨fb, 0, none⟩ = some (.func (.func 85) #[] #[.pointer (some ⟨mb, 0, none⟩), .pointer (some ⟨hb, 0, none⟩), .pointer (some ⟨ob, 0, none⟩), .pointer (some ⟨fb, 0, none⟩)]) ∧ Z.cell? ⟨b9, 0, none⟩ = some (.int .i64 (P : Nat)) ∧ Z.cell? ⟨b9, 1, none⟩ = some (.int .i64 (c : Nat)) ∧ Z.cell? ⟨b9, 2, none⟩ = some (.int .i64 (N : Nat)))
            (first | exact ⟨cf, r0, r1, r2⟩ | exact C10.out)
            (first | (go_at_call 85; refine CI.out.mono ?_; rintro e w10 ⟨rfl, v10, h10, k10, n10⟩; have C10 := hide (KC w10 h10.cf k10); have S10 := hide h10; have K10 := hide k10; have N10 := hide n10; clear h10 k10 n10))
          go_wp2_with fail
          go_roundw
          case rel =>
            refine ⟨k + 1, v10, by omega, by go_num, ?_, ?_, ?_, ?_⟩
            · rw [HST.out.1]; exact S10.out
            · rw [HST.out.1]; exact (dfs_inv f HST.out.2.1 HIK.out).1
            · exact K9.out.trans ((Kp.of_below (below_drewN (Below.refl _ _) 1) ob M vk).and K10.out) NX.out
            · exact NX.out.trans N10.out hs9
          case measure => simp [intOf]; omega
      · obtain rfl : k = 2 := by omega
        have HF : Hid (accK most f (a, b, c) acc 2 = dfs most (f + 1) (a, b, c) acc) := hide HD.out.symm
        rw [HF.out] at SK
        have KF := hide (K7.out.trans KK.out N5.out)
        have NF := hide (N5.out.trans NK.out K7.out.size)
        clear HF hbxk hprk
        go_wp2_with fail
        exact bodyPost_end (results_none rfl _ _ _) rfl ⟨rfl, vk, SK.out, KF.out, NF.out⟩
end Go.Proofs.Ytlchmaiflcnaoaa
