/- The walks of the answers' Apart on the powers of rising primes, and of the law PrimeFactors. -/
import Derived.Test.YticgnjapgbjfiaaDoorFact
namespace Go.Proofs.YticgnjapgbjfiaaDoor
open Go.RowKit

theorem Below.int {w W : World} {g : Nat} {X : Int} (k : Below w.heap.size w W) (h : IntAt w g X) : IntAt W g X := h.below k
def ApS (wr W : World) (b i x1 x2 : Nat) : Prop := (W.cell? ⟨b, i * 2, none⟩ = some (.int .i64 x1) ∧ W.cell? ⟨b, i * 2 + 1, none⟩ = some (.int .i64 x2)) ∧ Hid (Below wr.heap.size wr W)
theorem ap_keep {wr W : World} {b i x1 x2 : Nat} (hb : b < wr.heap.size) (h1 : wr.cell? ⟨b, i * 2, none⟩ = some (.int .i64 x1)) (h2 : wr.cell? ⟨b, i * 2 + 1, none⟩ = some (.int .i64 x2)) (k : Below wr.heap.size wr W) :
    (W.cell? ⟨b, i * 2, none⟩ = some (.int .i64 x1) ∧ W.cell? ⟨b, i * 2 + 1, none⟩ = some (.int .i64 x2)) ∧ Hid (Below wr.heap.size wr W) :=
  ⟨⟨(k.cell (p := ⟨b, i * 2, none⟩) hb).trans h1, (k.cell (p := ⟨b, i * 2 + 1, none⟩) hb).trans h2⟩, k⟩
theorem ap_keep2 {wr W : World} {b i x1 x2 y1 : Nat} (hb : b < wr.heap.size) (h1 : wr.cell? ⟨b, (i + 1) * 2, none⟩ = some (.int .i64 x1)) (h2 : wr.cell? ⟨b, (i + 1) * 2 + 1, none⟩ = some (.int .i64 x2)) (h3 : wr.cell? ⟨b, i * 2, none⟩ = some (.int .i64 y1)) (k : Below wr.heap.size wr W) :
    (W.cell? ⟨b, (i + 1) * 2, none⟩ = some (.int .i64 x1) ∧ W.cell? ⟨b, (i + 1) * 2 + 1, none⟩ = some (.int .i64 x2)) ∧ W.cell? ⟨b, i * 2, none⟩ = some (.int .i64 y1) ∧ Hid (Below wr.heap.size wr W) :=
  ⟨⟨(k.cell (p := ⟨b, (i + 1) * 2, none⟩) hb).trans h1, (k.cell (p := ⟨b, (i + 1) * 2 + 1, none⟩) hb).trans h2⟩, (k.cell (p := ⟨b, i * 2, none⟩) hb).trans h3, k⟩

theorem ap_keep7 {wc W : World} {b g i x1 x2 : Nat} (hbg : b ≠ g) (h1 : wc.cell? ⟨b, i * 2, none⟩ = some (.int .i64 x1)) (h2 : wc.cell? ⟨b, i * 2 + 1, none⟩ = some (.int .i64 x2)) (k : wc.grownBy W (some g)) :
    (W.cell? ⟨b, i * 2, none⟩ = some (.int .i64 x1) ∧ W.cell? ⟨b, i * 2 + 1, none⟩ = some (.int .i64 x2)) ∧ Hid (wc.grownBy W (some g)) :=
  ⟨⟨k.cell h1 (fun e => hbg (by injection e)), k.cell h2 (fun e => hbg (by injection e))⟩, k⟩
theorem grown_step {wc W W' : World} {g : Nat} (k : wc.grownBy W (some g)) (h : W.grownBy W' (some g)) : wc.grownBy W' (some g) :=
  ⟨h.os.trans k.os, h.tape.trans k.tape, h.output.trans k.output, Nat.le_trans k.size h.size, fun i hi hne => (h.block i (Nat.lt_of_lt_of_le hi k.size) hne).trans (k.block i hi hne)⟩
theorem grown_new {wc W W' : World} {g z : Nat} (k : wc.grownBy W (some g)) (hz : wc.heap.size ≤ z) (h : W.grownBy W' (some z)) : wc.grownBy W' (some g) :=
  ⟨h.os.trans k.os, h.tape.trans k.tape, h.output.trans k.output, Nat.le_trans k.size h.size, fun i hi hne => (h.block i (Nat.lt_of_lt_of_le hi k.size) (fun e => by injection e with e; omega)).trans (k.block i hi hne)⟩
theorem held_out {wc W : World} {g : Nat} {a b : Prop} (h : (a ∧ b) ∧ Hid (wc.grownBy W (some g))) : wc.grownBy W (some g) := h.2.out
theorem bel_ad (w : World) (o : Obj) : Below w.heap.size w (w.alloc o).drew := (bel_new w o).drew
theorem zero_ad (w : World) : IntAt (w.alloc (.cells #[.bool false, .slice none 0 0] 69)).drew w.heap.size 0 := (zero_at w).below ((Below.refl _ _).drew)
set_option maxHeartbeats 400000 in
theorem exp_step {W : World} {g z g1 g2 x1 x2 : Nat} {X : Int} (i0 : IntAt W g X) (hz : IntBlk W z) (hgz : g ≠ z) (i1 : IntAt W g1 (x1 : Int)) (i2 : IntAt W g2 (x2 : Int)) (b1 : x2 < lim) (b2 : ∀ j, j ≤ x2 → (((x1 : Nat) : Int) ^ j).natAbs < lim) (b3 : ((x1 : Nat) : Int).natAbs < lim) :
    Calls Tryd.prog 53 #[.pointer (some ⟨z, 0, none⟩), .pointer (some ⟨g1, 0, none⟩), .pointer (some ⟨g2, 0, none⟩), .pointer none] W fun e w' => e = .returned (.pointer (some ⟨z, 0, none⟩)) ∧ IntAt w' z (((x1 : Nat) : Int) ^ x2) ∧ IntAt w' g X ∧ W.grownBy w' (some z) :=
  (exp_nil z g1 g2 x1 x2 W hz i1 i2 b1 b2 b3).mono fun _ _ ⟨h1, h2, h3⟩ => ⟨h1, h2, i0.grown h3 hz hgz, h3⟩
theorem pprod_take {l : List (Nat × Nat)} {i : Nat} {x : Nat × Nat} (h : l[i]? = some x) : pprod (l.take (i + 1)) = pprod (l.take i) * x.1 ^ x.2 := by
  rw [List.take_add_one, h]
  show pprod (l.take i ++ [x]) = _
  obtain ⟨p, t⟩ := x
  rw [pprod_app]; simp [pprod]

set_option maxRecDepth 100000 in
set_option maxHeartbeats 12800000 in
theorem apart_ref (n : Nat) (v : Value) (l : List (Nat × Nat)) (w : World) (h1 : 1 ≤ n) (hn : n ≤ 1000000000000000000) (hlen : l.length ≤ 60) (hP : PRead w v l) (hg : ∀ x ∈ l, isB x.1 = true ∧ 2 ≤ x.1 ∧ x.1 ≤ 1000000000000000000 ∧ 1 ≤ x.2 ∧ x.2 ≤ 60 ∧ x.1 ^ x.2 ≤ 1000000000000000000) (hs : ∀ i a b, l[i]? = some a → l[i + 1]? = some b → a.1 < b.1) (hp : pprod l = n) (ht : ∀ i, pprod (l.take i) ≤ 1000000000000000000) :
    Calls Tryd.prog 27 #[.int .i64 n, v] w fun e w' => e = .returned (.bool true) ∧ Below w.heap.size w w' := by
  have HP := hide hP
  have HG := hide hg
  have HS := hide hs
  have HPP := hide hp
  have HTK := hide ht
  have HN : Hid (1 ≤ n ∧ n ≤ 1000000000000000000) := ⟨h1, hn⟩
  have O0 := hide (Own.start w)
  obtain ⟨A, c, rfl⟩ := hP.form
  clear hP hg hs hp ht h1 hn
  go_enter Tryd.func27, Tryd.ntmps27
  go_wp2_with fail
  refine (b_own O0.out 1 (by omega) (by omega)).mono ?_
  rintro e w1 ⟨g0, rfl, O⟩
  have O1 := hide O
  clear O
  go_wp2_with fail
  go_loopg [5, 6] l.length (fun J y i wr => ∃ (k g : Nat), J = l.length - k ∧ y = .pointer (some ⟨g, 0, none⟩) ∧ i = .int .i64 k ∧ k ≤ l.length ∧ Hid (Own w wr [(g, ((pprod (l.take k) : Nat) : Int))]))
  case atStart => exact ⟨0, g0, by omega, rfl, rfl, by omega, O1⟩
  case round =>
    obtain ⟨k, g, hJ, rfl, rfl, hk, HO⟩ := hrel
    clear O0 O1
    by_cases hkl : k < l.length
    · obtain ⟨b, c3, x, e1, hb1, hx, c1, c2⟩ := (HP.out.below HO.out.bel).at_ hkl
      injection e1 with e1 _ e3
      subst e1 e3
      have hgx := HG.out x (List.mem_of_getElem? hx)
      obtain ⟨x1, x2⟩ := x
      simp only at c1 c2 hgx
      have HT := hide (pprod_take hx)
      have HX := hide hgx
      have HHX := hide hx
      have CN := fun W => hide (number_any (x1 : Int) W)
      rw [show okB (x1 : Int) = true from by unfold okB; simp; omega] at CN
      have CI := fun W => hide (isPrime_told x1 W hgx.2.1 hgx.2.2.1 hgx.1)
      have q1 : decide ((x2 : Int) < 1) = false := by rw [decide_eq_false_iff_not]; omega
      have q2 : decide ((60 : Int) < (x2 : Int)) = false := by rw [decide_eq_false_iff_not]; omega
      clear hgx hx
      have HB1 := hide hb1
      have C12 := hide (And.intro c1 c2)
      go_upto_region 5 with (fail)
      go_cut [63] (fun bb wd => bb = .bool false ∧ Hid (Below wr.heap.size wr wd))
      case first => as_aux_lemma =>
        cases k with
        | zero =>
          have q3 : decide ((0 : Int) < ((0 : Nat) : Int)) = false := by decide
          have K1 := fun W (k : Below wr.heap.size wr W) => hide (ap_keep hb1 c1 c2 k)
          clear c1 c2
          obtain ⟨⟨k1, k2⟩, _⟩ := (K1 wr (Below.refl _ _)).out
          simp only [Nat.zero_mul, Nat.zero_add] at k1 k2
          refine wp_region_P (fun _ => True) 49 (by rfl) trivial ?_
          intro _
          refine wpAnyP_take 0 14 [0, 2, 3, 4, 5, 7, 13, 16, 24, 32, 49] (v := ?_) rfl (by kernel_rfl) (by kernel_rfl) (by kernel_rfl) (by kernel_rfl) (by kernel_rfl) (by kernel_rfl) (by rfl) (fun _ _ _ h => h) (Or.inl ⟨by rfl, ?_⟩) trivial ?_; rotate_left
          · (intro w hSw; clear hSw; go_simp; (try with_reducible rfl))
          (try simp only [List.setIfInBounds_toArray, List.set_cons_zero, List.set_cons_succ])
          refine wpAnyP_take 1 15 [1, 2, 3, 4, 5, 7, 13, 16, 24, 32, 49] (v := ?_) rfl (by kernel_rfl) (by kernel_rfl) (by kernel_rfl) (by kernel_rfl) (by kernel_rfl) (by kernel_rfl) (by rfl) (fun _ _ _ h => h) (Or.inl ⟨by rfl, ?_⟩) trivial ?_; rotate_left
          · (intro w hSw; clear hSw; go_simp; (try with_reducible rfl))
          (try simp only [List.setIfInBounds_toArray, List.set_cons_zero, List.set_cons_succ])
          refine wpAnyP_take 2 16 [2, 3, 4, 5, 7, 13, 16, 24, 32, 49] (v := ?_) rfl (by kernel_rfl) (by kernel_rfl) (by kernel_rfl) (by kernel_rfl) (by kernel_rfl) (by kernel_rfl) (by rfl) (fun _ _ _ h => h) (Or.inl ⟨by rfl, ?_⟩) trivial ?_; rotate_left
          · (intro w hSw; clear hSw; go_simp; (try with_reducible rfl))
          (try simp only [List.setIfInBounds_toArray, List.set_cons_zero, List.set_cons_succ])
          refine wpAnyP_take 3 17 [3, 4, 5, 7, 13, 16, 24, 32, 49] (v := ?_) rfl (by kernel_rfl) (by kernel_rfl) (by kernel_rfl) (by kernel_rfl) (by kernel_rfl) (by kernel_rfl) (by rfl) (fun _ _ _ h => h) (Or.inl ⟨by rfl, ?_⟩) trivial ?_; rotate_left
          · (intro w hSw; clear hSw; go_simp; (try with_reducible rfl))
          (try simp only [List.setIfInBounds_toArray, List.set_cons_zero, List.set_cons_succ])
          refine wpAnyP_one 4 rfl (by kernel_rfl) (fun K hK => ?_)
          go_simp
          refine hK.out _ _ (fun _ => trivial) ?_
          clear hK K
          (try simp only [Act.put, List.setIfInBounds_toArray, List.set_cons_zero, List.set_cons_succ])
          refine wpAnyP_one 5 rfl (by kernel_rfl) (fun K hK => ?_)
          go_simp
          refine (CN _).out.mono ?_
          rintro e w5 ⟨rfl, rfl⟩
          refine hK.out _ _ (fun _ => trivial) ?_
          clear hK K
          (try simp only [Act.put, List.setIfInBounds_toArray, List.set_cons_zero, List.set_cons_succ])
          refine wpAnyP_take 6 20 [6, 7, 13, 16, 24, 32, 49] (v := ?_) rfl (by kernel_rfl) (by kernel_rfl) (by kernel_rfl) (by kernel_rfl) (by kernel_rfl) (by kernel_rfl) (by rfl) (fun _ _ _ h => h) (Or.inl ⟨by rfl, ?_⟩) trivial ?_; rotate_left
          · (intro w hSw; clear hSw; go_simp; (try with_reducible rfl))
          (try simp only [List.setIfInBounds_toArray, List.set_cons_zero, List.set_cons_succ])
          refine wpAnyP_take 7 21 [7, 13, 16, 24, 32, 49] (v := ?_) rfl (by kernel_rfl) (by kernel_rfl) (by kernel_rfl) (by kernel_rfl) (by kernel_rfl) (by kernel_rfl) (by rfl) (fun _ _ _ h => h) (Or.inl ⟨by rfl, ?_⟩) trivial ?_; rotate_left
          · (intro w hSw; clear hSw; go_simp; (try with_reducible rfl))
          (try simp only [List.setIfInBounds_toArray, List.set_cons_zero, List.set_cons_succ])
          refine wpAnyP_take 8 22 [8, 10, 11, 12, 13, 16, 24, 32, 49] (v := ?_) rfl (by kernel_rfl) (by kernel_rfl) (by kernel_rfl) (by kernel_rfl) (by kernel_rfl) (by kernel_rfl) (by rfl) (fun _ _ _ h => h) (Or.inl ⟨by rfl, ?_⟩) trivial ?_; rotate_left
          · (intro w hSw; clear hSw; go_simp; (try with_reducible rfl))
          (try simp only [List.setIfInBounds_toArray, List.set_cons_zero, List.set_cons_succ])
          refine wpAnyP_take 9 23 [9, 10, 11, 12, 13, 16, 24, 32, 49] (v := ?_) rfl (by kernel_rfl) (by kernel_rfl) (by kernel_rfl) (by kernel_rfl) (by kernel_rfl) (by kernel_rfl) (by rfl) (fun _ _ _ h => h) (Or.inl ⟨by rfl, ?_⟩) trivial ?_; rotate_left
          · (intro w hSw; clear hSw; go_simp; (try with_reducible rfl))
          (try simp only [List.setIfInBounds_toArray, List.set_cons_zero, List.set_cons_succ])
          refine wpAnyP_take 10 24 [10, 11, 12, 13, 16, 24, 32, 49] (v := ?_) rfl (by kernel_rfl) (by kernel_rfl) (by kernel_rfl) (by kernel_rfl) (by kernel_rfl) (by kernel_rfl) (by rfl) (fun _ _ _ h => h) (Or.inl ⟨by rfl, ?_⟩) trivial ?_; rotate_left
          · (intro w hSw; clear hSw; go_simp; (try with_reducible rfl))
          (try simp only [List.setIfInBounds_toArray, List.set_cons_zero, List.set_cons_succ])
          refine wpAnyP_take 11 25 [11, 12, 13, 16, 24, 32, 49] (v := ?_) rfl (by kernel_rfl) (by kernel_rfl) (by kernel_rfl) (by kernel_rfl) (by kernel_rfl) (by kernel_rfl) (by rfl) (fun _ _ _ h => h) (Or.inl ⟨by rfl, ?_⟩) trivial ?_; rotate_left
          · (intro w hSw; clear hSw; go_simp; (try with_reducible rfl))
          (try simp only [List.setIfInBounds_toArray, List.set_cons_zero, List.set_cons_succ])
          refine wpAnyP_one 12 rfl (by kernel_rfl) (fun K hK => ?_)
          go_simp
          refine hK.out _ _ (fun _ => trivial) ?_
          clear hK K
          (try simp only [Act.put, List.setIfInBounds_toArray, List.set_cons_zero, List.set_cons_succ])
          refine wpAnyP_one 13 rfl (by kernel_rfl) (fun K hK => ?_)
          go_simp
          refine (CI _).out.mono ?_
          rintro e w6 ⟨rfl, hb⟩
          have hy := (below_drewN (Below.refl wr.heap.size wr) 1).trans (hb.mono (by simp))
          obtain ⟨⟨k1, k2⟩, _⟩ := (K1 _ hy).out
          simp only [Nat.zero_mul, Nat.zero_add] at k1 k2
          refine hK.out _ _ (fun _ => trivial) ?_
          clear hK K
          (try simp only [Act.put, List.setIfInBounds_toArray, List.set_cons_zero, List.set_cons_succ])
          refine wpAnyP_take 14 28 [14, 15, 16, 24, 32, 49] (v := ?_) rfl (by kernel_rfl) (by kernel_rfl) (by kernel_rfl) (by kernel_rfl) (by kernel_rfl) (by kernel_rfl) (by rfl) (fun _ _ _ h => h) (Or.inl ⟨by rfl, ?_⟩) trivial ?_; rotate_left
          · (intro w hSw; clear hSw; go_simp; (try with_reducible rfl))
          (try simp only [List.setIfInBounds_toArray, List.set_cons_zero, List.set_cons_succ])
          refine wpAnyP_take 15 29 [15, 16, 24, 32, 49] (v := ?_) rfl (by kernel_rfl) (by kernel_rfl) (by kernel_rfl) (by kernel_rfl) (by kernel_rfl) (by kernel_rfl) (by rfl) (fun _ _ _ h => h) (Or.inl ⟨by rfl, ?_⟩) trivial ?_; rotate_left
          · (intro w hSw; clear hSw; go_simp; (try with_reducible rfl))
          (try simp only [List.setIfInBounds_toArray, List.set_cons_zero, List.set_cons_succ])
          refine wpAnyP_take 16 30 [16, 24, 32, 49] (v := ?_) rfl (by kernel_rfl) (by kernel_rfl) (by kernel_rfl) (by kernel_rfl) (by kernel_rfl) (by kernel_rfl) (by rfl) (fun _ _ _ h => h) (Or.inl ⟨by rfl, ?_⟩) trivial ?_; rotate_left
          · (intro w hSw; clear hSw; go_simp; (try with_reducible rfl))
          (try simp only [List.setIfInBounds_toArray, List.set_cons_zero, List.set_cons_succ])
          refine wpAnyP_take 17 31 [17, 19, 20, 21, 22, 23, 24, 32, 49] (v := ?_) rfl (by kernel_rfl) (by kernel_rfl) (by kernel_rfl) (by kernel_rfl) (by kernel_rfl) (by kernel_rfl) (by rfl) (fun _ _ _ h => h) (Or.inl ⟨by rfl, ?_⟩) trivial ?_; rotate_left
          · (intro w hSw; clear hSw; go_simp; (try with_reducible rfl))
          (try simp only [List.setIfInBounds_toArray, List.set_cons_zero, List.set_cons_succ])
          refine wpAnyP_take 18 32 [18, 19, 20, 21, 22, 23, 24, 32, 49] (v := ?_) rfl (by kernel_rfl) (by kernel_rfl) (by kernel_rfl) (by kernel_rfl) (by kernel_rfl) (by kernel_rfl) (by rfl) (fun _ _ _ h => h) (Or.inl ⟨by rfl, ?_⟩) trivial ?_; rotate_left
          · (intro w hSw; clear hSw; go_simp; (try with_reducible rfl))
          (try simp only [List.setIfInBounds_toArray, List.set_cons_zero, List.set_cons_succ])
          refine wpAnyP_take 19 33 [19, 20, 21, 22, 23, 24, 32, 49] (v := ?_) rfl (by kernel_rfl) (by kernel_rfl) (by kernel_rfl) (by kernel_rfl) (by kernel_rfl) (by kernel_rfl) (by rfl) (fun _ _ _ h => h) (Or.inl ⟨by rfl, ?_⟩) trivial ?_; rotate_left
          · (intro w hSw; clear hSw; go_simp; (try with_reducible rfl))
          (try simp only [List.setIfInBounds_toArray, List.set_cons_zero, List.set_cons_succ])
          refine wpAnyP_take 20 34 [20, 21, 22, 23, 24, 32, 49] (v := ?_) rfl (by kernel_rfl) (by kernel_rfl) (by kernel_rfl) (by kernel_rfl) (by kernel_rfl) (by kernel_rfl) (by rfl) (fun _ _ _ h => h) (Or.inl ⟨by rfl, ?_⟩) trivial ?_; rotate_left
          · (intro w hSw; clear hSw; go_simp; (try with_reducible rfl))
          (try simp only [List.setIfInBounds_toArray, List.set_cons_zero, List.set_cons_succ])
          refine wpAnyP_one 21 rfl (by kernel_rfl) (fun K hK => ?_)
          go_simp
          refine hK.out _ _ (fun _ => trivial) ?_
          clear hK K
          (try simp only [Act.put, List.setIfInBounds_toArray, List.set_cons_zero, List.set_cons_succ])
          refine wpAnyP_take 22 36 [22, 23, 24, 32, 49] (v := ?_) rfl (by kernel_rfl) (by kernel_rfl) (by kernel_rfl) (by kernel_rfl) (by kernel_rfl) (by kernel_rfl) (by rfl) (fun _ _ _ h => h) (Or.inl ⟨by rfl, ?_⟩) trivial ?_; rotate_left
          · (intro w hSw; clear hSw; go_simp; (try with_reducible rfl))
          (try simp only [List.setIfInBounds_toArray, List.set_cons_zero, List.set_cons_succ])
          refine wpAnyP_take 23 37 [23, 24, 32, 49] (v := ?_) rfl (by kernel_rfl) (by kernel_rfl) (by kernel_rfl) (by kernel_rfl) (by kernel_rfl) (by kernel_rfl) (by rfl) (fun _ _ _ h => h) (Or.inl ⟨by rfl, ?_⟩) trivial ?_; rotate_left
          · (intro w hSw; clear hSw; go_simp; (try with_reducible rfl))
          (try simp only [List.setIfInBounds_toArray, List.set_cons_zero, List.set_cons_succ])
          refine wpAnyP_take 24 38 [24, 32, 49] (v := ?_) rfl (by kernel_rfl) (by kernel_rfl) (by kernel_rfl) (by kernel_rfl) (by kernel_rfl) (by kernel_rfl) (by rfl) (fun _ _ _ h => h) (Or.inl ⟨by rfl, ?_⟩) trivial ?_; rotate_left
          · (intro w hSw; clear hSw; go_simp; (try with_reducible rfl))
          (try simp only [List.setIfInBounds_toArray, List.set_cons_zero, List.set_cons_succ])
          refine wpAnyP_take 25 39 [25, 27, 28, 29, 30, 31, 32, 49] (v := ?_) rfl (by kernel_rfl) (by kernel_rfl) (by kernel_rfl) (by kernel_rfl) (by kernel_rfl) (by kernel_rfl) (by rfl) (fun _ _ _ h => h) (Or.inl ⟨by rfl, ?_⟩) trivial ?_; rotate_left
          · (intro w hSw; clear hSw; go_simp; (try with_reducible rfl))
          (try simp only [List.setIfInBounds_toArray, List.set_cons_zero, List.set_cons_succ])
          refine wpAnyP_take 26 40 [26, 27, 28, 29, 30, 31, 32, 49] (v := ?_) rfl (by kernel_rfl) (by kernel_rfl) (by kernel_rfl) (by kernel_rfl) (by kernel_rfl) (by kernel_rfl) (by rfl) (fun _ _ _ h => h) (Or.inl ⟨by rfl, ?_⟩) trivial ?_; rotate_left
          · (intro w hSw; clear hSw; go_simp; (try with_reducible rfl))
          (try simp only [List.setIfInBounds_toArray, List.set_cons_zero, List.set_cons_succ])
          refine wpAnyP_take 27 41 [27, 28, 29, 30, 31, 32, 49] (v := ?_) rfl (by kernel_rfl) (by kernel_rfl) (by kernel_rfl) (by kernel_rfl) (by kernel_rfl) (by kernel_rfl) (by rfl) (fun _ _ _ h => h) (Or.inl ⟨by rfl, ?_⟩) trivial ?_; rotate_left
          · (intro w hSw; clear hSw; go_simp; (try with_reducible rfl))
          (try simp only [List.setIfInBounds_toArray, List.set_cons_zero, List.set_cons_succ])
          refine wpAnyP_take 28 42 [28, 29, 30, 31, 32, 49] (v := ?_) rfl (by kernel_rfl) (by kernel_rfl) (by kernel_rfl) (by kernel_rfl) (by kernel_rfl) (by kernel_rfl) (by rfl) (fun _ _ _ h => h) (Or.inl ⟨by rfl, ?_⟩) trivial ?_; rotate_left
          · (intro w hSw; clear hSw; go_simp; (try with_reducible rfl))
          (try simp only [List.setIfInBounds_toArray, List.set_cons_zero, List.set_cons_succ])
          refine wpAnyP_one 29 rfl (by kernel_rfl) (fun K hK => ?_)
          go_simp
          refine hK.out _ _ (fun _ => trivial) ?_
          clear hK K
          (try simp only [Act.put, List.setIfInBounds_toArray, List.set_cons_zero, List.set_cons_succ])
          refine wpAnyP_take 30 44 [30, 31, 32, 49] (v := ?_) rfl (by kernel_rfl) (by kernel_rfl) (by kernel_rfl) (by kernel_rfl) (by kernel_rfl) (by kernel_rfl) (by rfl) (fun _ _ _ h => h) (Or.inl ⟨by rfl, ?_⟩) trivial ?_; rotate_left
          · (intro w hSw; clear hSw; go_simp; (try with_reducible rfl))
          (try simp only [List.setIfInBounds_toArray, List.set_cons_zero, List.set_cons_succ])
          refine wpAnyP_take 31 45 [31, 32, 49] (v := ?_) rfl (by kernel_rfl) (by kernel_rfl) (by kernel_rfl) (by kernel_rfl) (by kernel_rfl) (by kernel_rfl) (by rfl) (fun _ _ _ h => h) (Or.inl ⟨by rfl, ?_⟩) trivial ?_; rotate_left
          · (intro w hSw; clear hSw; go_simp; (try with_reducible rfl))
          (try simp only [List.setIfInBounds_toArray, List.set_cons_zero, List.set_cons_succ])
          refine wpAnyP_take 32 46 [32, 49] (v := ?_) rfl (by kernel_rfl) (by kernel_rfl) (by kernel_rfl) (by kernel_rfl) (by kernel_rfl) (by kernel_rfl) (by rfl) (fun _ _ _ h => h) (Or.inl ⟨by rfl, ?_⟩) trivial ?_; rotate_left
          · (intro w hSw; clear hSw; go_simp; (try with_reducible rfl))
          (try simp only [List.setIfInBounds_toArray, List.set_cons_zero, List.set_cons_succ])
          refine wpAnyP_take 33 47 [33, 34, 35, 48, 49] (v := ?_) rfl (by kernel_rfl) (by kernel_rfl) (by kernel_rfl) (by kernel_rfl) (by kernel_rfl) (by kernel_rfl) (by rfl) (fun _ _ _ h => h) (Or.inl ⟨by rfl, ?_⟩) trivial ?_; rotate_left
          · (intro w hSw; clear hSw; go_simp; (try with_reducible rfl))
          (try simp only [List.setIfInBounds_toArray, List.set_cons_zero, List.set_cons_succ])
          refine wpAnyP_take 34 48 [34, 35, 48, 49] (v := ?_) rfl (by kernel_rfl) (by kernel_rfl) (by kernel_rfl) (by kernel_rfl) (by kernel_rfl) (by kernel_rfl) (by rfl) (fun _ _ _ h => h) (Or.inl ⟨by rfl, ?_⟩) trivial ?_; rotate_left
          · (intro w hSw; clear hSw; go_simp; (try with_reducible rfl))
          (try simp only [List.setIfInBounds_toArray, List.set_cons_zero, List.set_cons_succ])
          refine wpAnyP_take 35 49 [35, 48, 49] (v := ?_) rfl (by kernel_rfl) (by kernel_rfl) (by kernel_rfl) (by kernel_rfl) (by kernel_rfl) (by kernel_rfl) (by rfl) (fun _ _ _ h => h) (Or.inl ⟨by rfl, ?_⟩) trivial ?_; rotate_left
          · (intro w hSw; clear hSw; go_simp; (try with_reducible rfl))
          (try simp only [List.setIfInBounds_toArray, List.set_cons_zero, List.set_cons_succ])
          refine wpAnyP_take 36 50 [36, 39, 40, 41, 47, 48, 49] (v := undef) rfl (by kernel_rfl) (by kernel_rfl) (by kernel_rfl) (by kernel_rfl) (by kernel_rfl) (by kernel_rfl) (by rfl) (fun _ _ _ h => h) (Or.inr ⟨by rfl, rfl⟩) trivial ?_
          (try simp only [List.setIfInBounds_toArray, List.set_cons_zero, List.set_cons_succ])
          refine wpAnyP_take 37 51 [37, 38, 39, 40, 41, 47, 48, 49] (v := undef) rfl (by kernel_rfl) (by kernel_rfl) (by kernel_rfl) (by kernel_rfl) (by kernel_rfl) (by kernel_rfl) (by rfl) (fun _ _ _ h => h) (Or.inr ⟨by rfl, rfl⟩) trivial ?_
          (try simp only [List.setIfInBounds_toArray, List.set_cons_zero, List.set_cons_succ])
          refine wpAnyP_take 38 52 [38, 39, 40, 41, 47, 48, 49] (v := undef) rfl (by kernel_rfl) (by kernel_rfl) (by kernel_rfl) (by kernel_rfl) (by kernel_rfl) (by kernel_rfl) (by rfl) (fun _ _ _ h => h) (Or.inr ⟨by rfl, rfl⟩) trivial ?_
          (try simp only [List.setIfInBounds_toArray, List.set_cons_zero, List.set_cons_succ])
          refine wpAnyP_take 39 53 [39, 40, 41, 47, 48, 49] (v := undef) rfl (by kernel_rfl) (by kernel_rfl) (by kernel_rfl) (by kernel_rfl) (by kernel_rfl) (by kernel_rfl) (by rfl) (fun _ _ _ h => h) (Or.inr ⟨by rfl, rfl⟩) trivial ?_
          (try simp only [List.setIfInBounds_toArray, List.set_cons_zero, List.set_cons_succ])
          refine wpAnyP_take 40 54 [40, 41, 47, 48, 49] (v := undef) rfl (by kernel_rfl) (by kernel_rfl) (by kernel_rfl) (by kernel_rfl) (by kernel_rfl) (by kernel_rfl) (by rfl) (fun _ _ _ h => h) (Or.inr ⟨by rfl, rfl⟩) trivial ?_
          (try simp only [List.setIfInBounds_toArray, List.set_cons_zero, List.set_cons_succ])
          refine wpAnyP_take 41 55 [41, 47, 48, 49] (v := undef) rfl (by kernel_rfl) (by kernel_rfl) (by kernel_rfl) (by kernel_rfl) (by kernel_rfl) (by kernel_rfl) (by rfl) (fun _ _ _ h => h) (Or.inr ⟨by rfl, rfl⟩) trivial ?_
          (try simp only [List.setIfInBounds_toArray, List.set_cons_zero, List.set_cons_succ])
          refine wpAnyP_take 42 56 [42, 44, 45, 46, 47, 48, 49] (v := undef) rfl (by kernel_rfl) (by kernel_rfl) (by kernel_rfl) (by kernel_rfl) (by kernel_rfl) (by kernel_rfl) (by rfl) (fun _ _ _ h => h) (Or.inr ⟨by rfl, rfl⟩) trivial ?_
          (try simp only [List.setIfInBounds_toArray, List.set_cons_zero, List.set_cons_succ])
          refine wpAnyP_take 43 57 [43, 44, 45, 46, 47, 48, 49] (v := undef) rfl (by kernel_rfl) (by kernel_rfl) (by kernel_rfl) (by kernel_rfl) (by kernel_rfl) (by kernel_rfl) (by rfl) (fun _ _ _ h => h) (Or.inr ⟨by rfl, rfl⟩) trivial ?_
          (try simp only [List.setIfInBounds_toArray, List.set_cons_zero, List.set_cons_succ])
          refine wpAnyP_take 44 58 [44, 45, 46, 47, 48, 49] (v := undef) rfl (by kernel_rfl) (by kernel_rfl) (by kernel_rfl) (by kernel_rfl) (by kernel_rfl) (by kernel_rfl) (by rfl) (fun _ _ _ h => h) (Or.inr ⟨by rfl, rfl⟩) trivial ?_
          (try simp only [List.setIfInBounds_toArray, List.set_cons_zero, List.set_cons_succ])
          refine wpAnyP_take 45 59 [45, 46, 47, 48, 49] (v := undef) rfl (by kernel_rfl) (by kernel_rfl) (by kernel_rfl) (by kernel_rfl) (by kernel_rfl) (by kernel_rfl) (by rfl) (fun _ _ _ h => h) (Or.inr ⟨by rfl, rfl⟩) trivial ?_
          (try simp only [List.setIfInBounds_toArray, List.set_cons_zero, List.set_cons_succ])
          refine wpAnyP_take 46 60 [46, 47, 48, 49] (v := undef) rfl (by kernel_rfl) (by kernel_rfl) (by kernel_rfl) (by kernel_rfl) (by kernel_rfl) (by kernel_rfl) (by rfl) (fun _ _ _ h => h) (Or.inr ⟨by rfl, rfl⟩) trivial ?_
          (try simp only [List.setIfInBounds_toArray, List.set_cons_zero, List.set_cons_succ])
          refine wpAnyP_take 47 61 [47, 48, 49] (v := undef) rfl (by kernel_rfl) (by kernel_rfl) (by kernel_rfl) (by kernel_rfl) (by kernel_rfl) (by kernel_rfl) (by rfl) (fun _ _ _ h => h) (Or.inr ⟨by rfl, rfl⟩) trivial ?_
          (try simp only [List.setIfInBounds_toArray, List.set_cons_zero, List.set_cons_succ])
          refine wpAnyP_take 48 62 [48, 49] (v := ?_) rfl (by kernel_rfl) (by kernel_rfl) (by kernel_rfl) (by kernel_rfl) (by kernel_rfl) (by kernel_rfl) (by rfl) (fun _ _ _ h => h) (Or.inl ⟨by rfl, ?_⟩) trivial ?_; rotate_left
          · (intro w hSw; clear hSw; go_simp; (try with_reducible rfl))
          (try simp only [List.setIfInBounds_toArray, List.set_cons_zero, List.set_cons_succ])
          refine wpAnyP_one 49 rfl (by kernel_rfl) (fun K hK => ?_)
          go_simp
          refine hK.out _ _ (fun _ => trivial) ?_
          clear hK K
          (try simp only [Act.put, List.setIfInBounds_toArray, List.set_cons_zero, List.set_cons_succ])
          refine wpAnyP_done (by kernel_rfl) ?_ _
          go_wp2_with fail
          go_meet
          exact ⟨rfl, hy⟩
        | succ m =>
          have hy2 := HS.out m
          obtain ⟨⟨y1, y2⟩, hym⟩ : ∃ y, l[m]? = some y := ⟨l[m], List.getElem?_eq_getElem (by omega)⟩
          obtain ⟨b2, c4, y, e1, _, hy0, d1, _⟩ := (HP.out.below HO.out.bel).at_ (show m < l.length by omega)
          injection e1 with e1 _ e3
          injection e1 with e1
          injection e1 with e1 _ _
          subst e1
          rw [hym] at hy0
          injection hy0 with hy0
          subst hy0
          have hlt := hy2 _ _ hym HHX.out
          simp only at d1 hlt
          have q3 : decide ((0 : Int) < (((m + 1 : Nat)) : Int)) = true := by rw [decide_eq_true_eq]; omega
          have q4 : decide ((x1 : Int) ≤ (y1 : Int)) = false := by rw [decide_eq_false_iff_not]; omega
          have q5 : decide (x1 ≤ y1) = false := by rw [decide_eq_false_iff_not]; omega
          have K1 := fun W (k : Below wr.heap.size wr W) => hide (ap_keep2 hb1 c1 c2 d1 k)
          have I1 : (0 : Int) ≤ (m : Int) := by omega
          have I2 : (m : Int) < (l.length : Int) := by omega
          have I3 : (m : Int) + 1 < (l.length : Int) := by omega
          have I4 : (0 : Int) ≤ (m : Int) + 1 := by omega
          have I5 : IntKind.i64.wrap ((m : Int) + 1 - 1) = (m : Int) := by rw [IntKind.wrap_i64]; omega
          have I6 : IntKind.i64.wrap (m : Int) = (m : Int) := by rw [IntKind.wrap_i64]; omega
          have I7 : (m : Int) + 1 - 1 = (m : Int) := by omega
          have I8 : (m : Int) ≤ (l.length : Int) := by omega
          have I9 : (m : Int) + 1 ≤ (l.length : Int) := by omega
          clear c1 c2 d1 hy2 hym hlt e3
          go_region_held3 (fun W => (W.cell? ⟨b, (m + 1) * 2, none⟩ = some (.int .i64 x1) ∧ W.cell? ⟨b, (m + 1) * 2 + 1, none⟩ = some (.int .i64 x2)) ∧ W.cell? ⟨b, m * 2, none⟩ = some (.int .i64 y1) ∧ Hid (Below wr.heap.size wr W)) (first | exact (K1 _ (below_drewN (Below.refl _ _) 1)).out | (have hx := ‹(_ ∧ _) ∧ _ ∧ Hid (Below _ _ _)›; have hy := hx.2.2.out.trans (hb.mono hx.2.2.out.size); clear hx hb; exact (K1 _ hy).out)) (first | (go_at_call 21; refine (CN _).out.mono ?_; rintro e w5 ⟨rfl, rfl⟩) | (go_at_call 52; refine (CI _).out.mono ?_; rintro e w5 ⟨rfl, hb⟩))
          all_goals
            rename_i hS
            have hy := hS.2.2
            clear hS
            go_wp2_with fail
            go_meet
            first
              | exact ⟨rfl, hy⟩
              | exact ⟨congrArg Value.bool q5, hy⟩
      case rest => as_aux_lemma =>
        obtain ⟨rfl, HW⟩ := hcut
        clear c1 c2
        have hgl : g < wr.heap.size := HO.out.blk (i := 0) rfl |>.lt
        have hJ2 := hJ
        have O1 := hide (HO.out.below HW.out)
        have hb2 : b < wc.heap.size := Nat.lt_of_lt_of_le hb1 HW.out.size
        have d1 := (HW.out.cell (p := ⟨b, k * 2, none⟩) hb1).trans C12.out.1
        have d2 := (HW.out.cell (p := ⟨b, k * 2 + 1, none⟩) hb1).trans C12.out.2
        have hgl2 : g < wc.heap.size := Nat.lt_of_lt_of_le hgl HW.out.size
        have hgb : b ≠ g := by
          intro h
          have h1 := HO.out.lo 0 _ _ rfl
          have h2 := HP.out
          rcases h2 with ⟨h3, _⟩ | ⟨b3, c5, h3, h4, _⟩
          · cases h3
          · injection h3 with h3
            injection h3 with h3
            injection h3 with h3 _ _
            omega
        have K7 := fun W (k : wc.grownBy W (some g)) => hide (ap_keep7 (b := b) hgb d1 d2 k)
        have i0 : IntAt wc g ((pprod (l.take k) : Nat) : Int) := O1.out.at_ 0 _ _ rfl
        have I1 : (0 : Int) ≤ (k : Int) := by omega
        have I2 : (k : Int) < (l.length : Int) := by omega
        have I8 : (k : Int) ≤ (l.length : Int) := by omega
        have hx := HX.out
        have HB7 : Hid (-9223372036854775808 ≤ (x1 : Int) ∧ (x1 : Int) ≤ 9223372036854775807 ∧ -9223372036854775808 ≤ (x2 : Int) ∧ (x2 : Int) ≤ 9223372036854775807 ∧ x2 < lim ∧ ((x1 : Nat) : Int).natAbs < lim) := ⟨by omega, by omega, by omega, by omega, by have := small256 (z := (x2 : Int)) (by omega); omega, by have := small256 (z := (x1 : Int)) (by omega); omega⟩
        have HK7 : Hid (∀ j, j ≤ x2 → (((x1 : Nat) : Int) ^ j).natAbs < lim) := fun j hj => by
          have h1 : x1 ^ j ≤ x1 ^ x2 := Nat.pow_le_pow_right (by omega) hj
          have h2 : (((x1 : Nat) : Int) ^ j).natAbs = x1 ^ j := by rw [Int.natAbs_pow]; rfl
          have h3 := small256 (z := ((x1 : Nat) : Int) ^ j) (by rw [h2]; omega)
          omega
        have HM7 : Hid (((pprod (l.take k) : Nat) : Int).natAbs < lim ∧ (((pprod (l.take k) : Nat) : Int) * ((x1 : Nat) : Int) ^ x2).natAbs < lim ∧ ((pprod (l.take k) : Nat) : Int) * ((x1 : Nat) : Int) ^ x2 = ((pprod (l.take (k + 1)) : Nat) : Int)) := by
          have h1 := HTK.out k
          have h2 := HTK.out (k + 1)
          have h3 : ((pprod (l.take k) : Nat) : Int) * ((x1 : Nat) : Int) ^ x2 = ((pprod (l.take (k + 1)) : Nat) : Int) := by rw [HT.out, Int.natCast_mul, Int.natCast_pow]
          rw [h3]
          refine ⟨?_, ?_, rfl⟩
          · have := small256 (z := ((pprod (l.take k) : Nat) : Int)) (by omega); omega
          · have := small256 (z := ((pprod (l.take (k + 1)) : Nat) : Int)) (by omega); omega
        obtain ⟨X, hX⟩ : ∃ X : Int, ((pprod (l.take k) : Nat) : Int) = X := ⟨_, rfl⟩
        rw [hX] at i0 HM7 O1
        clear hx d1 d2 HO hX HT HX CN CI q1 q2 C12 HB1
        go_wp2_with fail
        go_region_held3 (fun W => (W.cell? ⟨b, k * 2, none⟩ = some (.int .i64 x1) ∧ W.cell? ⟨b, k * 2 + 1, none⟩ = some (.int .i64 x2)) ∧ Hid (wc.grownBy W (some g))) (first | exact (K7 _ (grown_of_below _ (below_drewN (Below.refl _ _) 1))).out | exact (K7 _ (grown_of_below _ (bel_ad _ _))).out | exact (K7 _ (grown_step (held_out (by assumption)) (grown_of_below _ hb))).out | exact (K7 _ (grown_step (held_out (by assumption)) (grown_of_below _ (bel_new _ _)))).out | exact (K7 _ (grown_new (held_out (by assumption)) (by first | exact Nat.le_refl _ | exact s5 | exact s6) hgr)).out | exact (K7 _ (grown_step (held_out (by assumption)) hgr)).out) (first | (go_at_call 41; (with_reducible refine (b_any (x1 : Int) _ HB7.out.1 HB7.out.2.1).mono ?_); rintro e w5 ⟨g5, rfl, hg5, i1, hb⟩; have hbA := hb; have s5 : wc.heap.size ≤ w5.heap.size := Nat.le_trans (by first | exact Nat.le_refl _ | exact (bel_ad _ _).size) hb.size; have i0 : IntAt w5 g X := IntAt.below (by first | exact i0.below (below_drewN (Below.refl _ _) 1) | exact i0.below (bel_ad _ _)) hb) | (go_at_call 41; (with_reducible refine (b_any (x2 : Int) _ HB7.out.2.2.1 HB7.out.2.2.2.1).mono ?_); rintro e w6 ⟨g6, rfl, hg6, i2, hb⟩; have hbB := hb; have s6 : wc.heap.size ≤ w6.heap.size := Nat.le_trans (by first | exact s5 | exact Nat.le_trans s5 (bel_new _ _).size) hb.size; have i0 : IntAt w6 g X := IntAt.below (by first | exact i0 | exact i0.below (bel_new _ _)) hb; have i1 : IntAt w6 g5 (x1 : Int) := IntAt.below (by first | exact i1 | exact i1.below (bel_new _ _)) hb) | (go_at_call 53; refine (exp_step (by first | exact i0 | exact i0.below (bel_new _ _)) (by first | exact (zero_at _).blk | exact ((zero_at _).below hbB).blk | exact (((zero_ad _).below hbA).below hbB).blk) (by omega) (by first | exact i1 | exact i1.below (bel_new _ _)) (by first | exact i2 | exact i2.below (bel_new _ _)) HB7.out.2.2.2.2.1 HK7.out HB7.out.2.2.2.2.2).mono ?_; rintro e w7 ⟨rfl, i3, i0, hgr⟩) | (go_at_call 57; refine (mul_int g g _ X _ _ i0.blk i0 i3 HM7.out.1 (HK7.out x2 (Nat.le_refl _)) HM7.out.2.1).mono ?_; rintro e w8 ⟨rfl, i4, hgr⟩))
        all_goals
          have gr : wc.grownBy w8 (some g) := held_out (by assumption)
          have O8 := O1.out.put (i := 0) rfl gr i4
          simp only [List.set] at O8
          rw [HM7.out.2.2] at O8
          have HO8 := hide O8
          clear O8 gr
          go_wp2_with fail
          go_roundg (l.length - (k + 1))
          case measure => omega
          case rel => exact ⟨k + 1, g, rfl, rfl, by simp, by omega, HO8⟩
    · obtain rfl : k = l.length := by omega
      have hX : (pprod (l.take l.length) : Nat) = n := by rw [List.take_length]; exact HPP.out
      rw [hX] at HO
      clear hX hJ hk hkl
      go_wp2_with fail
      refine (b_own HO.out (n : Int) (by have := HN.out; omega) (by have := HN.out; omega)).mono ?_
      rintro e w2 ⟨g2, rfl, O⟩
      have C := hide (cmp_own O 1 0 rfl rfl (by have := small256 (z := (n : Int)) (by have := HN.out; omega); omega) (by have := small256 (z := (n : Int)) (by have := HN.out; omega); omega))
      rw [show icmp (n : Int) (n : Int) = 0 from by unfold icmp; rw [if_neg (by omega), if_neg (by omega)]] at C
      clear O
      go_wp2_with fail
      refine C.out.mono ?_
      rintro e w3 ⟨rfl, O⟩
      have O3 := hide O
      go_wp2_with fail
      go_ret
      exact ⟨rfl, O3.out.bel⟩
end Go.Proofs.YticgnjapgbjfiaaDoor
namespace Go.Proofs.YticgnjapgbjfiaaDoor
open Go.RowKit

theorem pprod_mem {l : List (Nat × Nat)} {x : Nat × Nat} (h : x ∈ l) : x.1 ^ x.2 ∣ pprod l := by
  induction l with
  | nil => simp at h
  | cons y r ih =>
    obtain ⟨p, t⟩ := y
    rcases List.mem_cons.1 h with rfl | h
    · exact ⟨pprod r, rfl⟩
    · exact Nat.dvd_trans (ih h) ⟨p ^ t, by rw [pprod, Nat.mul_comm]⟩
theorem pprod_pos {l : List (Nat × Nat)} (h : ∀ x ∈ l, 2 ≤ x.1) : 1 ≤ pprod l := by
  induction l with
  | nil => simp [pprod]
  | cons y r ih =>
    obtain ⟨p, t⟩ := y
    have h1 := ih fun x hx => h x (List.mem_cons_of_mem _ hx)
    have h2 : 1 ≤ p ^ t := Nat.pow_pos (by have := h (p, t) (List.mem_cons_self ..); simp at this; omega)
    have := Nat.mul_le_mul h2 h1
    rw [pprod]; omega
theorem told_parts {N : Nat} {S : List Nat} (h1 : 1 ≤ N) (hn : N ≤ 1000000000000000000) (hS : Rise S) (ht : Told0 N S) :
    (grp S).length ≤ 60 ∧ (∀ x ∈ grp S, isB x.1 = true ∧ 2 ≤ x.1 ∧ x.1 ≤ 1000000000000000000 ∧ 1 ≤ x.2 ∧ x.2 ≤ 60 ∧ x.1 ^ x.2 ≤ 1000000000000000000) ∧ (∀ i a b, (grp S)[i]? = some a → (grp S)[i + 1]? = some b → a.1 < b.1) ∧ pprod (grp S) = N ∧ ∀ i, pprod ((grp S).take i) ≤ 1000000000000000000 := by
  have hl : S.length ≤ 60 := pw_le (p := 2) (n := N) (by omega) (told_len ht) hn
  have hg := grp_ok (P := fun p => isB p = true) hS (fun p hp => ⟨(ht.2 p hp).2, (ht.2 p hp).1⟩) S.length (Nat.le_refl _)
  have hm := grp_small (L := S) S.length (Nat.le_refl _)
  rw [List.take_length] at hg hm
  obtain ⟨⟨ga, gb⟩, _, gc, _⟩ := hg
  have hpr : pprod (grp S) = N := by rw [gc]; exact ht.1
  refine ⟨by omega, fun x hx => ?_, gb, hpr, fun i => ?_⟩
  · obtain ⟨a, b, c⟩ := ga x hx
    have hd := pprod_mem hx
    rw [hpr] at hd
    have h4 := Nat.le_of_dvd (by omega) hd
    have h5 : x.1 ≤ x.1 ^ x.2 := by
      have := Nat.pow_le_pow_right (n := x.1) (by omega) c
      rwa [Nat.pow_one] at this
    have h6 := hm.2 x hx
    exact ⟨a, b, by omega, c, by omega, by omega⟩
  · have e : pprod ((grp S).take i) * pprod ((grp S).drop i) = N := by rw [← pprod_app, List.take_append_drop]; exact hpr
    have h5 := pprod_pos (l := (grp S).drop i) fun x hx => (ga x (List.mem_of_mem_drop hx)).2.1
    have := Nat.le_mul_of_pos_right (pprod ((grp S).take i)) h5
    omega

theorem fc_keep {w1 W : World} {g : Nat} {a b : Int} (h : FC w1 g a b) (k : Below w1.heap.size w1 W) : (W.cell? ⟨g, 0, none⟩ = some (.int .i64 a) ∧ W.cell? ⟨g, 1, none⟩ = some (.int .i64 b)) ∧ Hid (Below w1.heap.size w1 W) :=
  ⟨⟨(h.below k).cells.1, (h.below k).cells.2.1⟩, k⟩

set_option maxRecDepth 100000 in
set_option maxHeartbeats 6400000 in
theorem pfactors_any (n : Int) (w : World) (hT : TabW w) (h0 : -9223372036854775808 ≤ n) (h1 : n ≤ 9223372036854775807) :
    Calls Tryd.prog 5 #[.int .i64 n] w fun e w' => e = .returned (.bool true) ∧ Below w.heap.size w w' := by
  have C := hide (factor_any n w hT h0 h1)
  have CB := fun W (hW : TabW W) => hide (primeBegun_any W hW)
  have CN := fun W => hide (number_any n W)
  have CF := fun W => hide (refF_any 3 0 W)
  have HT := hide hT
  have H01 := hide (And.intro h0 h1)
  clear hT h0 h1
  go_enter Tryd.func5, Tryd.ntmps5
  go_wp2_with fail
  refine C.out.mono ?_
  rintro e w1 ⟨v, S, c, rfl, hy, hno, hP, hb⟩
  simp only [fv]
  have HY := hide (And.intro hy hno)
  have F1 := hide (FC.made w1 c 0)
  have HB1 := hide (hb.alloc hb.size (.cells #[.int .i64 c, .int .i64 0] 24))
  have HP1 := hide (hP.below ((Below.refl _ _).alloc (Nat.le_refl _) (.cells #[.int .i64 c, .int .i64 0] 24)))
  clear hb hy hno hP C
  go_wp2_with fail
  refine (CB _ (HT.out.below HB1.out)).out.mono ?_
  rintro e w2 ⟨rfl, hb⟩
  have F2 := hide (F1.out.below hb)
  have HB2 := hide (HB1.out.trans (hb.mono HB1.out.size))
  have HP2 := hide (HP1.out.below hb)
  clear hb F1 HB1 HP1 CB
  by_cases hok : 1 ≤ n ∧ n ≤ 1000000000000000000
  · as_aux_lemma =>
    obtain ⟨N, rfl⟩ : ∃ N : Nat, n = N := ⟨n.toNat, by omega⟩
    obtain ⟨rfl, hS, ht⟩ := HY.out.1 hok
    obtain ⟨t1, t2, t3, t4, t5⟩ := told_parts (N := N) (by omega) (by omega) hS ht
    have CA := hide (apart_ref N v (grp S) w2 (by omega) (by omega) t1 HP2.out t2 t3 t4 t5)
    rw [show okB (N : Int) = true from by unfold okB; simp; omega] at CN
    have q1 : decide ((N : Int) < 1) = false := by rw [decide_eq_false_iff_not]; omega
    obtain ⟨x0, x1, x2, x3⟩ := F2.out.cells
    clear hok hS ht t1 t2 t3 t4 t5 HY
    go_wp2_with fail
    refine (CN _).out.mono ?_
    rintro e w3 ⟨rfl, rfl⟩
    go_wp2_with fail
    refine CA.out.mono ?_
    rintro e w4 ⟨rfl, hb⟩
    have HB4 := hide (HB2.out.trans (hb.mono HB2.out.size))
    clear hb CA
    go_wp2_with fail
    go_ret
    exact ⟨rfl, HB4.out⟩
  · as_aux_lemma =>
    obtain ⟨rfl, rfl, rfl⟩ := HY.out.2 hok
    have K := fun W (k : Below w2.heap.size w2 W) => hide (fc_keep F2.out k)
    have hh : decide (n < 1) = true ∨ (decide (n < 1) = false ∧ okB n = false) := by
      by_cases h : n < 1
      · exact .inl (by simpa using h)
      · exact .inr ⟨by simpa using h, by unfold okB; simp; omega⟩
    clear HY hok
    rcases hh with q1 | ⟨q1, q2⟩
    · go_wp2_with fail
      go_region_held3 (fun W => (W.cell? ⟨w1.heap.size, 0, none⟩ = some (.int .i64 3) ∧ W.cell? ⟨w1.heap.size, 1, none⟩ = some (.int .i64 0)) ∧ Hid (Below w2.heap.size w2 W)) (first | exact (K _ (below_drewN (Below.refl _ _) 1)).out | exact (K _ ((below_drewN (Below.refl _ _) 1).trans (hb.mono (Nat.le_refl _)))).out) (first | (go_at_call 14; refine (CF _).out.mono ?_; rintro e w5 ⟨rfl, hb⟩))
      all_goals
        rename_i hS
        have HB5 := hide (HB2.out.trans (hS.2.out.mono HB2.out.size))
        clear hS
        go_wp2_with fail
        go_ret
        exact ⟨rfl, HB5.out⟩
    · rw [q2] at CN
      go_wp2_with fail
      refine (CN _).out.mono ?_
      rintro e w3 ⟨rfl, rfl⟩
      go_wp2_with fail
      go_region_held3 (fun W => (W.cell? ⟨w1.heap.size, 0, none⟩ = some (.int .i64 3) ∧ W.cell? ⟨w1.heap.size, 1, none⟩ = some (.int .i64 0)) ∧ Hid (Below w2.heap.size w2 W)) (first | exact (K _ (below_drewN (Below.refl _ _) 1)).out | exact (K _ ((below_drewN (Below.refl _ _) 1).trans (hb.mono (Nat.le_refl _)))).out) (first | (go_at_call 14; refine (CF _).out.mono ?_; rintro e w5 ⟨rfl, hb⟩))
      all_goals
        rename_i hS
        have HB5 := hide (HB2.out.trans (hS.2.out.mono HB2.out.size))
        clear hS
        go_wp2_with fail
        go_ret
        exact ⟨rfl, HB5.out⟩

theorem pfactors_row (n : Int) (w : World) (hT : TabW w) (w0 : (Lit.int .i64 n).wf = true) :
    Calls Tryd.prog 5 #[.int .i64 n] w fun e w' => e = .returned (.bool true) ∧ Below w.heap.size w w' := by
  have h1 : IntKind.i64.min = -9223372036854775808 := rfl
  have h2 : IntKind.i64.max = 9223372036854775807 := rfl
  have h := w0
  simp only [Lit.wf, Bool.and_eq_true, decide_eq_true_eq] at h
  exact pfactors_any n w hT (by omega) (by omega)
end Go.Proofs.YticgnjapgbjfiaaDoor
