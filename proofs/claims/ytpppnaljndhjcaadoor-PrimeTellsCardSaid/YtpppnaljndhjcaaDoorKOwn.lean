/- Ints that a call has made, in one list: what each holds; and the contracts of Int's methods over such a list. Each under a bound on the numbers. -/
import Derived.Test.YtpppnaljndhjcaaDoorKIntD
import Derived.Test.YtpppnaljndhjcaaDoorKIntG
import Derived.Test.YtpppnaljndhjcaaDoorKRefB
namespace Go.Proofs.YtpppnaljndhjcaaDoor
open Go.RowKit

end Go.Proofs.YtpppnaljndhjcaaDoor

namespace Go.Proofs.YtpppnaljndhjcaaDoor
open Go.RowKit

structure Own (w0 w : World) (L : List (Nat × Int)) : Prop where
  bel : Below w0.heap.size w0 w
  at_ : ∀ (i g : Nat) (X : Int), L[i]? = some (g, X) → IntAt w g X
  lo : ∀ (i g : Nat) (X : Int), L[i]? = some (g, X) → w0.heap.size ≤ g
  nd : ∀ (i j g : Nat) (X Y : Int), L[i]? = some (g, X) → L[j]? = some (g, Y) → i = j

section
variable {w0 w w' : World} {L : List (Nat × Int)}
theorem Own.start (w : World) : Own w w [] := ⟨Below.refl _ _, fun i g X h => by simp at h, fun i g X h => by simp at h, fun i j g X Y h => by simp at h⟩
theorem Own.of_below (h : Below w0.heap.size w0 w) : Own w0 w [] := ⟨h, fun i g X h => by simp at h, fun i g X h => by simp at h, fun i j g X Y h => by simp at h⟩
theorem Own.below (h : Own w0 w L) (k : Below w.heap.size w w') : Own w0 w' L :=
  ⟨h.bel.trans (k.mono h.bel.size), fun i g X hi => (h.at_ i g X hi).below k, h.lo, h.nd⟩
theorem Own.drewN (h : Own w0 w L) (n : Nat) : Own w0 (w.drewN n) L := h.below (below_drewN (Below.refl _ _) n)
theorem Own.cons (h : Own w0 w L) (k : Below w.heap.size w w') {g : Nat} {X : Int} (hg : w.heap.size ≤ g) (hi : IntAt w' g X) : Own w0 w' ((g, X) :: L) := by
  have hne : ∀ (j k : Nat) (Y : Int), L[j]? = some (k, Y) → k ≠ g := fun j k Y hj e => by have := (h.at_ j k Y hj).lt; omega
  refine ⟨h.bel.trans (k.mono h.bel.size), ?_, ?_, ?_⟩
  · intro i a A ha
    cases i with
    | zero => simp at ha; obtain ⟨rfl, rfl⟩ := ha; exact hi
    | succ i => simp at ha; exact (h.at_ i a A ha).below k
  · intro i a A ha
    cases i with
    | zero => simp at ha; obtain ⟨rfl, rfl⟩ := ha; exact Nat.le_trans h.bel.size hg
    | succ i => simp at ha; exact h.lo i a A ha
  · intro i j a A B hA hB
    cases i <;> cases j <;> simp at hA hB
    · rfl
    · obtain ⟨rfl, rfl⟩ := hA; exact (hne _ _ _ hB rfl).elim
    · obtain ⟨rfl, rfl⟩ := hB; exact (hne _ _ _ hA rfl).elim
    · rw [h.nd _ _ _ _ _ hA hB]
theorem zero_at (w : World) : IntAt (w.alloc (.cells #[.bool false, .slice none 0 0] 51)) w.heap.size 0 := ⟨false, _, blk_new _ _ _, nat_nil, by simp⟩
theorem bel_new (w : World) (o : Obj) : Below w.heap.size w (w.alloc o) := (Below.refl _ _).alloc (Nat.le_refl _) _
theorem Own.new (h : Own w0 w L) : Own w0 (w.alloc (.cells #[.bool false, .slice none 0 0] 51)) ((w.heap.size, 0) :: L) := h.cons (bel_new w _) (Nat.le_refl _) (zero_at w)
theorem Own.blk (h : Own w0 w L) {i g : Nat} {X : Int} (hi : L[i]? = some (g, X)) : IntBlk w g := (h.at_ i g X hi).blk
theorem Own.put (h : Own w0 w L) {i g : Nat} {X Y : Int} (hi : L[i]? = some (g, X)) (hg : w.grownBy w' (some g)) (hY : IntAt w' g Y) : Own w0 w' (L.set i (g, Y)) := by
  have hblk := h.blk hi
  have hb := below_of_grown h.bel hg h.bel.size (h.lo _ _ _ hi)
  have key : ∀ (j k : Nat) (Z : Int), (L.set i (g, Y))[j]? = some (k, Z) → (j = i ∧ k = g ∧ Z = Y) ∨ (j ≠ i ∧ L[j]? = some (k, Z)) := by
    intro j k Z hj
    rw [List.getElem?_set] at hj
    split at hj
    · rename_i e
      split at hj
      · simp at hj; exact .inl ⟨e.symm, hj.1.symm, hj.2.symm⟩
      · cases hj
    · rename_i e; exact .inr ⟨fun e2 => e e2.symm, hj⟩
  refine ⟨hb, ?_, ?_, ?_⟩
  · intro j k Z hj
    rcases key j k Z hj with ⟨_, rfl, rfl⟩ | ⟨hne, hj⟩
    · exact hY
    · exact (h.at_ j k Z hj).grown hg hblk (fun e => hne (h.nd j i k Z X hj (by rw [e]; exact hi)))
  · intro j k Z hj
    rcases key j k Z hj with ⟨_, rfl, rfl⟩ | ⟨hne, hj⟩
    · exact h.lo _ _ _ hi
    · exact h.lo _ _ _ hj
  · intro j k a A B hA hB
    rcases key j a A hA with ⟨e1, e2, _⟩ | ⟨n1, hA⟩ <;> rcases key k a B hB with ⟨e3, e4, _⟩ | ⟨n2, hB⟩
    · omega
    · exact (n2 (h.nd k i a B X hB (by rw [e2]; exact hi))).elim
    · exact (n1 (h.nd j i a A X hA (by rw [e4]; exact hi))).elim
    · exact h.nd _ _ _ _ _ hA hB
/-- only some of them -/
theorem Own.sub (h : Own w0 w L) {K : List (Nat × Int)} (s : List Nat) (hs : K = s.filterMap (fun i => L[i]?)) (hn : s.Nodup) : Own w0 w K := by
  subst hs
  have key : ∀ (s : List Nat), s.Nodup → ∀ (i g : Nat) (X : Int), (s.filterMap (fun i => L[i]?))[i]? = some (g, X) → ∃ j ∈ s, L[j]? = some (g, X) := by
    intro s _ i g X hi
    have := List.mem_of_getElem? hi
    obtain ⟨j, hj, e⟩ := List.mem_filterMap.1 this
    exact ⟨j, hj, e⟩
  refine ⟨h.bel, fun i g X hi => ?_, fun i g X hi => ?_, ?_⟩
  · obtain ⟨j, _, e⟩ := key s hn i g X hi; exact h.at_ j g X e
  · obtain ⟨j, _, e⟩ := key s hn i g X hi; exact h.lo j g X e
  · induction s with
    | nil => intro i j g X Y hi; simp at hi
    | cons a s ih =>
      have hn2 := (List.nodup_cons.1 hn)
      have ih := ih hn2.2
      cases hl : L[a]? with
      | none => rw [List.filterMap_cons_none hl]; exact ih
      | some b =>
        rw [List.filterMap_cons_some hl]
        obtain ⟨bg, bX⟩ := b
        have hne : ∀ (k g : Nat) (X : Int), (s.filterMap (fun i => L[i]?))[k]? = some (g, X) → g ≠ bg := by
          intro k g X hk e
          subst e
          obtain ⟨j, hj, e⟩ := key s hn2.2 k g X hk
          exact hn2.1 (by rw [h.nd a j g bX X hl e]; exact hj)
        intro i j g X Y hi hj
        cases i <;> cases j <;> simp at hi hj
        · rfl
        · exact (hne _ _ _ hj hi.1.symm).elim
        · exact (hne _ _ _ hi hj.1.symm).elim
        · rw [ih _ _ _ _ _ hi hj]

/-- a call's word on a method that writes number i of the list -/
def RetOwn (w0 : World) (L : List (Nat × Int)) (g : Nat) : Ending → World → Prop := fun e w' => e = .returned (.pointer (some ⟨g, 0, none⟩)) ∧ Own w0 w' L
theorem RetInt.own (h : Own w0 w L) {i g : Nat} {X Y : Int} {e : Ending} (hi : L[i]? = some (g, X)) (hr : RetInt w g Y e w') : RetOwn w0 (L.set i (g, Y)) g e w' :=
  ⟨hr.1, h.put hi hr.2.2 hr.2.1⟩
def RetNewOwn (w0 : World) (L : List (Nat × Int)) (X : Int) : Ending → World → Prop := fun e w' => ∃ g, e = .returned (.pointer (some ⟨g, 0, none⟩)) ∧ Own w0 w' ((g, X) :: L)
theorem RetNew.own (h : Own w0 w L) {X : Int} {e : Ending} (hr : RetNew w X e w') : RetNewOwn w0 L X e w' := by
  obtain ⟨g, he, hg, hi, hb⟩ := hr
  exact ⟨g, he, h.cons hb hg hi⟩

theorem b_own (h : Own w0 w L) (a : Int) (ha : -9223372036854775808 ≤ a) (ha2 : a ≤ 9223372036854775807) :
    Calls Tryd.prog 16 #[.int .i64 a] w (RetNewOwn w0 L a) := (b_any a w ha ha2).mono fun _ _ hr => RetNew.own h hr
theorem newInt_own (h : Own w0 w L) (a : Int) (ha : -9223372036854775808 ≤ a) (ha2 : a ≤ 9223372036854775807) :
    Calls Tryd.prog 24 #[.int .i64 a] w (RetNewOwn w0 L a) := (newInt_any a w ha ha2).mono fun _ _ hr => RetNew.own h hr
theorem add_own (h : Own w0 w L) (i j k : Nat) {g p q : Nat} {Z X Y : Int} (hi : L[i]? = some (g, Z)) (hj : L[j]? = some (p, X)) (hk : L[k]? = some (q, Y)) (b1 : X.natAbs < lim) (b2 : Y.natAbs < lim) (b3 : (X + Y).natAbs < lim) :
    Calls Tryd.prog 59 #[.pointer (some ⟨g, 0, none⟩), .pointer (some ⟨p, 0, none⟩), .pointer (some ⟨q, 0, none⟩)] w (RetOwn w0 (L.set i (g, X + Y)) g) :=
  (add_int g p q X Y w (h.blk hi) (h.at_ _ _ _ hj) (h.at_ _ _ _ hk) b1 b2 b3).mono fun _ _ hr => RetInt.own h hi hr
theorem sub_own (h : Own w0 w L) (i j k : Nat) {g p q : Nat} {Z X Y : Int} (hi : L[i]? = some (g, Z)) (hj : L[j]? = some (p, X)) (hk : L[k]? = some (q, Y)) (b1 : X.natAbs < lim) (b2 : Y.natAbs < lim) (b3 : (X - Y).natAbs < lim) :
    Calls Tryd.prog 28 #[.pointer (some ⟨g, 0, none⟩), .pointer (some ⟨p, 0, none⟩), .pointer (some ⟨q, 0, none⟩)] w (RetOwn w0 (L.set i (g, X - Y)) g) :=
  (sub_int g p q X Y w (h.blk hi) (h.at_ _ _ _ hj) (h.at_ _ _ _ hk) b1 b2 b3).mono fun _ _ hr => RetInt.own h hi hr
theorem mul_own (h : Own w0 w L) (i j k : Nat) {g p q : Nat} {Z X Y : Int} (hi : L[i]? = some (g, Z)) (hj : L[j]? = some (p, X)) (hk : L[k]? = some (q, Y)) (b1 : X.natAbs < lim) (b2 : Y.natAbs < lim) (b3 : (X * Y).natAbs < lim) :
    Calls Tryd.prog 33 #[.pointer (some ⟨g, 0, none⟩), .pointer (some ⟨p, 0, none⟩), .pointer (some ⟨q, 0, none⟩)] w (RetOwn w0 (L.set i (g, X * Y)) g) :=
  (mul_int g p q X Y w (h.blk hi) (h.at_ _ _ _ hj) (h.at_ _ _ _ hk) b1 b2 b3).mono fun _ _ hr => RetInt.own h hi hr
theorem mod_own (h : Own w0 w L) (i j k : Nat) {g p q : Nat} {Z X Y : Int} (hi : L[i]? = some (g, Z)) (hj : L[j]? = some (p, X)) (hk : L[k]? = some (q, Y)) (b1 : X.natAbs + 1 < lim) (b2 : Y.natAbs < lim) (b3 : Y ≠ 0) : Calls Tryd.prog 27 #[.pointer (some ⟨g, 0, none⟩), .pointer (some ⟨p, 0, none⟩), .pointer (some ⟨q, 0, none⟩)] w (RetOwn w0 (L.set i (g, X % Y)) g) := (mod_int g p q X Y w (h.blk hi) (h.at_ _ _ _ hj) (h.at_ _ _ _ hk) b1 b2 b3).mono fun _ _ hr => RetInt.own h hi hr
theorem quo_own (h : Own w0 w L) (i j k : Nat) {g p q : Nat} {Z X Y : Int} (hi : L[i]? = some (g, Z)) (hj : L[j]? = some (p, X)) (hk : L[k]? = some (q, Y)) (b1 : X.natAbs < lim) (b2 : Y.natAbs < lim) (b3 : Y ≠ 0) : Calls Tryd.prog 78 #[.pointer (some ⟨g, 0, none⟩), .pointer (some ⟨p, 0, none⟩), .pointer (some ⟨q, 0, none⟩)] w (RetOwn w0 (L.set i (g, X.tdiv Y)) g) := (quo_int g p q X Y w (h.blk hi) (h.at_ _ _ _ hj) (h.at_ _ _ _ hk) b1 b2 b3).mono fun _ _ hr => RetInt.own h hi hr
theorem set_own (h : Own w0 w L) (i j : Nat) {g p : Nat} {Z X : Int} (hi : L[i]? = some (g, Z)) (hj : L[j]? = some (p, X)) (b1 : X.natAbs < lim) :
    Calls Tryd.prog 29 #[.pointer (some ⟨g, 0, none⟩), .pointer (some ⟨p, 0, none⟩)] w (RetOwn w0 (L.set i (g, X)) g) :=
  (set_int g p X w (h.blk hi) (h.at_ _ _ _ hj) b1).mono fun _ _ hr => RetInt.own h hi hr
theorem cmp_own (h : Own w0 w L) (j k : Nat) {p q : Nat} {X Y : Int} (hj : L[j]? = some (p, X)) (hk : L[k]? = some (q, Y)) (b1 : X.natAbs < lim) (b2 : Y.natAbs < lim) :
    Calls Tryd.prog 26 #[.pointer (some ⟨p, 0, none⟩), .pointer (some ⟨q, 0, none⟩)] w fun e w' => e = .returned (.int .i64 (icmp X Y)) ∧ Own w0 w' L :=
  (cmp_int p q X Y w (h.at_ _ _ _ hj) (h.at_ _ _ _ hk) b1 b2).mono fun _ _ hr => ⟨hr.1, h.below hr.2⟩
theorem sign_own (h : Own w0 w L) (j : Nat) {p : Nat} {X : Int} (hj : L[j]? = some (p, X)) (b1 : X.natAbs < lim) : Calls Tryd.prog 25 #[.pointer (some ⟨p, 0, none⟩)] w fun e w' => e = .returned (.int .i64 X.sign) ∧ w = w' := sign_int p X w (h.at_ _ _ _ hj) b1
end

section
variable {w0 w w' : World} {L : List (Nat × Int)}
theorem Own.touch (h : Own w0 w L) {i j g u : Nat} {X Y Z1 Z2 : Int} (hi : L[i]? = some (g, Z1)) (hj : L[j]? = some (u, Z2)) (hne : i ≠ j) (ht : Touch w w' [g, u]) (hX : IntAt w' g X) (hY : IntAt w' u Y) : Own w0 w' ((L.set i (g, X)).set j (u, Y)) := by
  have hbl : ∀ x ∈ [g, u], x < w.heap.size → IntBlk w x := by
    intro x hx _
    simp at hx
    rcases hx with rfl | rfl
    · exact h.blk hi
    · exact h.blk hj
  have hb : Below w0.heap.size w0 w' := h.bel.trans (ht.below h.bel.size (by intro x hx; simp at hx; rcases hx with rfl | rfl; exact h.lo _ _ _ hi; exact h.lo _ _ _ hj))
  have key : ∀ (l k : Nat) (Z : Int), ((L.set i (g, X)).set j (u, Y))[l]? = some (k, Z) → (l = i ∧ k = g ∧ Z = X) ∨ (l = j ∧ k = u ∧ Z = Y) ∨ (l ≠ i ∧ l ≠ j ∧ L[l]? = some (k, Z)) := by
    intro l k Z hl
    rw [List.getElem?_set] at hl
    split at hl
    · rename_i e
      split at hl
      · simp at hl; exact .inr (.inl ⟨e.symm, hl.1.symm, hl.2.symm⟩)
      · cases hl
    · rename_i e
      rw [List.getElem?_set] at hl
      split at hl
      · rename_i e
        split at hl
        · simp at hl; exact .inl ⟨e.symm, hl.1.symm, hl.2.symm⟩
        · cases hl
      · rename_i e2; exact .inr (.inr ⟨fun e3 => e2 e3.symm, fun e3 => e e3.symm, hl⟩)
  have hgu : g ≠ u := fun e => hne (h.nd i j g Z1 Z2 hi (by rw [e]; exact hj))
  refine ⟨hb, ?_, ?_, ?_⟩
  · intro l k Z hl
    rcases key l k Z hl with ⟨_, rfl, rfl⟩ | ⟨_, rfl, rfl⟩ | ⟨n1, n2, hl2⟩
    · exact hX
    · exact hY
    · refine ht.int hbl (h.at_ l k Z hl2) ?_
      intro hm
      simp at hm
      rcases hm with e | e
      · exact n1 (h.nd _ _ _ _ _ hl2 (by rw [e]; exact hi))
      · exact n2 (h.nd _ _ _ _ _ hl2 (by rw [e]; exact hj))
  · intro l k Z hl
    rcases key l k Z hl with ⟨_, rfl, rfl⟩ | ⟨_, rfl, rfl⟩ | ⟨n1, n2, hl⟩
    · exact h.lo _ _ _ hi
    · exact h.lo _ _ _ hj
    · exact h.lo _ _ _ hl
  · intro l k x A B hA hB
    rcases key l x A hA with ⟨a1, a2, _⟩ | ⟨a1, a2, _⟩ | ⟨a1, a2, hA⟩ <;> rcases key k x B hB with ⟨b1, b2, _⟩ | ⟨b1, b2, _⟩ | ⟨b1, b2, hB⟩
    · omega
    · omega
    · exact (b1 (h.nd k i x B Z1 hB (by rw [a2]; exact hi))).elim
    · omega
    · omega
    · exact (b2 (h.nd k j x B Z2 hB (by rw [a2]; exact hj))).elim
    · exact (a1 (h.nd l i x A Z1 hA (by rw [b2]; exact hi))).elim
    · exact (a2 (h.nd l j x A Z2 hA (by rw [b2]; exact hj))).elim
    · exact h.nd _ _ _ _ _ hA hB
theorem gcd_own (h : Own w0 w L) (i j k l : Nat) {g u a b : Nat} {Z1 Z2 A B : Int} (hi : L[i]? = some (g, Z1)) (hj : L[j]? = some (u, Z2)) (hne : i ≠ j) (hk : L[k]? = some (a, A)) (hl : L[l]? = some (b, B)) (hA : 0 < A) (hB : 0 < B) (hb : (A.natAbs + B.natAbs + 2) * (A.natAbs + B.natAbs + 2) < lim) : Calls Tryd.prog 61 #[.pointer (some ⟨g, 0, none⟩), .pointer (some ⟨u, 0, none⟩), .pointer none, .pointer (some ⟨a, 0, none⟩), .pointer (some ⟨b, 0, none⟩)] w (fun e w' => ∃ s : Int, e = .returned (.pointer (some ⟨g, 0, none⟩)) ∧ B ∣ (Int.gcd A B : Int) - s * A ∧ s.natAbs ≤ max 1 B.natAbs ∧ Own w0 w' ((L.set i (g, (Int.gcd A B : Int))).set j (u, s))) := (gcd_int g u a b A B w (h.blk hi) (h.blk hj) (fun e => hne (h.nd i j g Z1 Z2 hi (by rw [e]; exact hj))) (h.at_ _ _ _ hk) (h.at_ _ _ _ hl) hA hB hb).mono fun _ _ ⟨s, he, hg, hu, hd, hs, ht⟩ => ⟨s, he, hd, hs, h.touch hi hj hne ht hg hu⟩
end

theorem lim_pow {x k : Nat} (h : x < 4294967296 ^ k) (hk : k ≤ 1000) : x < lim := Nat.lt_of_lt_of_le h (Nat.pow_le_pow_right (by omega) hk)
end Go.Proofs.YtpppnaljndhjcaaDoor
