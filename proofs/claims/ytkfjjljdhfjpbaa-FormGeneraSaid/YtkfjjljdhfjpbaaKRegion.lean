/- A law on a region that draws its order: reads may be taken first as long as the one writing call, number G, has not come up. Under the hypotheses that each theorem names. -/
import Derived.Test.YtkfjjljdhfjpbaaKBase
import Derived.OrdersHeld
import Derived.Deep.RegionHeld3
namespace Go.Proofs.Ytkfjjljdhfjpbaa
open Go.RowKit

section
variable {P : Program} {ops : Array Oper} {Q : Exit → Act → World → Prop} {md : Region.Mode} {S : World → Prop} {G : Nat}

/-- Whatever order is picked from here on; S holds behind every operation until number G has come up. -/
def wpAnyP (P : Program) (md : Region.Mode) (ops : Array Oper) (Q : Exit → Act → World → Prop) (S : World → Prop) (G : Nat) : Nat → Array Bool → Act → World → Prop
  | 0, listed, a, w => Region.ready md ops listed = [] ∧ Q .normal a w
  | fuel + 1, listed, a, w =>
    (Region.ready md ops listed = [] → Q .normal a w) ∧
    ∀ i ∈ Region.ready md ops listed, wpOp P ops Q i (fun a' w' => ((listed.setIfInBounds i true).getD G true = false → S w') ∧ wpAnyP P md ops Q S G fuel (listed.setIfInBounds i true) a' w') a w

theorem wpAny_of_P : ∀ (fuel : Nat) (listed : Array Bool) (a : Act) (w : World), wpAnyP P md ops Q S G fuel listed a w → wpAny P md ops Q fuel listed a w
  | 0, _, _, _, h => h
  | fuel + 1, _, _, _, h => ⟨h.1, fun i hi => wpOp_mono (fun a' w' h' => wpAny_of_P fuel _ a' w' h'.2) (h.2 i hi)⟩

/-- each place of the path but i waits for another one of it -/
def pathOk (md : Region.Mode) (ops : Array Oper) (i : Nat) (path : List Nat) : Bool :=
  path.all fun k => k == i || match ops[k]? with
    | some o => o.after.any fun e => Region.binds md e && path.contains e.on
    | none => false
/-- none of the path has come up -/
def pathOut (listed : Array Bool) (path : List Nat) : Bool := path.all fun k => !(listed.getD k true)

theorem path_notReady {i j : Nat} {path : List Nat} {listed : Array Bool} (hp : pathOk md ops i path = true) (ho : pathOut listed path = true) (hj : j ∈ Region.ready md ops listed) (hji : j ≠ i) : j ∉ path := by
  intro hm
  have h1 := List.all_eq_true.1 hp j hm
  simp only [Bool.or_eq_true, beq_iff_eq, hji, false_or] at h1
  obtain ⟨_, oj, hoj, hall⟩ := mem_ready.1 hj
  rw [hoj] at h1
  obtain ⟨e, he, hb⟩ := Array.any_eq_true'.1 h1
  simp only [Bool.and_eq_true, List.contains_iff_mem] at hb
  have h2 := List.all_eq_true.1 ho _ hb.2
  have h3 := hall e he hb.1
  simp only [Bool.not_eq_true'] at h2
  rcases Nat.lt_or_ge e.on listed.size with h' | h'
  · simp [h'] at h2 h3; rw [h2] at h3; cases h3
  · simp [Array.getElem?_eq_none h'] at h3

theorem pathOut_set {j : Nat} {path : List Nat} {listed : Array Bool} (ho : pathOut listed path = true) (hj : j ∉ path) : pathOut (listed.setIfInBounds j true) path = true := by
  refine List.all_eq_true.2 fun k hk => ?_
  have := List.all_eq_true.1 ho k hk
  rw [getD_set_ne true (fun e => hj (by rw [e]; exact hk))]
  exact this

theorem wpAnyP_first {i : Nat} {oi : Oper} {v : Value} {path : List Nat} (hi : ops[i]? = some oi) (hsel : ∀ (j : Nat) (o : Oper) cs b, ops[j]? = some o → o.op ≠ .select cs b)
    (hQ : ∀ c a w, Q (.panic c) (a.put oi.dst v) w → Q (.panic c) a w) (hp : pathOk md ops i path = true) (hG : G ∈ path) (hGi : G ≠ i) :
    ∀ (fuel : Nat) (listed : Array Bool) (a : Act) (w : World),
      (∀ j oj, ops[j]? = some oj → j ≠ i → listed.getD j true = false → (∀ e ∈ oj.after, Region.binds md e = true → e.on ≠ i) → oi.apart ops oj = true) →
      i ∈ Region.ready md ops listed → pathOut listed path = true → YieldsIf P ops S oi v a → S w →
      wpAnyP P md ops Q S G fuel (listed.setIfInBounds i true) (a.put oi.dst v) w → wpAnyP P md ops Q S G (fuel + 1) listed a w := by
  intro fuel
  induction fuel with
  | zero =>
    intro listed a w _ hr _ hy hS H
    refine ⟨fun h => (by rw [h] at hr; cases hr), fun j hj => ?_⟩
    by_cases hji : j = i
    · subst hji; exact hy.wpOp hi hS ⟨fun _ => hS, H⟩
    · have := ready_mono hj hji
      rw [H.1] at this
      cases this
  | succ fuel ih =>
    intro listed a w hfree hr ho hy hS H
    refine ⟨fun h => (by rw [h] at hr; cases hr), fun j hj => ?_⟩
    by_cases hji : j = i
    · subst hji; exact hy.wpOp hi hS ⟨fun _ => hS, H⟩
    · have h1 := H.2 j (ready_mono hj hji)
      have hjp := path_notReady hp ho hj hji
      have hGj : j ≠ G := fun e => hjp (by rw [e]; exact hG)
      have hGu : listed.getD G true = false := by
        have := List.all_eq_true.1 ho G hG
        simpa only [Bool.not_eq_true'] using this
      obtain ⟨hjun, oj, hoj, hall⟩ := mem_ready.1 hj
      have hnot : ∀ e ∈ oj.after, Region.binds md e = true → e.on ≠ i := fun e he hb heq => by
        have h1 := hall e he hb
        have h0 := (mem_ready.1 hr).1
        rw [heq] at h1
        rcases Nat.lt_or_ge i listed.size with h' | h'
        · simp [h'] at h0 h1; rw [h0] at h1; cases h1
        · simp [Array.getElem?_eq_none h'] at h1
      have h2 := wpOp_putIf hoj (hfree j oj hoj hji hjun hnot) (fun cs b => hsel i oi cs b hi) (fun cs b => hsel j oj cs b hoj) hQ hy h1
      have hfree' : ∀ k ok, ops[k]? = some ok → k ≠ i → (listed.setIfInBounds j true).getD k true = false →
          (∀ e ∈ ok.after, Region.binds md e = true → e.on ≠ i) → oi.apart ops ok = true := fun k ok hk hki hun hno => by
        refine hfree k ok hk hki ?_ hno
        by_cases hjk : j = k
        · subst hjk; exact hjun
        · rw [getD_set_ne true hjk] at hun; exact hun
      have hS3 : ((listed.setIfInBounds i true).setIfInBounds j true).getD G true = false := by
        rw [getD_set_ne true hGj, getD_set_ne true (Ne.symm hGi)]; exact hGu
      refine wpOp_mono (fun a' w' h3 => ⟨fun _ => h3.2.1 hS3, ih (listed.setIfInBounds j true) a' w' hfree' (ready_mono hr (Ne.symm hji)) (pathOut_set ho hjp) h3.1 (h3.2.1 hS3) ?_⟩) h2
      rw [Array.setIfInBounds_comm _ _ hji]
      exact h3.2.2

/-- Take number i first. -/
theorem wpAnyP_take (i d : Nat) (path : List Nat) {oi : Oper} {v : Value} {fuel : Nat} {listed : Array Bool} {a : Act} {w : World} (hi : ops[i]? = some oi)
    (hs : Region.noSelect ops = true) (hf : Region.free md ops listed i = true) (hr : (Region.ready md ops listed).contains i = true)
    (hp : pathOk md ops i path = true) (ho : pathOut listed path = true) (hG : (path.contains G && !(G == i)) = true)
    (hd : oi.dst = some d) (hQ : ∀ c a w, Q (.panic c) (a.put oi.dst v) w → Q (.panic c) a w) (hy : YieldsIf P ops S oi v a) (hS : S w)
    (h : wpAnyP P md ops Q S G fuel (listed.setIfInBounds i true) { a with tmps := a.tmps.setIfInBounds d v } w) : wpAnyP P md ops Q S G (fuel + 1) listed a w := by
  simp only [Bool.and_eq_true, List.contains_iff_mem, Bool.not_eq_true', beq_eq_false_iff_ne] at hG
  exact wpAnyP_first hi (Region.noSelect_spec hs) hQ hp hG.1 hG.2 fuel listed a w (Region.free_spec hi hf) (by simpa using hr) ho hy hS (by rw [hd]; exact h)

/-- One operation alone may come up. -/
theorem wpAnyP_one (i : Nat) {o : Oper} {fuel : Nat} {listed : Array Bool} {a : Act} {w : World} (ho : ops[i]? = some o) (hr : Region.ready md ops listed = [i])
    (h : ∀ K' : Act → World → Prop, Shut (∀ a w, ((listed.setIfInBounds i true).getD G true = false → S w) → wpAnyP P md ops Q S G fuel (listed.setIfInBounds i true) a w → K' a w) → if Region.wanted o (yielded ops a.tmps) = true then Oper.wp P o a w K' Q else K' (a.put o.dst undef) w) :
    wpAnyP P md ops Q S G (fuel + 1) listed a w := by
  refine ⟨fun h0 => (by rw [hr] at h0; cases h0), fun j hj => ?_⟩
  rw [hr] at hj
  obtain rfl : j = i := by simpa using hj
  exact wpOp_step ho (fun K' hK => h K' (fun a w hS hW => hK a w ⟨hS, hW⟩))

theorem wpAnyP_done {listed : Array Bool} {a : Act} {w : World} (hr : Region.ready md ops listed = []) (h : Q .normal a w) :
    ∀ fuel, wpAnyP P md ops Q S G fuel listed a w
  | 0 => ⟨hr, h⟩
  | _ + 1 => ⟨fun _ => h, by rw [hr]; simp⟩

theorem wp_region_P (S : World → Prop) (G : Nat) {id : Nat} {a : Act} {w : World} (hm : P.follows .mixedOrders = true) (hS : S w.drew)
    (h : S w.drew → wpAnyP P .any ops Q S G ops.size (Array.replicate ops.size false) a w.drew) : (Code.region id ops true).wp P Q a w :=
  wp_region_any hm (wpAny_of_P _ _ _ _ (h hS))
end
end Go.Proofs.Ytkfjjljdhfjpbaa
