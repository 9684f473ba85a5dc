/- equationBegun: the document's examples of Coins and Markov. -/
import Derived.Test.YtlchmaiflcnaoaaKCoinM
import Derived.Test.YtlchmaiflcnaoaaKMarkW
namespace Go.Proofs.Ytlchmaiflcnaoaa
open Go.RowKit

/-- is n a sum of coins? -/
def isS (ls : List Nat) : Nat → Nat → Bool
  | 0, n => n == 0
  | f + 1, n => n == 0 || ls.any fun c => decide (1 ≤ c) && decide (c ≤ n) && isS ls f (n - c)
theorem isS_of {ls : List Nat} (h1 : ∀ c ∈ ls, 1 ≤ c) {n : Nat} (h : Sum ls n) : ∀ f, n ≤ f → isS ls f n = true := by
  induction h with
  | zero => intro f _; cases f <;> simp [isS]
  | @add s c hc hs ih =>
    intro f hf
    have := h1 c hc
    match f with
    | 0 => omega
    | f + 1 =>
      rw [isS, Bool.or_eq_true]
      right
      rw [List.any_eq_true]
      refine ⟨c, hc, ?_⟩
      rw [Nat.add_sub_cancel, ih f (by omega)]
      simp; omega
/-- a sum from a list of coins -/
theorem sum_of {ls : List Nat} : ∀ (cs : List Nat), (∀ c ∈ cs, c ∈ ls) → Sum ls cs.sum
  | [], _ => .zero
  | c :: r, h => by
    rw [List.sum_cons, Nat.add_comm]
    exact .add (h c (List.mem_cons_self ..)) (sum_of r fun x hx => h x (List.mem_cons_of_mem _ hx))
theorem least_is {ls : List Nat} {m hi : Nat} {L : List Int} (h : Least ls m hi L) (h1 : ∀ c ∈ ls, 1 ≤ c) {r K : Nat} (hr : r < m) (hK : Sum ls K) (hKr : K % m = r) (hno : (List.range K).all (fun n => !(n % m == r && isS ls K n)) = true) : gi L r = (K : Int) := by
  obtain ⟨v, hv, hs, hvr, _, hmin⟩ := h.val r hr
  have h2 := hmin K hK hKr
  have h3 : ¬ v < K := fun hlt => by
    have := List.all_eq_true.1 hno v (List.mem_range.2 hlt)
    rw [hvr, isS_of h1 hs K (by omega)] at this
    simp at this
  rw [hv]; omega
theorem coins_begun {a b : Int} {f : Int × Int} (h : CoinOk [6, 9, 20] a b f) : a = 43 ∧ b = 22 ∧ f = (0, 0) := by
  have hf : f = (0, 0) := by rw [h.fault]; decide
  obtain ⟨ls, m, hi, L, hl, hr, hL, hm, hm2, _, _, ha, hb⟩ := h.some (by rw [hf])
  have hls : ls = [6, 9, 20] := by
    match ls, hl with
    | [x, y, z], hl =>
      simp at hl
      obtain ⟨e1, e2, e3⟩ := hl
      have : x = 6 := by omega
      have : y = 9 := by omega
      have : z = 20 := by omega
      subst_vars; rfl
  subst hls
  have hm6 : m = 6 := by
    have := hm2 6 (by simp)
    simp at hm
    omega
  subst hm6
  have h1 : ∀ c ∈ [6, 9, 20], 1 ≤ c := by decide
  have e0 := least_is hL h1 (r := 0) (K := 0) (by omega) .zero rfl (by decide)
  have e1 := least_is hL h1 (r := 1) (K := 49) (by omega) (sum_of [9, 20, 20] (by decide)) rfl (by decide +kernel)
  have e2 := least_is hL h1 (r := 2) (K := 20) (by omega) (sum_of [20] (by decide)) rfl (by decide +kernel)
  have e3 := least_is hL h1 (r := 3) (K := 9) (by omega) (sum_of [9] (by decide)) rfl (by decide +kernel)
  have e4 := least_is hL h1 (r := 4) (K := 40) (by omega) (sum_of [20, 20] (by decide)) rfl (by decide +kernel)
  have e5 := least_is hL h1 (r := 5) (K := 29) (by omega) (sum_of [9, 20] (by decide)) rfl (by decide +kernel)
  refine ⟨?_, ?_, hf⟩
  · rw [ha]; simp only [lastK, e0, e1, e2, e3, e4, e5]; decide
  · rw [hb]; simp only [manyK, e0, e1, e2, e3, e4, e5]; decide
theorem TRow.form {w : World} {base n : Nat} {v : Value} {L : List T3} (h : TRow w base v L) (hn : L.length = n) (h0 : 0 < n) : ∃ g cap, v = .slice (some ⟨g, 0, none⟩) n cap ∧ base ≤ g ∧ g < w.heap.size ∧ ∀ (i : Nat) (t : T3), L[i]? = some t → w.cell? ⟨g, i * 3, none⟩ = some (.int .i64 (t.1 : Nat)) ∧ w.cell? ⟨g, i * 3 + 1, none⟩ = some (.int .i64 (t.2.1 : Nat)) ∧ w.cell? ⟨g, i * 3 + 2, none⟩ = some (.int .i64 (t.2.2 : Nat)) := by
  subst hn
  rcases h with ⟨_, h⟩ | h
  · subst h; simp at h0
  · exact h
theorem mk30 : mkL 30 = [(1, 1, 1), (1, 1, 2), (1, 2, 5), (1, 5, 13), (2, 5, 29)] := by decide +kernel

set_option maxRecDepth 100000 in
set_option maxHeartbeats 1600000 in
theorem eqBegun_any (w : World) :
    Calls Try.prog 25 #[] w fun e w' => e = .returned (.bool true) ∧ Below w.heap.size w w' := by
  have CC : ∀ (W : World) (g : Nat), g = W.heap.size → Hid (Calls Try.prog 58 #[.slice (some ⟨g, 0, none⟩) 3 3] (W.alloc (.cells #[.int .i64 6, .int .i64 9, .int .i64 20] 3)) fun e w' => e = .returned (.tuple #[.int .i64 43, .int .i64 22, fv (0, 0)]) ∧ Below (W.alloc (.cells #[.int .i64 6, .int .i64 9, .int .i64 20] 3)).heap.size (W.alloc (.cells #[.int .i64 6, .int .i64 9, .int .i64 20] 3)) w') := fun W g hg => by
    subst hg
    refine hide ((coins_main (some ⟨W.heap.size, 0, none⟩) 3 3 [6, 9, 20] _ rfl (by omega) (by omega) (ints_new W [6, 9, 20] _)).mono ?_)
    rintro e w' ⟨a, b, f, rfl, hok, hb⟩
    obtain ⟨rfl, rfl, rfl⟩ := coins_begun hok
    exact ⟨rfl, hb⟩
  have CM : ∀ W : World, Hid (Calls Try.prog 59 #[.int .i64 30] W fun e w' => ∃ v, e = .returned (.tuple #[v, fv (0, 0)]) ∧ TRow w' W.heap.size v (mkL 30) ∧ Below W.heap.size W w') := fun W => hide (markov_ok 30 W (by omega))
  go_enter Try.func25, Try.ntmps25
  go_wp2_with fail
  refine (CC _ _ rfl).out.mono ?_
  rintro e w1 ⟨rfl, hb⟩
  simp only [fv]
  have F1 := hide (FC.made w1 0 0)
  have HB1 := hide ((below_new hb).alloc (below_new hb).size (.cells #[.int .i64 0, .int .i64 0] 26))
  clear hb CC
  go_wp2_with fail
  refine (CM _).out.mono ?_
  rintro e w2 ⟨v, rfl, hr, hb⟩
  simp only [fv]
  rw [mk30] at hr
  obtain ⟨g, cap, rfl, _, hg, hc⟩ := hr.form rfl (by decide)
  obtain ⟨z0, z1, z2⟩ := hc 4 (2, 5, 29) rfl
  have F2 := hide ((F1.out.below hb).below (bel_e w2 (.cells #[.int .i64 0, .int .i64 0] 26)))
  have G2 := hide (FC.made w2 0 0)
  have HB2 := hide ((HB1.out.trans (hb.mono HB1.out.size)).alloc (HB1.out.trans (hb.mono HB1.out.size)).size (.cells #[.int .i64 0, .int .i64 0] 26))
  obtain ⟨x0, x1, _, _⟩ := F2.out.cells
  obtain ⟨y0, y1, _, _⟩ := G2.out.cells
  clear hb hr hc F1 HB1 CM
  have heq : ∀ W, (Op.equalIn 10000 83 (.agg #[.int .i64 2, .int .i64 5, .int .i64 29]) (.agg #[.int .i64 2, .int .i64 5, .int .i64 29])).run Try.prog W = .ok true W := fun _ => by kernel_rfl
  go_wp2_with fail
  go_ret
  exact ⟨rfl, HB2.out⟩
end Go.Proofs.Ytlchmaiflcnaoaa
