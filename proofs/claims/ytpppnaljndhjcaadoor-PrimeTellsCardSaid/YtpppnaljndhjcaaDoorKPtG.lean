/- No number up to 10^18 that passes the twelve bases has a prime below a thousand (plain; printed by gen_pt.py). -/
import Derived.Test.YtpppnaljndhjcaaDoorKPtF0
import Derived.Test.YtpppnaljndhjcaaDoorKPtF1
import Derived.Test.YtpppnaljndhjcaaDoorKPtF2
import Derived.Test.YtpppnaljndhjcaaDoorKPtF3
import Derived.Test.YtpppnaljndhjcaaDoorKPtF4
import Derived.Test.YtpppnaljndhjcaaDoorKPtF5
import Derived.Test.YtpppnaljndhjcaaDoorKPtF6
import Derived.Test.YtpppnaljndhjcaaDoorKPtF7
namespace Go.Proofs.YtpppnaljndhjcaaDoor
namespace PT
def parts : List Nat := part0 ++ part1 ++ part2 ++ part3 ++ part4 ++ part5 ++ part6 ++ part7
theorem parts_no {n d : Nat} (hN : Ps n d) : ∀ p ∈ parts, p ∣ n → (∀ r, Pr r → r ∣ n → p ≤ r) → False := by
  intro p hp
  simp only [parts, List.mem_append] at hp
  rcases hp with ((((((h | h) | h) | h) | h) | h) | h) | h
  · exact part0_no hN p h
  · exact part1_no hN p h
  · exact part2_no hN p h
  · exact part3_no hN p h
  · exact part4_no hN p h
  · exact part5_no hN p h
  · exact part6_no hN p h
  · exact part7_no hN p h
theorem parts_all : (List.range 1000).all (fun x => decide (x < 41) || parts.contains x || (List.range x).any (fun y => decide (2 ≤ y) && x % y == 0)) = true := by decide +kernel
theorem parts_mem {p : Nat} (hp : Pr p) (h41 : 41 ≤ p) (h : p < 1000) : p ∈ parts := by
  have h1 := List.all_eq_true.1 parts_all p (List.mem_range.2 h)
  rw [Bool.or_eq_true, Bool.or_eq_true] at h1
  rcases h1 with (c | c) | c
  · have := of_decide_eq_true c
    omega
  · simpa using c
  · obtain ⟨y, hy, he⟩ := List.any_eq_true.1 c
    rw [Bool.and_eq_true] at he
    exact absurd hp (not_Pr_of_dvd (of_decide_eq_true he.1) (List.mem_range.1 hy) (Nat.dvd_of_mod_eq_zero (eq_of_beq he.2)))
theorem no_small {n d : Nat} (hN : Ps n d) {p : Nat} (hp : Pr p) (hpn : p ∣ n) : 1000 ≤ p := by
  refine Classical.byContradiction fun hc => ?_
  have hex : ∀ k, (∃ q, q ≤ k ∧ Pr q ∧ q ∣ n) → ∃ q, q ≤ k ∧ Pr q ∧ q ∣ n ∧ ∀ r, Pr r → r ∣ n → q ≤ r := by
    intro k
    induction k with
    | zero => rintro ⟨q, h1, h2, _⟩; have := h2.1; omega
    | succ k ih =>
      rintro ⟨q, h1, h2, h3⟩
      by_cases c : ∃ q, q ≤ k ∧ Pr q ∧ q ∣ n
      · obtain ⟨q, a1, a2⟩ := ih c
        exact ⟨q, by omega, a2⟩
      · refine ⟨q, h1, h2, h3, fun r hr hrn => ?_⟩
        refine Classical.byContradiction fun hcc => c ⟨r, by omega, hr, hrn⟩
  obtain ⟨q, q1, q2, q3, q4⟩ := hex p ⟨p, Nat.le_refl _, hp, hpn⟩
  exact parts_no hN q (parts_mem q2 (hN.big q q2 q3) (by omega)) q3 q4
end PT
/-- a number above 10^8 that passes the twelve bases has no divisor below a thousand -/
theorem mrAll_hit {n : Nat} (lo : 100000000 < n) (hi : n ≤ 1000000000000000000) (h : mrAll n = true) : ¬ hit n := by
  rintro ⟨x, h1, h2, _, h4⟩
  obtain ⟨p, hp, hpx⟩ := least_div h1
  have := PT.no_small (PT.ps_of lo hi h) hp (Nat.dvd_trans hpx h4)
  have := Nat.le_of_dvd (by omega) hpx
  omega
theorem isB_big {n : Nat} (lo : 100000000 < n) (hi : n ≤ 1000000000000000000) : isB n = mrAll n := by
  unfold isB
  cases h : mrAll n with
  | true => rw [if_neg (by rw [hitB_false (mrAll_hit lo hi h)]; decide), if_neg (by omega)]
  | false =>
    split
    · rfl
    · rw [if_neg (by omega)]
end Go.Proofs.YtpppnaljndhjcaaDoor
