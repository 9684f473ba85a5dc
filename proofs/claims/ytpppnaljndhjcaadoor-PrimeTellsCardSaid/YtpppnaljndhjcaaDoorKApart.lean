/- The walk of prime.apart: what the program takes for a number's primes is put behind a list. Under the conditions that the number has no divisor below a thousand and lies below a bound. -/
import Derived.Test.YtpppnaljndhjcaaDoorKSplitW
import Derived.Test.YtpppnaljndhjcaaDoorK0
import Derived.Test.YtpppnaljndhjcaaDoorKSortRow
namespace Go.Proofs.YtpppnaljndhjcaaDoor
open Go.RowKit

theorem TabW.base {w w' : World} {base : Nat} (h : TabW w) (hg : 0 < base) (k : Below base w w') : TabW w' :=
  ⟨fun j hj => (k.cell (p := ⟨0, j, none⟩) hg).trans (h.1 j hj), Nat.lt_of_lt_of_le h.2 k.size⟩
/-- what the program makes of a number: primes to it, in some order -/
def Told0 (n : Nat) (M : List Nat) : Prop := prod M = n ∧ ∀ p ∈ M, 2 ≤ p ∧ isB p = true
theorem told_len {n : Nat} {M : List Nat} (h : Told0 n M) : 2 ^ M.length ≤ n := by
  obtain ⟨h1, h2⟩ := h
  subst h1
  have : ∀ M : List Nat, (∀ p ∈ M, 2 ≤ p ∧ isB p = true) → 2 ^ M.length ≤ prod M := by
    intro M
    induction M with
    | nil => intro _; simp [prod]
    | cons p r ih =>
      intro h
      rw [List.length_cons, Nat.pow_succ, prod, Nat.mul_comm]
      exact Nat.mul_le_mul (h p (List.mem_cons_self ..)).1 (ih fun q hq => h q (List.mem_cons_of_mem _ hq))
  exact this M h2
theorem noDiv_dvd {n d k : Nat} (h : noDiv n k) (hd : d ∣ n) : noDiv d k := fun e h1 h2 h3 => h e h1 h2 (Nat.dvd_trans h3 hd)
/-- what is no prime to the program has a prime divisor -/
theorem split_can {n : Nat} (h2 : 2 ≤ n) (hn : n < 18446744073709551616) (hnd : noDiv n 1000) (hb : isB n = false) : ∃ p, 3 ≤ p ∧ p ∣ n ∧ p + 2 < n := by
  obtain ⟨p, hp, hd⟩ := least_div h2
  have hp1 : 1000 ≤ p := by
    rcases Nat.lt_or_ge p 1000 with h | h
    · exact (hnd p hp.1 h hd).elim
    · exact h
  obtain ⟨e, he⟩ := hd
  have he2 : 2 ≤ e := by
    match e with
    | 0 => simp at he; omega
    | 1 =>
      rw [Nat.mul_one] at he
      subst he
      rw [hp.isB hn] at hb
      cases hb
    | k + 2 => omega
  have := Nat.mul_le_mul (Nat.le_refl p) he2
  exact ⟨p, by omega, ⟨e, he⟩, by omega⟩

theorem wrap_nat64 {m : Nat} (h : (m : Int) ≤ 1000000000000000000) : wrap64 (m : Int) = (m : Int) := by unfold wrap64; omega
theorem wrap_nat64' {m : Nat} (h : (m : Int) ≤ 1000000000000000000) : IntKind.i64.wrap (m : Int) = (m : Int) := by rw [IntKind.wrap_i64]; omega
/-- apart's word -/
def RetApart (w : World) (base n : Nat) (L : List Nat) : Ending → World → Prop := fun e w' => ∃ (v' : Value) (M : List Nat), e = .returned v' ∧ Told0 n M ∧ Row w' base v' (L ++ M) ∧ Below base w w'

set_option maxRecDepth 100000 in
set_option maxHeartbeats 6400000 in
theorem apart_any (K : Nat) (hK : K ≤ 1000) (n : Nat) : ∀ (w : World) (base : Nat) (v : Value) (L : List Nat), 1 ≤ n → n ≤ 1000000000000000000 → noDiv n 1000 → TabW w → 0 < base → base ≤ w.heap.size → Row w base v L → 2 ^ L.length * n ≤ 2 ^ K →
    Calls Tryd.prog 37 #[.int .i64 n, v] w (RetApart w base n L) := by
  induction n using Nat.strongRecOn with
  | _ n ih =>
    intro w base v L h1 h2 hnd hT hg hbase hR hlen
    have hL : L.length ≤ 1000 := by
      have : 2 ^ L.length ≤ 2 ^ K := Nat.le_trans (Nat.le_mul_of_pos_right _ h1) hlen
      exact Nat.le_trans ((Nat.pow_le_pow_iff_right (by omega)).1 this) hK
    by_cases hn1 : n = 1
    · subst hn1
      have HR := hide hR
      clear ih hnd hT hR hlen
      go_enter Tryd.func37, Tryd.ntmps37
      go_wp2_with fail
      go_ret
      exact ⟨v, [], rfl, ⟨rfl, fun p hp => by simp at hp⟩, by rw [List.append_nil]; exact HR.out, Below.refl _ _⟩
    · have q1 : ((n : Int) == 1) = false := by simp; omega
      have CI := fun W (hW : TabW W) => hide (is_any n W (by omega) h2 hW)
      cases hb : isB n
      · rw [hb] at CI
        obtain ⟨p, hp1, hp2, hp3⟩ := split_can (by omega) (by omega) hnd hb
        have CS := fun W => hide (split_any n p W hp1 hp2 hp3 h2)
        have IH := hide ih
        have HND := hide hnd
        have HT := hide hT
        have HR := hide hR
        have HL := hide hlen
        clear ih hnd hT hR hlen hp1 hp2 hp3 hb
        go_enter Tryd.func37, Tryd.ntmps37
        go_wp2_with fail
        refine (CI _ HT.out).out.mono ?_
        rintro e w1 ⟨rfl, hb1⟩
        have B1 := hide hb1
        clear hb1
        go_wp2_with fail
        refine (CS _).out.mono ?_
        rintro e w2 ⟨d, rfl, ⟨hd, hd1, hdn⟩, hb2⟩
        have B2 := hide (B1.out.trans (hb2.mono B1.out.size))
        have B2b := hide (B2.out.mono hbase)
        obtain ⟨m, hm⟩ := hd
        have hm2 : n / d = m := by rw [hm]; exact Nat.mul_div_cancel_left m (by omega)
        have hmn : m < n := by
          have h5 : 1 ≤ m := by
            rcases Nat.eq_zero_or_pos m with h0 | h0
            · rw [h0] at hm; simp at hm; omega
            · exact h0
          have := Nat.mul_le_mul hd1 (Nat.le_refl m)
          omega
        have hm1 : 1 ≤ m := by
          rcases Nat.eq_zero_or_pos m with h0 | h0
          · rw [h0] at hm; simp at hm; omega
          · exact h0
        have C1 : Hid (∀ W, Below w.heap.size w W → Calls Tryd.prog 37 #[.int .i64 d, v] W (RetApart W base d L)) := fun W hW =>
          IH.out d hdn W base v L (by omega) (by omega) (noDiv_dvd HND.out ⟨m, hm⟩) (HT.out.below hW) hg (Nat.le_trans hbase hW.size) (HR.out.below hW) (Nat.le_trans (Nat.mul_le_mul_left _ (by omega)) HL.out)
        have C2 : Hid (∀ (w3 : World) (v1 : Value) (M : List Nat), Told0 d M → Row w3 base v1 (L ++ M) → Below base w2.drew w3 → Calls Tryd.prog 37 #[.int .i64 m, v1] w3 (RetApart w3 base m (L ++ M))) := by
          intro w3 v1 M hM hrow hb3
          refine IH.out m hmn w3 base v1 (L ++ M) hm1 (by omega) (noDiv_dvd HND.out ⟨d, by rw [hm, Nat.mul_comm]⟩) ((HT.out.below B2.out.drew).base hg hb3) hg (Nat.le_trans (Nat.le_trans hbase B2.out.drew.size) hb3.size) hrow ?_
          rw [List.length_append, Nat.pow_add, Nat.mul_assoc]
          have h6 : 2 ^ M.length * m ≤ n := by
            rw [hm]; exact Nat.mul_le_mul_right _ (told_len hM)
          exact Nat.le_trans (Nat.mul_le_mul_left _ h6) HL.out
        have hd0 : ¬ (d : Int) = 0 := by omega
        have HM := hide hm
        unfold RetApart at C1 C2
        have hmb : (m : Int) ≤ 1000000000000000000 := by omega
        have hdiv : (n : Int).tdiv (d : Int) = (m : Int) := (Int.tdiv_eq_ediv_of_nonneg (Int.natCast_nonneg n)).trans ((Int.natCast_ediv n d).symm.trans (by rw [hm2]))
        have W1 : wrap64 (m : Int) = (m : Int) := wrap_nat64 hmb
        have W2 : IntKind.i64.wrap (m : Int) = (m : Int) := wrap_nat64' hmb
        clear hb2 hm hm2 hmn CI CS IH
        go_wp2_with fail
        go_region_with (first | (go_at_call 37; (first | (with_reducible refine (C1.out _ B2.out.drew).mono ?_; rintro e w3 ⟨v1, M1, rfl, ht1, hr1, hb3⟩) | (with_reducible refine (C2.out _ _ _ ht1 hr1 hb3).mono ?_; rintro e w4 ⟨v2, M2, rfl, ht2, hr2, hb4⟩))))
        all_goals (try (go_wp2_with fail))
        all_goals
          go_ret
          refine ⟨v2, M1 ++ M2, rfl, ⟨?_, ?_⟩, ?_, ?_⟩
          · rw [prod_app, ht1.1, ht2.1]; exact HM.out.symm
          · intro p hp
            rcases List.mem_append.1 hp with h | h
            · exact ht1.2 p h
            · exact ht2.2 p h
          · rw [← List.append_assoc]; exact hr2
          · exact (B2b.out.drew.trans hb3).trans hb4
      · rw [hb] at CI
        have HB := hide hb
        have HT := hide hT
        have HR := hide hR
        have U := Tryd.underlying32
        obtain ⟨i0, hi, hz0, hz1, hz2⟩ := info_parts iinfo
        have HI := hide (And.intro hi (And.intro hz0 (And.intro hz1 hz2)))
        clear ih hnd hT hR hlen hb hi hz0 hz1 hz2
        go_enter Tryd.func37, Tryd.ntmps37
        go_wp2_with fail
        refine (CI _ HT.out).out.mono ?_
        rintro e w1 ⟨rfl, hb1⟩
        have B1 := hide hb1
        have HR1 := hide ((HR.out.below B1.out).below ((Below.refl _ _).alloc (Nat.le_refl _) (.cells #[.int .i64 n] 3)))
        have B2 := hide ((B1.out.mono hbase).alloc (Nat.le_trans hbase B1.out.size) (.cells #[.int .i64 n] 3))
        clear hb1
        go_wp2_with (at_builtin; refine wpList_append_own _ rfl _ _ 32 rfl base 3 i0 (.int .i64 0) 1 8 U HI.out.1 HI.out.2.1 HI.out.2.2.1 HI.out.2.2.2 rfl (by decide) v _ _ rfl HR1.out ⟨w1.heap.size, 0, none⟩ 1 1 [.int .i64 n] rfl rfl (one_new w1 _ _) ?c2 ?c3 ?c4 ?c5 ?_)
        case c2 => intro u hu; simp at hu; subst hu; rfl
        case c3 => simp only [maxLen]; omega
        case c4 => omega
        case c5 => have := B1.out.size; simp; omega
        intro v' w5 hown hg5 _
        have HF : Hid (Row w5 base v' (L ++ [n])) := by
          unfold Hid Row
          rw [List.map_append, List.length_append]
          exact hown
        have B5 : Hid (Below base w w5) := B2.out.grown hg5 (Nat.le_trans hbase B2.out.size) (fun k hk => HR1.out.base k hk)
        clear hown hg5
        go_wp2_with fail
        go_ret
        exact ⟨v', [n], rfl, ⟨by simp [prod], fun p hp => by simp at hp; subst hp; exact ⟨by omega, HB.out⟩⟩, HF.out, B5.out⟩
end Go.Proofs.YtpppnaljndhjcaaDoor
