/- The walks of math/bits.TrailingZeros64 (its table as its variable holds it) and of prime.is. Under the bounds that each names. -/
import Derived.Test.YtpppnaljndhjcaaDoorKPow
import Derived.Test.YtpppnaljndhjcaaDoorK0
import Derived.Shelf.Spec.TrailingZeros
import Derived.Deep.LoopGhost
namespace Go.Proofs.YtpppnaljndhjcaaDoor
open Go.RowKit

/-- the table lies in its variable -/
def TabW (w : World) : Prop := TabAt 0 Lib.deBruijn64tab w ∧ 0 < w.heap.size
theorem TabW.below {w w' : World} (h : TabW w) (k : Below w.heap.size w w') : TabW w' :=
  ⟨fun j hj => (k.cell (p := ⟨0, j, none⟩) h.2).trans (h.1 j hj), Nat.lt_of_lt_of_le h.2 k.size⟩
theorem TabW.drewN {w : World} (h : TabW w) (n : Nat) : TabW (w.drewN n) := h.below (below_drewN (Below.refl _ _) n)
theorem TabW.alloc {w : World} (h : TabW w) (o : Obj) : TabW (w.alloc o) := h.below ((Below.refl _ _).alloc (Nat.le_refl _) o)

set_option maxRecDepth 100000 in
set_option maxHeartbeats 1000000 in
theorem tz_any (x : Nat) (w : World) (hx : x < 18446744073709551616) (h0 : x ≠ 0) (hT : TabW w) :
    Calls Tryd.prog 20 #[.int .u64 x] w fun e w' => e = .returned (.int .i64 (Lib.ctz 64 x)) ∧ w = w' := by
  obtain ⟨hlow, hk⟩ := Lib.lowest_bit 64 x h0 hx
  obtain ⟨hi, htab⟩ := Lib.deBruijn64_at _ hk
  have hcell := hT.1 _ hi
  rw [htab] at hcell
  have key := tz64_key x _ hx h0 hlow
  have hx0 : ((x : Int) == 0) = false := by simp; omega
  obtain ⟨k, hkk⟩ : ∃ k, Lib.ctz 64 x = k := ⟨_, rfl⟩
  rw [hkk] at hk hcell key hi ⊢
  obtain ⟨idx, hidx⟩ : ∃ idx, 2 ^ k * 285870213051353865 % 18446744073709551616 / 288230376151711744 = idx := ⟨_, rfl⟩
  rw [hidx] at hcell key hi
  have hi2 : idx < 64 := hi
  clear hidx hkk htab hlow hT hi hx
  go_enter Tryd.func20, Tryd.ntmps20
  go_wp2_with (simp only [key])
  go_ret
  exact ⟨rfl, rfl⟩

theorem isB_hit {n : Nat} (h : hit n) : isB n = false := by unfold isB; rw [hitB_true h, if_pos rfl]
theorem isB_low {n : Nat} (h : ¬ hit n) (hn : n < 998001) : isB n = true := by unfold isB; rw [hitB_false h, if_neg (by simp), if_pos hn]
theorem isB_high {n : Nat} (h : ¬ hit n) (hn : 998001 ≤ n) : isB n = mrAll n := by unfold isB; rw [hitB_false h, if_neg (by simp), if_neg (by omega)]
/-- below p all is looked at, and n is above their squares -/
def Tried (n p : Nat) : Prop := ∀ d, 2 ≤ d → d < p → d * d ≤ n ∧ ¬ d ∣ n
theorem Tried.no_hit {n p : Nat} (h : Tried n p) (hp : n < p * p) : ¬ hit n := by
  rintro ⟨d, h1, _, h3, h4⟩
  rcases Nat.lt_or_ge d p with h5 | h5
  · exact (h d h1 h5).2 h4
  · have := Nat.mul_le_mul h5 h5
    omega
theorem Tried.all {n : Nat} (h : Tried n 1000) : ¬ hit n ∧ 998001 ≤ n := by
  refine ⟨?_, (h 999 (by omega) (by omega)).1⟩
  rintro ⟨d, h1, h2, _, h4⟩
  exact (h d h1 h2).2 h4
theorem Tried.next {n p : Nat} (h : Tried n p) (h1 : p * p ≤ n) (h2 : n % p ≠ 0) : Tried n (p + 1) := by
  intro d h3 h4
  rcases Nat.lt_or_ge d p with h5 | h5
  · exact h d h3 h5
  · have : d = p := by omega
    subst this
    exact ⟨h1, fun hd => h2 (Nat.mod_eq_zero_of_dvd hd)⟩

theorem bases_cell (w : World) (i k : Nat) {a : Nat} (h : bases[i]? = some a) : ((w.alloc (.cells #[.int .i64 2, .int .i64 3, .int .i64 5, .int .i64 7, .int .i64 11, .int .i64 13, .int .i64 17, .int .i64 19, .int .i64 23, .int .i64 29, .int .i64 31, .int .i64 37] 3)).drewN k).cell? ⟨w.heap.size, i, none⟩ = some (.int .i64 a) := by
  have hb : ((w.alloc (.cells #[.int .i64 2, .int .i64 3, .int .i64 5, .int .i64 7, .int .i64 11, .int .i64 13, .int .i64 17, .int .i64 19, .int .i64 23, .int .i64 29, .int .i64 31, .int .i64 37] 3)).drewN k).heap[w.heap.size]? = some (.cells #[.int .i64 2, .int .i64 3, .int .i64 5, .int .i64 7, .int .i64 11, .int .i64 13, .int .i64 17, .int .i64 19, .int .i64 23, .int .i64 29, .int .i64 31, .int .i64 37] 3 (0, 0)) := by
    show (w.heap.push _)[w.heap.size]? = _
    simp
  generalize ((w.alloc (.cells #[.int .i64 2, .int .i64 3, .int .i64 5, .int .i64 7, .int .i64 11, .int .i64 13, .int .i64 17, .int .i64 19, .int .i64 23, .int .i64 29, .int .i64 31, .int .i64 37] 3)).drewN k) = W at hb
  have hv : (#[.int .i64 2, .int .i64 3, .int .i64 5, .int .i64 7, .int .i64 11, .int .i64 13, .int .i64 17, .int .i64 19, .int .i64 23, .int .i64 29, .int .i64 31, .int .i64 37] : Array Value) = (bases.map fun a : Nat => Value.int .i64 (a : Int)).toArray := rfl
  rw [hv] at hb
  simp [World.cell?, hb, h]
theorem bases_bound {i a : Nat} (h : bases[i]? = some a) : 2 ≤ a ∧ a ≤ 37 := by
  have : ∀ a ∈ bases, 2 ≤ a ∧ a ≤ 37 := by decide
  exact this a (List.mem_of_getElem? h)
theorem bases_next {Q : Nat → Prop} {i a : Nat} (h : bases[i]? = some a) (hq : ∀ b ∈ bases.take i, Q b) : Q a → ∀ b ∈ bases.take (i + 1), Q b := by
  intro ha b hb
  obtain ⟨hi, rfl⟩ := List.getElem?_eq_some_iff.1 h
  rw [List.take_succ_eq_append_getElem hi, List.mem_append] at hb
  rcases hb with hb | hb
  · exact hq b hb
  · simp at hb; subst hb; exact ha
theorem bases_bad {Q : Nat → Bool} {i a : Nat} (h : bases[i]? = some a) : Q a = false → bases.all Q = false := by
  intro ha
  rw [List.all_eq_false]
  exact ⟨a, List.mem_of_getElem? h, by rw [ha]; simp⟩

set_option maxRecDepth 100000 in
set_option maxHeartbeats 6400000 in
theorem is_any (n : Nat) (w : World) (h2 : 2 ≤ n) (hn : n ≤ 1000000000000000000) (hT : TabW w) :
    Calls Tryd.prog 12 #[.int .i64 n] w fun e w' => e = .returned (.bool (isB n)) ∧ Below w.heap.size w w' := by
  have HT := hide hT
  clear hT
  go_enter Tryd.func12, Tryd.ntmps12
  go_wp2_with fail
  go_step3
  go_wp2_with fail
  go_loop [2, 3] (fun _ x => ∃ p : Nat, x = .int .i64 p ∧ 2 ≤ p ∧ p ≤ 1000 ∧ Hid (Tried n p)) (fun _ x => 1000 - (intOf x).toNat)
  case atStart => exact ⟨2, rfl, by omega, by omega, fun d h1 h2 => by omega⟩
  case round =>
    obtain ⟨p, rfl, hp1, hp2, HP⟩ := hrel
    by_cases hp : p < 1000
    · have hpp : (p : Int) * (p : Int) = ((p * p : Nat) : Int) := by simp
      have hpb : p * p ≤ 999 * 999 := Nat.mul_le_mul (by omega) (by omega)
      have hb1 : (p : Int) * (p : Int) ≤ 998001 := by omega
      have hb2 : 0 ≤ (p : Int) * (p : Int) := by omega
      have e1 : (n : Int) % (p : Int) = ((n % p : Nat) : Int) := by simp
      have hp0 : ¬ (p : Int) = 0 := by omega
      by_cases h1 : n < p * p
      · have HE := hide (isB_low (HP.out.no_hit h1) (by omega))
        have q1 : decide ((n : Int) < (p : Int) * (p : Int)) = true := by rw [decide_eq_true_eq]; omega
        have q2 : decide (1 < (n : Int)) = true := by rw [decide_eq_true_eq]; omega
        clear hpp hpb h1 e1
        go_wp2_with fail
        try rw [Exit.noGoto_ret]
        go_ret
        exact ⟨by rw [HE.out]; rfl, Below.refl _ _⟩
      · have q1 : decide ((n : Int) < (p : Int) * (p : Int)) = false := by rw [decide_eq_false_iff_not]; omega
        by_cases h3 : n % p = 0
        · have HE := hide (isB_hit (n := n) ⟨p, hp1, by omega, by omega, Nat.dvd_of_mod_eq_zero h3⟩)
          have q2 : (n : Int) % (p : Int) = 0 := by omega
          clear hpp hpb h1 h3 e1
          go_wp2_with fail
          try rw [Exit.noGoto_ret]
          go_ret
          exact ⟨by rw [HE.out]; rfl, Below.refl _ _⟩
        · have HN := hide (HP.out.next (by omega) h3)
          have q2 : ((n : Int) % (p : Int) == 0) = false := by rw [beq_eq_false_iff_ne]; omega
          clear hpp hpb h1 h3 e1
          go_wp2_with fail
          exact ⟨⟨p + 1, by simp, by omega, by omega, HN⟩, by simp [intOf]; omega⟩
    · obtain rfl : p = 1000 := by omega
      obtain ⟨hnh, hnb⟩ := HP.out.all
      have HB := hide (isB_high hnh hnb)
      have hodd : n % 2 = 1 := by
        rcases Nat.mod_two_eq_zero_or_one n with h | h
        · exact (hnh ⟨2, by omega, by omega, by omega, Nat.dvd_of_mod_eq_zero h⟩).elim
        · exact h
      obtain ⟨t1, t2, t3⟩ := tz_spec h2 (by omega)
      have CT := fun W (hW : TabW W) => hide (tz_any (n - 1) W (by omega) (by omega) hW)
      have q0 : ((n - 1 : Nat) : Int) = (n : Int) - 1 := by omega
      rw [q0] at CT
      have htz : Lib.ctz 64 (n - 1) = tz n := rfl
      rw [htz] at CT
      have HBM : Hid (mrAll n = bases.all (mrB n ((n - 1) / 2 ^ tz n) (tz n))) := rfl
      have HT2 := hide (HT.out.alloc (.cells #[.int .i64 2, .int .i64 3, .int .i64 5, .int .i64 7, .int .i64 11, .int .i64 13, .int .i64 17, .int .i64 19, .int .i64 23, .int .i64 29, .int .i64 31, .int .i64 37] 3))
      obtain ⟨d, hd⟩ : ∃ d, (n - 1) / 2 ^ tz n = d := ⟨_, rfl⟩
      obtain ⟨s, hs⟩ : ∃ s, tz n = s := ⟨_, rfl⟩
      rw [hd, hs] at HBM
      rw [hs] at CT t3 hd
      have hdn : d ≤ n := by rw [← hd]; exact Nat.le_trans (Nat.div_le_self _ _) (by omega)
      have hs1 : 1 ≤ s := by
        rcases Nat.eq_zero_or_pos s with h | h
        · rw [hs, h] at t1 t2
          simp at t2
          omega
        · exact h
      have e3 : ((n : Int) - 1) / 2 ^ s = (d : Int) := by
        rw [← hd, Int.natCast_ediv, q0, Int.natCast_pow]; rfl
      clear hnh hp t1 t2 hs hd htz q0 hodd
      go_wp2_with fail
      refine (CT _ HT.out).out.mono ?_
      rintro e w1 ⟨rfl, rfl⟩
      go_wp2_with fail
      go_step3
      go_wp2_with fail
      clear e3 CT
      go_loopg [7, 8, 34] 12 (fun N _ _ y wr => ∃ i k : Nat, N = 12 - i ∧ i ≤ 12 ∧ y = .int .i64 i ∧ wr = (w.alloc (.cells #[.int .i64 2, .int .i64 3, .int .i64 5, .int .i64 7, .int .i64 11, .int .i64 13, .int .i64 17, .int .i64 19, .int .i64 23, .int .i64 29, .int .i64 31, .int .i64 37] 3)).drewN k ∧ Hid (∀ a ∈ bases.take i, mrB n d s a = true))
      case atStart => exact ⟨0, 0, rfl, by omega, rfl, rfl, fun a ha => by simp at ha⟩
      case round =>
        obtain ⟨i, k, rfl, hi, rfl, rfl, HI⟩ := hrel
        by_cases hi2 : i < 12
        · obtain ⟨a, hab⟩ : ∃ a, bases[i]? = some a := ⟨bases[i]'(by simpa [bases] using hi2), List.getElem?_eq_getElem _⟩
          have hcell := bases_cell w i k hab
          have hab2 := bases_bound hab
          have CR := fun W => hide (raise_any (a : Int) n d W (by omega) (by omega) (by omega) (by omega) (by omega))
          have ex : (a : Int) ^ d % n = ((a ^ d % n : Nat) : Int) := by simp
          rw [ex] at CR
          have hxn : a ^ d % n < n := Nat.mod_lt _ (by omega)
          have HM : Hid (mrB n d s a = if a ^ d % n = 1 ∨ a ^ d % n = n - 1 then true else sqB n (s - 1) (a ^ d % n)) := rfl
          have HNX := hide (bases_next (Q := fun a => mrB n d s a = true) hab HI.out)
          have HBAD := hide (bases_bad (Q := mrB n d s) hab)
          obtain ⟨x, hx⟩ : ∃ x, a ^ d % n = x := ⟨_, rfl⟩
          rw [hx] at CR hxn HM
          clear ex hx hab
          have hg0 : w.heap.size < (w.alloc (.cells #[.int .i64 2, .int .i64 3, .int .i64 5, .int .i64 7, .int .i64 11, .int .i64 13, .int .i64 17, .int .i64 19, .int .i64 23, .int .i64 29, .int .i64 31, .int .i64 37] 3)).heap.size := by simp
          go_wp2_with fail
          refine (CR _).out.mono ?_
          rintro e w1 ⟨rfl, k2, rfl⟩
          by_cases h1 : x = 1 ∨ x = n - 1
          · have HM2 : Hid (mrB n d s a = true) := by unfold Hid; rw [HM.out, if_pos h1]
            have q1 : ((x : Int) == 1) = true ∨ ((x : Int) == 1) = false ∧ ((x : Int) == (n : Int) - 1) = true := by
              simp only [beq_iff_eq, beq_eq_false_iff_ne, ne_eq]; omega
            clear h1 hxn hcell
            rcases q1 with q1 | ⟨q1, q2⟩
            all_goals
              go_wp2_with fail
              go_roundg (12 - (i + 1))
              case measure => omega
              case rel => exact ⟨i + 1, _, rfl, by omega, by simp, rfl, HNX.out HM2.out⟩
          · have HM2 : Hid (mrB n d s a = sqB n (s - 1) x) := by unfold Hid; rw [HM.out, if_neg h1]
            have q1 : ((x : Int) == 1) = false := by simp only [beq_eq_false_iff_ne, ne_eq]; omega
            have q2 : ((x : Int) == (n : Int) - 1) = false := by simp only [beq_eq_false_iff_ne, ne_eq]; omega
            clear h1 hcell
            have e4 : ((s - 1 : Nat) : Int) = (s : Int) - 1 := by omega
            go_wp2_with fail
            go_loopg [8, 52] (s - 1) (fun N v y wr => ∃ j k3 x : Nat, N = s - 1 - j ∧ j ≤ s - 1 ∧ y = .int .i64 j ∧ v = .int .i64 x ∧ x < n ∧ wr = (w.alloc (.cells #[.int .i64 2, .int .i64 3, .int .i64 5, .int .i64 7, .int .i64 11, .int .i64 13, .int .i64 17, .int .i64 19, .int .i64 23, .int .i64 29, .int .i64 31, .int .i64 37] 3)).drewN k3 ∧ Hid (mrB n d s a = sqB n (s - 1 - j) x))
            case atStart => exact ⟨0, _, x, rfl, by omega, rfl, rfl, hxn, rfl, HM2⟩
            case round =>
              clear HM2 HM CR q1 q2 hxn
              obtain ⟨j, k3, x, rfl, hj, rfl, rfl, hxn, rfl, HM⟩ := hrel
              by_cases hj2 : j < s - 1
              · have CT := fun W => hide (times_any (x : Int) (x : Int) n W (by omega) (by omega) (by omega) (by omega) (by omega) (by omega))
                have ex : (x : Int) * (x : Int) % n = ((x * x % n : Nat) : Int) := by simp
                rw [ex] at CT
                have hyn : x * x % n < n := Nat.mod_lt _ (by omega)
                have HS : Hid (mrB n d s a = if x * x % n = n - 1 then true else sqB n (s - 1 - (j + 1)) (x * x % n)) := by
                  unfold Hid
                  rw [HM.out, show s - 1 - j = (s - 1 - (j + 1)) + 1 from by omega, sqB]
                obtain ⟨y, hy⟩ : ∃ y, x * x % n = y := ⟨_, rfl⟩
                rw [hy] at CT hyn HS
                clear ex hy
                have q3 : decide ((j : Int) < (s : Int) - 1) = true := by rw [decide_eq_true_eq]; omega
                go_wp2_with fail
                refine (CT _).out.mono ?_
                rintro e w1 ⟨rfl, k4, rfl⟩
                by_cases hy : y = n - 1
                · have HT3 : Hid (mrB n d s a = true) := by unfold Hid; rw [HS.out, if_pos hy]
                  have q4 : ((y : Int) == (n : Int) - 1) = true := by rw [beq_iff_eq]; omega
                  clear hy
                  go_wp2_with fail
                  go_roundg (12 - (i + 1))
                  case measure => omega
                  case rel => exact ⟨i + 1, _, rfl, by omega, by simp, rfl, HNX.out HT3.out⟩
                · have HT3 : Hid (mrB n d s a = sqB n (s - 1 - (j + 1)) y) := by unfold Hid; rw [HS.out, if_neg hy]
                  have q4 : ((y : Int) == (n : Int) - 1) = false := by rw [beq_eq_false_iff_ne]; omega
                  clear hy
                  go_wp2_with fail
                  go_roundg (s - 1 - (j + 1))
                  case measure => omega
                  case rel => exact ⟨j + 1, _, y, rfl, by omega, by simp, rfl, hyn, rfl, HT3⟩
              · obtain rfl : j = s - 1 := by omega
                have HF : Hid (isB n = false) := by
                  unfold Hid
                  rw [HB.out, HBM.out]
                  refine HBAD.out ?_
                  rw [HM.out, Nat.sub_self]; rfl
                have q3 : decide (((s - 1 : Nat) : Int) < (s : Int) - 1) = false := by rw [decide_eq_false_iff_not]; omega
                go_wp2_with fail
                try rw [Exit.noGoto_ret]
                go_ret
                exact ⟨by rw [HF.out]; rfl, below_drewN ((Below.refl _ _).alloc (Nat.le_refl _) _) k3⟩
        · obtain rfl : i = 12 := by omega
          have HA : Hid (isB n = true) := by
            unfold Hid
            rw [HB.out, HBM.out, List.all_eq_true]
            exact HI.out
          go_wp2_with fail
          try rw [Exit.noGoto_ret]
          go_ret
          exact ⟨by rw [HA.out]; rfl, below_drewN ((Below.refl _ _).alloc (Nat.le_refl _) _) k⟩
end Go.Proofs.YtpppnaljndhjcaaDoor
