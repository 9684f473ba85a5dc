/- The walks of package whole's plain functions: Ok, fault, Mod, Divisor, extended, Look; each under the bounds of its arguments. -/
import Derived.Test.YtkfjjljdhfjpbaaKBase
namespace Go.Proofs.Ytkfjjljdhfjpbaa
open Go.RowKit

theorem tmod_fix (a m : Int) (hm : 0 < m) : (if a.tmod m < 0 then a.tmod m + m else a.tmod m) = a % m := by
  have h1 := Int.tmod_eq_emod (a := a) (b := m)
  have h2 := Int.emod_nonneg a (b := m) (by omega)
  have h3 := Int.emod_lt_of_pos a hm
  rw [h1]
  split <;> split <;> omega
theorem tmod_neg_fix {a m : Int} (hm : 0 < m) (h : a.tmod m < 0) : a.tmod m + m = a % m := by
  rw [← tmod_fix a m hm, if_pos h]
theorem tmod_pos_fix {a m : Int} (hm : 0 < m) (h : 0 ≤ a.tmod m) : a.tmod m = a % m := by
  rw [← tmod_fix a m hm, if_neg (by omega)]

set_option maxRecDepth 100000 in
set_option maxHeartbeats 400000 in
theorem mod_any (a m : Int) (w : World) (hm : 0 < m) (hm2 : m ≤ 9223372036854775807) (_ha : -9223372036854775808 ≤ a) (_ha2 : a ≤ 9223372036854775807) :
    Calls Try.prog 20 #[.int .i64 a, .int .i64 m] w fun e w' => e = .returned (.int .i64 (a % m)) ∧ w = w' := by
  have h1 := Int.lt_tmod_of_pos a hm
  have h2 := Int.tmod_lt_of_pos a hm
  go_enter Try.func20, Try.ntmps20
  go_wp2
  · go_ret
    exact ⟨ret_int (tmod_neg_fix hm (by assumption)), rfl⟩
  · go_ret
    exact ⟨ret_int (tmod_pos_fix hm (by assumption)), rfl⟩

/-- what whole.Ok says -/
def okB (n : Int) : Bool := decide (-1000000000000000000 ≤ n ∧ n ≤ 1000000000000000000)

set_option maxRecDepth 100000 in
set_option maxHeartbeats 400000 in
theorem ok_yes (n : Int) (w : World) (h : okB n = true) :
    Calls Try.prog 60 #[.int .i64 n] w fun e w' => e = .returned (.bool true) ∧ w = w' := by
  have h1 : -1000000000000000000 ≤ n := by unfold okB at h; simp at h; omega
  have h2 : n ≤ 1000000000000000000 := by unfold okB at h; simp at h; omega
  clear h
  go_enter Try.func60, Try.ntmps60
  go_wp2
  go_ret
  exact ⟨rfl, rfl⟩

set_option maxRecDepth 100000 in
set_option maxHeartbeats 400000 in
theorem ok_no (n : Int) (w : World) (h : okB n = false) :
    Calls Try.prog 60 #[.int .i64 n] w fun e w' => e = .returned (.bool false) ∧ w = w' := by
  have h1 : n < -1000000000000000000 ∨ 1000000000000000000 < n := by unfold okB at h; simp at h; omega
  clear h
  rcases h1 with h1 | h1
  · have h2 : decide (-1000000000000000000 ≤ n) = false := by simp; omega
    go_enter Try.func60, Try.ntmps60
    go_wp2
    go_ret
    exact ⟨rfl, rfl⟩
  · have h2 : -1000000000000000000 ≤ n := by omega
    have h3 : decide (n ≤ 1000000000000000000) = false := by simp; omega
    go_enter Try.func60, Try.ntmps60
    go_wp2
    go_ret
    exact ⟨by simp, rfl⟩

theorem ok_any (n : Int) (w : World) :
    Calls Try.prog 60 #[.int .i64 n] w fun e w' => e = .returned (.bool (okB n)) ∧ w = w' := by
  cases h : okB n
  · exact ok_no n w h
  · exact ok_yes n w h

set_option maxRecDepth 100000 in
set_option maxHeartbeats 400000 in
theorem fault_any (c n : Int) (w : World) :
    Calls Try.prog 61 #[.int .i64 c, .int .i64 n] w fun e w' => e = .returned (.agg #[.int .i64 c, .int .i64 n]) ∧ Below w.heap.size w w' := by
  go_enter Try.func61, Try.ntmps61
  go_wp2
  exact bodyPost_ret (v := .agg #[.int .i64 c, .int .i64 n]) (by simp [results, Try.results61, go_sem]) rfl ⟨rfl, (Below.refl _ _).alloc (Nat.le_refl _) _⟩

set_option maxRecDepth 100000 in
set_option maxHeartbeats 400000 in
theorem divisor_any (a b : Int) (w : World) (ha : -9223372036854775807 ≤ a) (ha2 : a ≤ 9223372036854775807) (hb : -9223372036854775807 ≤ b) (hb2 : b ≤ 9223372036854775807) :
    Calls Try.prog 19 #[.int .i64 a, .int .i64 b] w fun e w' => e = .returned (.int .i64 (Int.gcd a b)) ∧ ∃ n, w' = w.drewN n := by
  go_enter Try.func19, Try.ntmps19
  go_wp2
  go_loopw [0, 1] (fun x y wr => ∃ (p q : Int) (n : Nat), -9223372036854775807 ≤ p ∧ p ≤ 9223372036854775807 ∧ -9223372036854775807 ≤ q ∧ q ≤ 9223372036854775807 ∧ Int.gcd p q = Int.gcd a b ∧ x = .int .i64 p ∧ y = .int .i64 q ∧ wr = w.drewN n) (fun _ y _ => (intOf y).natAbs)
  case atStart => exact ⟨a, b, 0, by omega, by omega, by omega, by omega, rfl, rfl, rfl, rfl⟩
  case round =>
    obtain ⟨p, q, n, hp1, hp2, hq1, hq2, hg, rfl, rfl, rfl⟩ := hrel
    have HG := Lib.hid hg
    clear hg
    by_cases hq : q = 0
    · subst hq
      have hg := HG.out
      rw [Int.gcd_zero_right] at hg
      have HH := Lib.hid hg
      clear hg
      go_wp2
      · go_ret
        exact ⟨ret_int (by have := HH.out; omega), n, rfl⟩
      · go_ret
        exact ⟨ret_int (by have := HH.out; omega), n, rfl⟩
    · have hq' : (q != 0) = true := by simpa using hq
      have hlt := Int.natAbs_tmod p q
      have hlt2 := Nat.mod_lt p.natAbs (y := q.natAbs) (by omega)
      have HL : Hid ((p.tmod q).natAbs < q.natAbs) := by unfold Hid; omega
      have hgt : Hid (Int.gcd q (p.tmod q) = Int.gcd a b) := by unfold Hid; rw [Ar.gcd_tmod]; exact HG.out
      clear hlt hlt2
      go_wp2
      go_quiet (fail)
      go_wp2
      go_roundw
      case rel => exact ⟨q, p.tmod q, n + nq, hq1, hq2, by have := HL.out; omega, by have := HL.out; omega, hgt.out, rfl, rfl, World.drewN_drewN _ _ _⟩
      case measure => simpa [intOf] using HL.out
end Go.Proofs.Ytkfjjljdhfjpbaa
