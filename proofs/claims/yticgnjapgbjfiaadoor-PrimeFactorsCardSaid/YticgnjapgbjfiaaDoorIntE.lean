/- The walks of arithmeticabig's Int: Uint64, Int64. Each under a bound on the numbers. -/
import Derived.Test.YticgnjapgbjfiaaDoorIntD
namespace Go.Proofs.YticgnjapgbjfiaaDoor
open Go.RowKit

set_option maxRecDepth 100000 in
set_option maxHeartbeats 800000 in
theorem uint64_int (p : Nat) (X : Int) (w : World) (hx : IntAt w p X) (hxl : X.natAbs < lim) :
    Calls Tryd.prog 94 #[.pointer (some ⟨p, 0, none⟩)] w fun e w' => e = .returned (.int .u64 ((X.natAbs % 18446744073709551616 : Nat) : Int)) ∧ w = w' := by
  obtain ⟨xn, xv, x0, x1, hxv, hxs⟩ := hx.cells
  obtain ⟨A, n, c, l, rfl, hl, hnl, hv, hn⟩ := hxv.open_ hxl
  obtain ⟨x, hX⟩ : ∃ x, X.natAbs = x := ⟨_, rfl⟩
  rw [hX] at hv ⊢
  have HL := hide hl
  have HV := hide hv
  clear hl hnl hv hxv hxl hX hxs hx
  by_cases h0 : n = 0
  · subst h0
    have e0 : Hid (x % 18446744073709551616 = 0) := by
      have := HL.out.len
      have e := List.eq_nil_of_length_eq_zero this
      have h := HV.out
      rw [e] at h
      unfold Hid
      rw [← h]; rfl
    go_enter Tryd.func94, Tryd.ntmps94
    go_wp2
    go_ret
    exact ⟨ret_int (by rw [e0.out]; rfl), rfl⟩
  · obtain ⟨ad, p', rfl, hp, hp1, hpb, hpc⟩ := HL.out.at_ (k := 0) (by omega)
    rw [addr_zero] at hpc
    have HP := hide hp
    clear hp
    have h1 : decide (0 < n) = true := by simp; omega
    by_cases h2 : n = 1
    · subst h2
      have e0 : Hid (x % 18446744073709551616 = p') := by
        have h := HV.out
        have e : l = [p'] := by
          have := HL.out.len
          have hh := HP.out
          match l, this with
          | [a], _ => simp at hh; rw [hh]
        unfold Hid
        rw [← h, e]
        simp only [wv]; omega
      go_enter Tryd.func94, Tryd.ntmps94
      go_wp2
      go_ret
      exact ⟨ret_int (by rw [e0.out]), rfl⟩
    · obtain ⟨bd, q, hbd, hq, hq1, hqb, hqc⟩ := HL.out.at_ (k := 1) (by omega)
      injection hbd with hbd
      subst hbd
      have h3 : decide ((1 : Int) < (n : Int)) = true := by rw [decide_eq_true_eq]; omega
      rw [addr_pos _ 1 (by omega)] at hqc
      have e0 : Hid (x % 18446744073709551616 = p' + 4294967296 * q) := by
        have h := HV.out
        have hm := wv_mod l 2 (by rw [HL.out.len]; omega) HL.out.small
        have e : l.take 2 = [p', q] := by
          have hh := HP.out
          have := HL.out.len
          match l, hh, hq with
          | a :: b :: r, hh, hq => simp at hh hq; simp [hh, hq]
          | [a], _, hq => simp at hq
        rw [e, h] at hm
        unfold Hid
        have e2 : (4294967296 ^ 2 : Nat) = 18446744073709551616 := rfl
        rw [e2] at hm
        rw [hm]
        simp [wv]
      have HQ := hide hq
      clear hq
      go_enter Tryd.func94, Tryd.ntmps94
      go_wp2
      go_ret
      exact ⟨ret_int (by rw [e0.out, or_shl32 hp1 hq1]), rfl⟩

set_option maxRecDepth 100000 in
set_option maxHeartbeats 800000 in
theorem int64_int (p : Nat) (X : Int) (w : World) (hx : IntAt w p X) (h0 : -9223372036854775808 ≤ X) (h1 : X ≤ 9223372036854775807) :
    Calls Tryd.prog 54 #[.pointer (some ⟨p, 0, none⟩)] w fun e w' => e = .returned (.int .i64 X) ∧ w = w' := by
  obtain ⟨xn, xv, x0, x1, hxv, hxs⟩ := hx.cells
  have C := hide (uint64_int p X w hx (lim_u64 (by omega)))
  rw [show X.natAbs % 18446744073709551616 = X.natAbs from Nat.mod_eq_of_lt (by omega)] at C
  by_cases hneg : X < 0
  · have q2 : xn = true := hxs.2 hneg
    subst q2
    obtain ⟨x, ex⟩ : ∃ x, X.natAbs = x := ⟨_, rfl⟩
    have HE : Hid (wrap64 (-(wrap64 (x : Int))) = X) := by unfold Hid wrap64; omega
    rw [ex] at C
    clear ex hxv hxs hx h0 h1 hneg
    go_enter Tryd.func54, Tryd.ntmps54
    go_wp2_with fail
    refine C.out.mono ?_
    rintro e w1 ⟨rfl, rfl⟩
    go_wp2_with fail
    go_ret
    exact ⟨ret_int HE.out, rfl⟩
  · have q2 : xn = false := by cases xn; rfl; have := hxs.1 rfl; omega
    subst q2
    obtain ⟨x, ex⟩ : ∃ x, X.natAbs = x := ⟨_, rfl⟩
    have HE : Hid (wrap64 (x : Int) = X) := by unfold Hid wrap64; omega
    rw [ex] at C
    clear ex hxv hxs hx h0 h1 hneg
    go_enter Tryd.func54, Tryd.ntmps54
    go_wp2_with fail
    refine C.out.mono ?_
    rintro e w1 ⟨rfl, rfl⟩
    go_wp2_with fail
    go_ret
    exact ⟨ret_int HE.out, rfl⟩
end Go.Proofs.YticgnjapgbjfiaaDoor
