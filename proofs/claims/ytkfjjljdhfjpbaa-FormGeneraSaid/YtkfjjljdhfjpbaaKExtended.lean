/- The walk of whole.extended. -/
import Derived.Test.YtkfjjljdhfjpbaaKWhole
import Derived.Test.YtkfjjljdhfjpbaaKArithDiv
namespace Go.Proofs.Ytkfjjljdhfjpbaa
open Go.RowKit

/-- extended's word -/
def RetExt (w : World) (A B : Int) : Ending → World → Prop := fun e w' => ∃ u : Int, e = .returned (.tuple #[.int .i64 (Int.gcd A B), .int .i64 u]) ∧ B ∣ (Int.gcd A B : Int) - u * A ∧ u.natAbs ≤ max 1 B.natAbs ∧ (B = 0 → u = if A < 0 then -1 else 1) ∧ w' = w

set_option maxRecDepth 100000 in
set_option maxHeartbeats 800000 in
theorem extended_any (A B : Int) (w : World) (hA : A.natAbs ≤ 1000000000000000000) (hB : B.natAbs ≤ 1000000000000000000) :
    Calls Try.prog 55 #[.int .i64 A, .int .i64 B] w (RetExt w A B) := by
  have E0 := hide (Ar.Ext.start A B)
  have HA := hide hA
  have HB := hide hB
  clear hA hB
  go_enter Try.func55, Try.ntmps55
  go_wp2
  go_loopw [0, 1, 6, 7] (fun x y s t wr => ∃ p q u v : Int, x = .int .i64 p ∧ y = .int .i64 q ∧ s = .int .i64 u ∧ t = .int .i64 v ∧ Hid (Ar.Ext A B p q u v ∧ (B = 0 → p = A ∧ q = 0 ∧ u = 1)) ∧ wr = w) (fun _ y _ _ _ => (intOf y).natAbs)
  case atStart => exact ⟨A, B, 1, 0, rfl, rfl, rfl, rfl, ⟨E0.out, fun h => ⟨rfl, h, rfl⟩⟩, rfl⟩
  case round =>
    obtain ⟨p, q, u, v, rfl, rfl, rfl, rfl, HE, rfl⟩ := hrel
    have h1 := HA.out
    have h2 := HB.out
    by_cases hq : q = 0
    · subst hq
      obtain ⟨hE, h0⟩ := HE.out
      have hf := hE.fin
      have hu := hE.ule
      by_cases hp : p < 0
      · have e1 : IntKind.i64.wrap (-p) = -p := by have := hE.ale; rw [IntKind.wrap_i64]; omega
        have e2 : IntKind.i64.wrap (-u) = -u := by rw [IntKind.wrap_i64]; omega
        have HR : Hid (RetExt wr A B (.returned (.tuple #[.int .i64 (-p), .int .i64 (-u)])) wr) := by
          refine ⟨-u, by rw [show -p = (Int.gcd A B : Int) from by omega], ?_, by omega, fun h => ?_, rfl⟩
          · have e : (Int.gcd A B : Int) - -u * A = -(p - u * A) := by rw [← hf.1]; rw [show (p.natAbs : Int) = -p from by omega]; grind
            rw [e]; exact Int.dvd_neg.2 hf.2
          · obtain ⟨a1, _, a3⟩ := h0 h
            rw [if_pos (by omega), a3]
        clear h1 h2 hE h0 hf hu HA HB HE
        go_wp2
        go_ret2
        exact HR.out
      · have HR : Hid (RetExt wr A B (.returned (.tuple #[.int .i64 p, .int .i64 u])) wr) := by
          refine ⟨u, by rw [show p = (Int.gcd A B : Int) from by omega], ?_, by omega, fun h => ?_, rfl⟩
          · have e : (Int.gcd A B : Int) - u * A = p - u * A := by rw [← hf.1]; omega
            rw [e]; exact hf.2
          · obtain ⟨a1, _, a3⟩ := h0 h
            rw [if_neg (by omega), a3]
        clear h1 h2 hE h0 hf hu HA HB HE
        go_wp2
        go_ret2
        exact HR.out
    · have hq' : (q != 0) = true := by simpa using hq
      obtain ⟨hE, h0⟩ := HE.out
      obtain ⟨hS, hlt, hb1, hb2⟩ := hE.step hq
      have h0' : B = 0 → False := fun h => hq (h0 h).2.1
      have HS := hide hS
      have HL := hide hlt
      have HB0 := hide h0'
      have e1 : IntKind.i64.wrap (p.tdiv q) = p.tdiv q := by
        have : (p.tdiv q).natAbs = p.natAbs / q.natAbs := Int.natAbs_tdiv p q
        have h3 := Nat.div_le_self p.natAbs q.natAbs
        generalize p.natAbs / q.natAbs = z at this h3
        have := hE.ale
        rw [IntKind.wrap_i64]; omega
      have e2 : IntKind.i64.wrap (p.tdiv q * q) = p.tdiv q * q := by have := hE.ale; rw [IntKind.wrap_i64]; omega
      have e3 : IntKind.i64.wrap (p - p.tdiv q * q) = p - p.tdiv q * q := by have := hE.ble; rw [IntKind.wrap_i64]; omega
      have e4 : IntKind.i64.wrap (p.tdiv q * v) = p.tdiv q * v := by rw [IntKind.wrap_i64]; omega
      have e5 : IntKind.i64.wrap (u - p.tdiv q * v) = u - p.tdiv q * v := by have := hS.vle; rw [IntKind.wrap_i64]; omega
      clear h1 h2 hE h0 hS hlt hb1 hb2 h0' HE
      go_wp2
      go_roundw
      case rel => exact ⟨q, p - p.tdiv q * q, v, u - p.tdiv q * v, rfl, rfl, rfl, rfl, ⟨HS.out, fun h => (HB0.out h).elim⟩, trivial⟩
      case measure => simpa [intOf] using HL.out
end Go.Proofs.Ytkfjjljdhfjpbaa
