/- The round of arithmeticabig's long division, walked by itself: one digit. Under the set-up's facts. (Printed by gen_divround.py.) -/
import Derived.Test.YtgocnjklpafabaaDivA
namespace Go.Proofs.Ytgocnjklpafabaa
open Go.RowKit

/-- what the division knows from its set-up on -/
structure DvSet (x y s n c : Nat) (v : List Nat) (N : Nat) (top next : Nat) : Prop where
  s32 : s < 32
  len : v.length = n
  val : wv v = y * 2 ^ s
  small : ∀ (j d : Nat), v[j]? = some d → d < 4294967296
  attop : v[n - 1]? = some top
  atnext : v[n - 2]? = some next
  topge : 2147483648 ≤ top
  n2 : 2 ≤ n
  nN : n + 2 ≤ N
  N1 : N ≤ 1002
  y0 : 0 < y

def loopOf : Code → Option Code
  | .loop c => some c
  | .seq a b => match loopOf a with
    | some c => some c
    | none => loopOf b
  | .block _ c => loopOf c
  | .scope c => loopOf c
  | .cond _ a b => match loopOf a with
    | some c => some c
    | none => loopOf b
  | _ => none
theorem ms_form1 {o c T b d : Nat} (ho : o < 4294967296) (hd : d ≤ 1) :
    IntKind.u64.wrap (IntKind.u64.wrap ((o : Int) - ((c : Int) + (T : Int) * (b : Int)) % 4294967296) - (d : Int)) % 4294967296 = (((o + 8589934592 - (c + T * b) % 4294967296 - d) % 4294967296 : Nat) : Int) := by
  rw [← Int.natCast_mul]
  generalize T * b = z
  rw [IntKind.wrap_u64, IntKind.wrap_u64]; omega
theorem ms_form2 {o c T b d : Nat} (ho : o < 4294967296) (hd : d ≤ 1) :
    IntKind.u64.wrap (IntKind.u64.wrap ((o : Int) - ((c : Int) + (T : Int) * (b : Int)) % 4294967296) - (d : Int)) / 9223372036854775808 = ((if o < (c + T * b) % 4294967296 + d then 1 else 0 : Nat) : Int) := by
  rw [← Int.natCast_mul]
  generalize T * b = z
  rw [IntKind.wrap_u64, IntKind.wrap_u64]; split <;> omega
theorem ms_form3 (c T b : Nat) : ((c : Int) + (T : Int) * (b : Int)) / 4294967296 = (((c + T * b) / 4294967296 : Nat) : Int) := by
  rw [← Int.natCast_mul]; omega
theorem ms_form4 {o c d : Nat} (ho : o < 4294967296) (hc : c < 4294967296) (hd : d ≤ 1) :
    IntKind.u64.wrap (IntKind.u64.wrap ((o : Int) - (c : Int)) - (d : Int)) % 4294967296 = (((o + 8589934592 - c - d) % 4294967296 : Nat) : Int) := by
  rw [IntKind.wrap_u64, IntKind.wrap_u64]; omega
theorem ms_form5 {o c d : Nat} (ho : o < 4294967296) (hc : c < 4294967296) (hd : d ≤ 1) (h : ¬ o < c + d) :
    IntKind.u64.wrap (IntKind.u64.wrap ((o : Int) - (c : Int)) - (d : Int)) / 9223372036854775808 = 0 := by
  rw [IntKind.wrap_u64, IntKind.wrap_u64]; omega
theorem ms_form6 {o c d : Nat} (ho : o < 4294967296) (hc : c < 4294967296) (hd : d ≤ 1) (h : o < c + d) :
    IntKind.u64.wrap (IntKind.u64.wrap ((o : Int) - (c : Int)) - (d : Int)) / 9223372036854775808 = 1 := by
  rw [IntKind.wrap_u64, IntKind.wrap_u64]; omega

theorem ab_form1 (c o b : Nat) : ((c : Int) + ((o : Int) + (b : Int))) % 4294967296 = (((c + (o + b)) % 4294967296 : Nat) : Int) := by omega
theorem ab_form2 (c o b : Nat) : ((c : Int) + ((o : Int) + (b : Int))) / 4294967296 = (((c + (o + b)) / 4294967296 : Nat) : Int) := by omega
theorem ab_form3 (c o : Nat) : ((o : Int) + (c : Int)) % 4294967296 = (((o + c) % 4294967296 : Nat) : Int) := by omega

end Go.Proofs.Ytgocnjklpafabaa

