/- The law CertChecks returns true at whatever certificate (a tree of whatever size and depth that the memory can hold); the table that math/bits reads holds what the card ties. -/
import Derived.Test.YtlchmaiflcnaoaaDoorKCertM
import Derived.Test.YtlchmaiflcnaoaaDoorTie
import Derived.Test.YtlchmaiflcnaoaaDoorCards
import Derived.WalkKit
import Derived.ProofKit
import Derived.OpenShut
import Derived.Below
import Derived.ShutString
import Derived.LaidLaws
import Derived.LaidHandle
import Derived.LaidSub
import Derived.Lib.LaidTab
import Derived.SevenTiedAt
import Derived.Handed
import Derived.SizedLaws
namespace Go.Proofs.YtlchmaiflcnaoaaDoor.certChecks
open Go.ChangeShapes Go.WideShapes Go.ChangeAt Go.RowKit
open Go.ChangeMaps (open_string shut_string)
set_option linter.unusedVariables false      -- a walk need not use every 'w<i>' (that an integer argument fits its kind)

theorem own : ownKnob Tryd.prog.godebug = none := by kernel_rfl
theorem laidOut : laidOutB Tryd.prog = true := by kernel_rfl

theorem gN : Tryd.prog.globalNamed "math/bits.deBruijn64tab" = some 0 := by kernel_rfl
theorem gT : (Tryd.prog.globals[0]?).map (·.type) = some 89 := by kernel_rfl
def zs : List Int := Lib.deBruijn64tab.map Int.ofNat
theorem tab_of_laid {W : World} (h : laidMetH Tryd.prog Rows.certChecksRow.laid W) : TabW W := by
  have h1 : laidMet Tryd.prog [("math/bits.deBruijn64tab", Lib.tabData .u8 zs)] W := (laidMetH_iff.1 h).1
  have h2 : Lib.TabIs Tryd.prog W "math/bits.deBruijn64tab" .u8 zs := Lib.tabIs_of_head gN gT Tryd.underlying89 Tryd.underlying5 (by kernel_rfl) (by kernel_rfl) h1
  have hc : TabAt 0 Lib.deBruijn64tab W := fun j hj => by
    have hz : j < zs.length := by unfold zs; rw [List.length_map]; exact hj
    have := h2.cell gN j hz
    rw [this]
    unfold zs
    simp [List.getD_eq_getElem?_getD, hj]
  refine ⟨hc, ?_⟩
  have := hc 0 (by decide)
  exact World.block_lt_of_cell? W ⟨0, 0, none⟩ this

noncomputable def laidWorld (os : Os) : World :=
  { World.holding Tryd.prog os ⟨#[], #[], []⟩ with heap := (World.holding Tryd.prog os ⟨#[], #[], []⟩).heap.modify 0 fun
      | .cells _ t frozen => .cells (zs.map fun z => Value.int .u8 z).toArray t frozen
      | o => o }
theorem laid_met (os : Os) (args : Array Value) : laidMetH Tryd.prog Rows.certChecksRow.laid ((laidWorld os).forCall (fun _ _ => 0) ⟨#[], args, []⟩).memory :=
  laidMetH_of_parts (laidMet_of_run' 80 (by kernel_rfl) (by kernel_rfl)) (by kernel_rfl)

theorem walk (c : Tree) (s : Value) (w : World) (hs : CAt w w.heap.size c s) (hT : TabW w) :
    Calls Tryd.prog 3 #[.agg #[.int .i64 c.n, .int .i64 c.r, s]] w fun e w' => e = .returned (.bool true) ∧ Below w.heap.size w w' := by
  exact certChecks_any c s w hs hT

set_option maxRecDepth 100000 in
theorem lifted (os : Os) (started : os.Started) (H : Type) (enc : TypeId × Value → H) :
    ReturnsInHanded {} Tryd.checked os 3 .any (fun w args => (Rows.certChecksSpec.pre enc Tryd.prog Tryd.f3 [] false w args ∧ laidMetH Tryd.prog Rows.certChecksRow.laid w) ∧ sizedMet enc Tryd.prog Tryd.f3 (OpenSpec.ofChange Rows.certChecksSpec) false w args)
      (Rows.certChecksSpec.post enc Tryd.prog Tryd.f3 false true false false) := by
  refine returnsInHanded_of_change_and (C := Tryd.checked) (X := fun w _ => laidMetH Tryd.prog Rows.certChecksRow.laid w) (fun _ _ _ hh h => h.of_heap hh) own started (by kernel_rfl) Tryd.func3
    (ChangeSpec.witness_at (enc := enc) (C := Tryd.checked) (os := os) (X := fun w _ => laidMetH Tryd.prog Rows.certChecksRow.laid w) false (laidWorld os) #[.agg #[.int .i64 0, .int .i64 0, .slice none 0 0]] 8 rfl (by kernel_rfl) (by kernel_rfl) (by kernel_rfl) (by kernel_rfl) (by kernel_rfl) (laid_met os _)) ?_
  intro W base args ds gs before hval0 hW hcnd _ hL _
  have hval : ∀ (j : Nat) t v, Tryd.f3.params[j]? = some t → args[j]? = some v → Value.okWide Tryd.prog W .any base t v := hval0
  have hW' := hW
  obtain ⟨p, q, hA0, hV, rfl, hfz, hnd⟩ := hW
  have hA : DataW.TrodAll enc Tryd.prog W 0 (fun _ => true) true Tryd.f3.params.toList args.toList ds p := hA0
  rw [Tryd.params3] at hA hval
  obtain ⟨v0, vs0, d0, ds0, p0, q0, hargs, rfl, rfl, h0, r0⟩ := trodAll_cons hA
  obtain ⟨rfl, rfl, rfl⟩ := trodAll_nil r0
  obtain rfl : args = #[v0] := by cases args; simp_all
  obtain ⟨rfl, rfl⟩ := trodVars_none hV
  have k0 := h0
  have lt0 : ∀ x ∈ p0, x.block < W.heap.size := by obtain ⟨m, hm⟩ := k0; exact DataW.trod_lt m _ _ _ hm
  obtain ⟨c, s, rfl, hs⟩ := cert_of_trod h0
  clear hA0 hval0
  simp only [List.append_nil] at hW'
  refine (walk c s W hs (tab_of_laid hL)).mono fun e W' ⟨he, hg⟩ => ?_
  subst he
  exact ⟨_, rfl, _, _, _, [], _, [], hW', (trodAll_cons_mk (shut_bool Tryd.underlying4 _) trodAll_mk0), (trodAll_cons_mk (Below.trod laidOut (by kernel_rfl) (of_decide_eq_true (by kernel_rfl)) k0 hg lt0) trodAll_mk0), rfl, hg.frame _, fun h => by cases h⟩

theorem over : Rows.certChecksRow.holds Tryd.pinned (OpenSpec.ofChange Rows.certChecksSpec) :=
  OpenClaim.holds_of_wide 3 Tryd.f3 rfl rfl rfl rfl rfl rfl rfl ⟨rfl, rfl, rfl, rfl, rfl⟩ rfl rfl rfl rfl rfl (by kernel_rfl) Tryd.func3 (by kernel_rfl)
    (of_decide_eq_true (by kernel_rfl)) (by unfold Func.isWrapper; first | (rw [if_pos (by decide +kernel)]; kernel_rfl) | (rw [if_neg (by decide +kernel)]; exact ⟨rfl, rfl⟩))
    (fun os started H enc _ => lifted os started H enc)

theorem proved : Rows.CertChecksCardSaid :=
  Claim7.holds_tied_plain_at .later [] [.data] true (true, "3c98cfa931f789201380082d54fd964d681fd90ef67015bc5a4ae87e509c7bed") false
    over (fun _ h => by cases h) (by kernel_rfl) (fun _ h => by cases h) certChecks_row_tie rfl ⟨rfl, rfl⟩ (by kernel_rfl) rfl
    (fun f fn hf hfn => by
      obtain rfl : f = 3 := Option.some.inj ((show Tryd.prog.funcNamed "arithmetica/arithmeticalaw.CertChecks" = some 3 by kernel_rfl).symm.trans hf) |>.symm
      obtain rfl : fn = Tryd.f3 := (Option.some.inj (Tryd.func3.symm.trans hfn)).symm
      exact ⟨by kernel_rfl, fun j t ht => by
        have hm := List.mem_of_getElem? (by simpa using ht : (Tryd.f3.params).toList[j]? = some t)
        have h3 : (Tryd.f3.params).toList.all (fun t => !Tryd.prog.wantsStandIn t) = true := by kernel_rfl
        have h4 : Tryd.prog.wantsStandIn t = false := by simpa using List.all_eq_true.1 h3 t hm
        exact h4⟩)
    (by kernel_rfl)
#print axioms proved
end Go.Proofs.YtlchmaiflcnaoaaDoor.certChecks
