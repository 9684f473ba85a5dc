/- For every curve the shape that the program finds is one of a group of its points: the greatest order, and how many times it goes into their number; faults among them. -/
import Derived.Test.YtofjmnodfabohaaGreatDoorKShpF
import Derived.WalkKit
import Derived.ProofKit
import Derived.OpenShut
import Derived.Below
import Derived.ShutString
import Derived.Lib.SmallJoins
import Derived.Test.YtofjmnodfabohaaGreatDoorTie
import Derived.Test.YtofjmnodfabohaaGreatDoorCards
import Derived.LaidLaws
import Derived.LaidHandle
import Derived.LaidSub
import Derived.Lib.LaidTab
import Derived.SevenTiedAt
import Derived.Handed
import Derived.SizedLaws
namespace Go.Proofs.YtofjmnodfabohaaGreatDoor.curveShapes
open Go.ChangeShapes Go.WideShapes Go.ChangeAt Go.RowKit Go.Joins
set_option linter.unusedVariables false

theorem own : ownKnob Tryz.prog.godebug = none := by kernel_rfl

theorem gN : Tryz.prog.globalNamed "math/bits.deBruijn64tab" = some 0 := by kernel_rfl
theorem gT : (Tryz.prog.globals[0]?).map (·.type) = some 110 := by kernel_rfl
def zs : List Int := Lib.deBruijn64tab.map Int.ofNat
theorem tab_of_laid {W : World} (h : laidMetH Tryz.prog Rows.curveShapesRow.laid W) : TabW W := by
  have h1 : laidMet Tryz.prog [("math/bits.deBruijn64tab", Lib.tabData .u8 zs)] W := (laidMetH_iff.1 h).1
  have h2 : Lib.TabIs Tryz.prog W "math/bits.deBruijn64tab" .u8 zs := Lib.tabIs_of_head gN gT Tryz.underlying110 Tryz.underlying5 (by kernel_rfl) (by kernel_rfl) h1
  have hc : TabAt 0 Lib.deBruijn64tab W := fun j hj => by
    have hz : j < zs.length := by unfold zs; rw [List.length_map]; exact hj
    have := h2.cell gN j hz
    rw [this]
    unfold zs
    simp [List.getD_eq_getElem?_getD, hj]
  refine ⟨hc, ?_⟩
  have := hc 0 (by decide)
  exact World.block_lt_of_cell? W ⟨0, 0, none⟩ this

noncomputable def laidWorld (os : Os) : World :=
  { World.holding Tryz.prog os ⟨#[], #[], []⟩ with heap := (World.holding Tryz.prog os ⟨#[], #[], []⟩).heap.modify 0 fun
      | .cells _ t frozen => .cells (zs.map fun z => Value.int .u8 z).toArray t frozen
      | o => o }
theorem laid_met (os : Os) (args : Array Value) : laidMetH Tryz.prog Rows.curveShapesRow.laid ((laidWorld os).forCall (fun _ _ => 0) ⟨#[], args, []⟩).memory :=
  laidMetH_of_parts (laidMet_of_run' 80 (by kernel_rfl) (by kernel_rfl)) (by kernel_rfl)

theorem walk (a0 : Int) (a1 : Int) (a2 : Int) (w : World) (hT : TabW w) :
    Calls Tryz.prog 3 #[.int .i64 a0, .int .i64 a1, .int .i64 a2] w fun e w' => e = .returned (.bool true) ∧ Below w.heap.size w w' := by
  exact shapes_law a0 a1 a2 w hT

set_option maxRecDepth 100000 in
theorem lifted (os : Os) (started : os.Started) (H : Type) (enc : TypeId × Value → H) :
    ReturnsInHanded {} Tryz.checked os 3 .any (fun w args => (Rows.curveShapesSpec.pre enc Tryz.prog Tryz.f3 [] false w args ∧ laidMetH Tryz.prog Rows.curveShapesRow.laid w) ∧ sizedMet enc Tryz.prog Tryz.f3 (OpenSpec.ofChange Rows.curveShapesSpec) false w args)
      (Rows.curveShapesSpec.post enc Tryz.prog Tryz.f3 false true false false) := by
  refine returnsInHanded_of_change_and (C := Tryz.checked) (X := fun w _ => laidMetH Tryz.prog Rows.curveShapesRow.laid w) (fun _ _ _ hh h => h.of_heap hh) own started (by kernel_rfl) Tryz.func3
    (ChangeSpec.witness_at (enc := enc) (C := Tryz.checked) (os := os) (X := fun w _ => laidMetH Tryz.prog Rows.curveShapesRow.laid w) false (laidWorld os) #[.int .i64 0, .int .i64 0, .int .i64 0] 8 rfl (by kernel_rfl) (by kernel_rfl) (by kernel_rfl) (by kernel_rfl) (by kernel_rfl) (laid_met os _)) ?_
  intro W base args ds gs before hval0 hW hcnd _ hL _
  have hval : ∀ (j : Nat) t v, Tryz.f3.params[j]? = some t → args[j]? = some v → Value.okWide Tryz.prog W .any base t v := hval0
  have hW' := hW
  obtain ⟨p, q, hA0, hV, rfl, hfz, hnd⟩ := hW
  have hA : DataW.TrodAll enc Tryz.prog W 0 (fun _ => true) true Tryz.f3.params.toList args.toList ds p := hA0
  rw [Tryz.params3] at hA hval
  obtain ⟨v0, vs0, d0, ds0, p0, q0, hargs, rfl, rfl, h0, r0⟩ := trodAll_cons hA
  obtain ⟨v1, vs1, d1, ds1, p1, q1, rfl, rfl, rfl, h1, r1⟩ := trodAll_cons r0
  obtain ⟨v2, vs2, d2, ds2, p2, q2, rfl, rfl, rfl, h2, r2⟩ := trodAll_cons r1
  obtain ⟨rfl, rfl, rfl⟩ := trodAll_nil r2
  obtain rfl : args = #[v0, v1, v2] := by cases args; simp_all
  obtain ⟨rfl, rfl⟩ := trodVars_none hV
  obtain ⟨a0, rfl, rfl, rfl, w0⟩ := open_int Tryz.underlying3 (hval 0 3 v0 rfl rfl) h0
  obtain ⟨a1, rfl, rfl, rfl, w1⟩ := open_int Tryz.underlying3 (hval 1 3 v1 rfl rfl) h1
  obtain ⟨a2, rfl, rfl, rfl, w2⟩ := open_int Tryz.underlying3 (hval 2 3 v2 rfl rfl) h2
  clear hA0 hval0
  simp only [List.append_nil] at hW'
  refine (walk a0 a1 a2 W (tab_of_laid hL)).mono fun e W' ⟨he, hg⟩ => ?_
  subst he
  exact ⟨_, rfl, _, _, _, [], [], [], hW', (trodAll_cons_mk (shut_bool Tryz.underlying4 _) trodAll_mk0), (trodAll_cons_mk (shut_int Tryz.underlying3 w0) (trodAll_cons_mk (shut_int Tryz.underlying3 w1) (trodAll_cons_mk (shut_int Tryz.underlying3 w2) trodAll_mk0))), rfl, hg.frame _, fun h => by cases h⟩

theorem over : Rows.curveShapesRow.holds Tryz.pinned (OpenSpec.ofChange Rows.curveShapesSpec) :=
  OpenClaim.holds_of_wide 3 Tryz.f3 rfl rfl rfl rfl rfl rfl rfl ⟨rfl, rfl, rfl, rfl, rfl⟩ rfl rfl rfl rfl rfl (by kernel_rfl) Tryz.func3 (by kernel_rfl)
    (of_decide_eq_true (by kernel_rfl)) (by unfold Func.isWrapper; first | (rw [if_pos (by decide +kernel)]; kernel_rfl) | (rw [if_neg (by decide +kernel)]; exact ⟨rfl, rfl⟩))
    (fun os started H enc _ => lifted os started H enc)

theorem proved : Rows.CurveShapesCardSaid :=
  Claim7.holds_tied_plain_at .later [] [.data] true (true, "c8f28defdd7749a6b782fd187d08e2fb397802388edbdf80de387083e7ed79ab") false
    over (fun _ h => by cases h) (by kernel_rfl) (fun _ h => by cases h) curveShapes_row_tie rfl ⟨rfl, rfl⟩ (by kernel_rfl) rfl
    (fun f fn hf hfn => by
      obtain rfl : f = 3 := Option.some.inj ((show Tryz.prog.funcNamed "arithmetica/arithmeticalaw.CurveShapes" = some 3 by kernel_rfl).symm.trans hf) |>.symm
      obtain rfl : fn = Tryz.f3 := (Option.some.inj (Tryz.func3.symm.trans hfn)).symm
      exact ⟨by kernel_rfl, fun j t ht => by
        have hm := List.mem_of_getElem? (by simpa using ht : (Tryz.f3.params).toList[j]? = some t)
        have h3 : (Tryz.f3.params).toList.all (fun t => !Tryz.prog.wantsStandIn t) = true := by kernel_rfl
        have h4 : Tryz.prog.wantsStandIn t = false := by simpa using List.all_eq_true.1 h3 t hm
        exact h4⟩)
    (by kernel_rfl)
#print axioms proved
end Go.Proofs.YtofjmnodfabohaaGreatDoor.curveShapes
