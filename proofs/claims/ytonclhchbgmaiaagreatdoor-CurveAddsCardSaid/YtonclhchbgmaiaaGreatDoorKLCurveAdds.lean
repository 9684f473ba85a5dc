/- For every curve, every two points and every number the answers of Add, Times and Order are those of the document, faults among them. -/
import Derived.Test.YtonclhchbgmaiaaGreatDoorKCurvBc
import Derived.WalkKit
import Derived.ProofKit
import Derived.OpenShut
import Derived.Below
import Derived.ShutString
import Derived.Lib.SmallJoins
import Derived.Test.YtonclhchbgmaiaaGreatDoorTie
import Derived.Test.YtonclhchbgmaiaaGreatDoorCards
import Derived.LaidLaws
import Derived.LaidHandle
import Derived.LaidSub
import Derived.Lib.LaidTab
import Derived.SevenTiedAt
import Derived.Handed
import Derived.SizedLaws
namespace Go.Proofs.YtonclhchbgmaiaaGreatDoor.curveAdds
open Go.ChangeShapes Go.WideShapes Go.ChangeAt Go.RowKit Go.Joins
set_option linter.unusedVariables false

theorem own : ownKnob Tryz.prog.godebug = none := by kernel_rfl

theorem gN : Tryz.prog.globalNamed "math/bits.deBruijn64tab" = some 0 := by kernel_rfl
theorem gT : (Tryz.prog.globals[0]?).map (·.type) = some 97 := by kernel_rfl
def zs : List Int := Lib.deBruijn64tab.map Int.ofNat
theorem tab_of_laid {W : World} (h : laidMetH Tryz.prog Rows.curveAddsRow.laid W) : TabW W := by
  have h1 : laidMet Tryz.prog [("math/bits.deBruijn64tab", Lib.tabData .u8 zs)] W := (laidMetH_iff.1 h).1
  have h2 : Lib.TabIs Tryz.prog W "math/bits.deBruijn64tab" .u8 zs := Lib.tabIs_of_head gN gT Tryz.underlying97 Tryz.underlying5 (by kernel_rfl) (by kernel_rfl) h1
  have hc : TabAt 0 Lib.deBruijn64tab W := fun j hj => by
    have hz : j < zs.length := by unfold zs; rw [List.length_map]; exact hj
    have := h2.cell gN j hz
    rw [this]
    unfold zs
    simp [List.getD_eq_getElem?_getD, hj]
  refine ⟨hc, ?_⟩
  have := hc 0 (by decide)
  exact World.block_lt_of_cell? W ⟨0, 0, none⟩ this

noncomputable def laidWorld (os : Os) : World :=
  { World.holding Tryz.prog os ⟨#[], #[], []⟩ with heap := (World.holding Tryz.prog os ⟨#[], #[], []⟩).heap.modify 0 fun
      | .cells _ t frozen => .cells (zs.map fun z => Value.int .u8 z).toArray t frozen
      | o => o }
theorem laid_met (os : Os) (args : Array Value) : laidMetH Tryz.prog Rows.curveAddsRow.laid ((laidWorld os).forCall (fun _ _ => 0) ⟨#[], args, []⟩).memory :=
  laidMetH_of_parts (laidMet_of_run' 80 (by kernel_rfl) (by kernel_rfl)) (by kernel_rfl)

theorem walk (a0 : Int) (a1 : Int) (a2 : Int) (a3 : Int) (a4_0 : Int) (a4_1 : Int) (a4_2 : Bool) (a5_0 : Int) (a5_1 : Int) (a5_2 : Bool) (w : World) (hT : TabW w) :
    Calls Tryz.prog 4 #[.int .i64 a0, .int .i64 a1, .int .i64 a2, .int .i64 a3, .agg #[.int .i64 a4_0, .int .i64 a4_1, .bool a4_2], .agg #[.int .i64 a5_0, .int .i64 a5_1, .bool a5_2]] w fun e w' => e = .returned (.bool true) ∧ Below w.heap.size w w' := by
  exact adds_any a0 a1 a2 a3 ⟨a4_0, a4_1, a4_2⟩ ⟨a5_0, a5_1, a5_2⟩ w hT

set_option maxRecDepth 100000 in
theorem lifted (os : Os) (started : os.Started) (H : Type) (enc : TypeId × Value → H) :
    ReturnsInHanded {} Tryz.checked os 4 .any (fun w args => (Rows.curveAddsSpec.pre enc Tryz.prog Tryz.f4 [] false w args ∧ laidMetH Tryz.prog Rows.curveAddsRow.laid w) ∧ sizedMet enc Tryz.prog Tryz.f4 (OpenSpec.ofChange Rows.curveAddsSpec) false w args)
      (Rows.curveAddsSpec.post enc Tryz.prog Tryz.f4 false true false false) := by
  refine returnsInHanded_of_change_and (C := Tryz.checked) (X := fun w _ => laidMetH Tryz.prog Rows.curveAddsRow.laid w) (fun _ _ _ hh h => h.of_heap hh) own started (by kernel_rfl) Tryz.func4
    (ChangeSpec.witness_at (enc := enc) (C := Tryz.checked) (os := os) (X := fun w _ => laidMetH Tryz.prog Rows.curveAddsRow.laid w) false (laidWorld os) #[.int .i64 0, .int .i64 0, .int .i64 0, .int .i64 0, .agg #[.int .i64 0, .int .i64 0, .bool false], .agg #[.int .i64 0, .int .i64 0, .bool false]] 8 rfl (by kernel_rfl) (by kernel_rfl) (by kernel_rfl) (by kernel_rfl) (by kernel_rfl) (laid_met os _)) ?_
  intro W base args ds gs before hval0 hW hcnd _ hL _
  have hval : ∀ (j : Nat) t v, Tryz.f4.params[j]? = some t → args[j]? = some v → Value.okWide Tryz.prog W .any base t v := hval0
  have hW' := hW
  obtain ⟨p, q, hA0, hV, rfl, hfz, hnd⟩ := hW
  have hA : DataW.TrodAll enc Tryz.prog W 0 (fun _ => true) true Tryz.f4.params.toList args.toList ds p := hA0
  rw [Tryz.params4] at hA hval
  obtain ⟨v0, vs0, d0, ds0, p0, q0, hargs, rfl, rfl, h0, r0⟩ := trodAll_cons hA
  obtain ⟨v1, vs1, d1, ds1, p1, q1, rfl, rfl, rfl, h1, r1⟩ := trodAll_cons r0
  obtain ⟨v2, vs2, d2, ds2, p2, q2, rfl, rfl, rfl, h2, r2⟩ := trodAll_cons r1
  obtain ⟨v3, vs3, d3, ds3, p3, q3, rfl, rfl, rfl, h3, r3⟩ := trodAll_cons r2
  obtain ⟨v4, vs4, d4, ds4, p4, q4, rfl, rfl, rfl, h4, r4⟩ := trodAll_cons r3
  obtain ⟨v5, vs5, d5, ds5, p5, q5, rfl, rfl, rfl, h5, r5⟩ := trodAll_cons r4
  obtain ⟨rfl, rfl, rfl⟩ := trodAll_nil r5
  obtain rfl : args = #[v0, v1, v2, v3, v4, v5] := by cases args; simp_all
  obtain ⟨rfl, rfl⟩ := trodVars_none hV
  obtain ⟨a0, rfl, rfl, rfl, w0⟩ := open_int Tryz.underlying3 (hval 0 3 v0 rfl rfl) h0
  obtain ⟨a1, rfl, rfl, rfl, w1⟩ := open_int Tryz.underlying3 (hval 1 3 v1 rfl rfl) h1
  obtain ⟨a2, rfl, rfl, rfl, w2⟩ := open_int Tryz.underlying3 (hval 2 3 v2 rfl rfl) h2
  obtain ⟨a3, rfl, rfl, rfl, w3⟩ := open_int Tryz.underlying3 (hval 3 3 v3 rfl rfl) h3
  obtain ⟨c4_0, c4_1, c4_2, y4_0, y4_1, y4_2, m4, rfl, rfl, rfl, k4_0, k4_1, k4_2⟩ := open_agg3 Tryz.underlying30 (by kernel_rfl) (by kernel_rfl) (hval 4 30 v4 rfl rfl) h4
  obtain ⟨a4_0, e4_0, rfl, w4_0⟩ := DataW.trod_int Tryz.underlying3 k4_0
  obtain ⟨a4_1, e4_1, rfl, w4_1⟩ := DataW.trod_int Tryz.underlying3 k4_1
  obtain ⟨a4_2, e4_2, rfl⟩ := DataW.trod_bool Tryz.underlying4 k4_2
  simp at e4_0 e4_1 e4_2
  subst e4_0 e4_1 e4_2
  obtain ⟨c5_0, c5_1, c5_2, y5_0, y5_1, y5_2, m5, rfl, rfl, rfl, k5_0, k5_1, k5_2⟩ := open_agg3 Tryz.underlying30 (by kernel_rfl) (by kernel_rfl) (hval 5 30 v5 rfl rfl) h5
  obtain ⟨a5_0, e5_0, rfl, w5_0⟩ := DataW.trod_int Tryz.underlying3 k5_0
  obtain ⟨a5_1, e5_1, rfl, w5_1⟩ := DataW.trod_int Tryz.underlying3 k5_1
  obtain ⟨a5_2, e5_2, rfl⟩ := DataW.trod_bool Tryz.underlying4 k5_2
  simp at e5_0 e5_1 e5_2
  subst e5_0 e5_1 e5_2
  clear hA0 hval0
  simp only [List.append_nil] at hW'
  refine (walk a0 a1 a2 a3 a4_0 a4_1 a4_2 a5_0 a5_1 a5_2 W (tab_of_laid hL)).mono fun e W' ⟨he, hg⟩ => ?_
  subst he
  exact ⟨_, rfl, _, _, _, [], [], [], hW', (trodAll_cons_mk (shut_bool Tryz.underlying4 _) trodAll_mk0), (trodAll_cons_mk (shut_int Tryz.underlying3 w0) (trodAll_cons_mk (shut_int Tryz.underlying3 w1) (trodAll_cons_mk (shut_int Tryz.underlying3 w2) (trodAll_cons_mk (shut_int Tryz.underlying3 w3) (trodAll_cons_mk (shut_agg3 (y0 := (.lit (.int .i64 a4_0), [])) (y1 := (.lit (.int .i64 a4_1), [])) (y2 := (.lit (.bool a4_2), [])) Tryz.underlying30 (by kernel_rfl) (by kernel_rfl) ⟨1, by simp [DataW.trod, Tryz.underlying3, w4_0]⟩ ⟨1, by simp [DataW.trod, Tryz.underlying3, w4_1]⟩ ⟨1, by simp [DataW.trod, Tryz.underlying4]⟩) (trodAll_cons_mk (shut_agg3 (y0 := (.lit (.int .i64 a5_0), [])) (y1 := (.lit (.int .i64 a5_1), [])) (y2 := (.lit (.bool a5_2), [])) Tryz.underlying30 (by kernel_rfl) (by kernel_rfl) ⟨1, by simp [DataW.trod, Tryz.underlying3, w5_0]⟩ ⟨1, by simp [DataW.trod, Tryz.underlying3, w5_1]⟩ ⟨1, by simp [DataW.trod, Tryz.underlying4]⟩) trodAll_mk0)))))), rfl, hg.frame _, fun h => by cases h⟩

theorem over : Rows.curveAddsRow.holds Tryz.pinned (OpenSpec.ofChange Rows.curveAddsSpec) :=
  OpenClaim.holds_of_wide 4 Tryz.f4 rfl rfl rfl rfl rfl rfl rfl ⟨rfl, rfl, rfl, rfl, rfl⟩ rfl rfl rfl rfl rfl (by kernel_rfl) Tryz.func4 (by kernel_rfl)
    (of_decide_eq_true (by kernel_rfl)) (by unfold Func.isWrapper; first | (rw [if_pos (by decide +kernel)]; kernel_rfl) | (rw [if_neg (by decide +kernel)]; exact ⟨rfl, rfl⟩))
    (fun os started H enc _ => lifted os started H enc)

theorem proved : Rows.CurveAddsCardSaid :=
  Claim7.holds_tied_plain_at .later [] [.data] true (true, "4ada0f207cc9bf0169dd4d4e74566ef51ba26797eee46eee5fe5797a6a87ff0e") false
    over (fun _ h => by cases h) (by kernel_rfl) (fun _ h => by cases h) curveAdds_row_tie rfl ⟨rfl, rfl⟩ (by kernel_rfl) rfl
    (fun f fn hf hfn => by
      obtain rfl : f = 4 := Option.some.inj ((show Tryz.prog.funcNamed "arithmetica/arithmeticalaw.CurveAdds" = some 4 by kernel_rfl).symm.trans hf) |>.symm
      obtain rfl : fn = Tryz.f4 := (Option.some.inj (Tryz.func4.symm.trans hfn)).symm
      exact ⟨by kernel_rfl, fun j t ht => by
        have hm := List.mem_of_getElem? (by simpa using ht : (Tryz.f4.params).toList[j]? = some t)
        have h3 : (Tryz.f4.params).toList.all (fun t => !Tryz.prog.wantsStandIn t) = true := by kernel_rfl
        have h4 : Tryz.prog.wantsStandIn t = false := by simpa using List.all_eq_true.1 h3 t hm
        exact h4⟩)
    (by kernel_rfl)
#print axioms proved
end Go.Proofs.YtonclhchbgmaiaaGreatDoor.curveAdds
