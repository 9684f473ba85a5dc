/- CurveGroup, whole. -/
import Derived.Test.YtlchmaiflcnaoaaGreatDoorKCurvZ
import Derived.WalkKit
import Derived.ProofKit
import Derived.OpenShut
import Derived.Below
import Derived.ShutString
import Derived.Lib.SmallJoins
import Derived.Test.YtlchmaiflcnaoaaGreatDoorTie
import Derived.Test.YtlchmaiflcnaoaaGreatDoorCards
import Derived.LaidLaws
import Derived.LaidHandle
import Derived.LaidSub
import Derived.Lib.LaidTab
import Derived.SevenTiedAt
import Derived.Conc.Holds
import Derived.Handed
import Derived.SizedLaws
namespace Go.Proofs.YtlchmaiflcnaoaaGreatDoor.curveGroup
open Go.ChangeShapes Go.WideShapes Go.ChangeAt Go.RowKit Go.Joins
set_option linter.unusedVariables false

theorem own : ownKnob Tryz.prog.godebug = none := by kernel_rfl

theorem gN : Tryz.prog.globalNamed "math/bits.deBruijn64tab" = some 0 := by kernel_rfl
theorem gT : (Tryz.prog.globals[0]?).map (·.type) = some 166 := by kernel_rfl
def zs : List Int := Lib.deBruijn64tab.map Int.ofNat
theorem tab_of_laid {W : World} (h : laidMetH Tryz.prog Rows.curveGroupRow.laid W) : TabW W := by
  have h1 : laidMet Tryz.prog [("math/bits.deBruijn64tab", Lib.tabData .u8 zs)] W := (laidMetH_iff.1 h).1
  have h2 : Lib.TabIs Tryz.prog W "math/bits.deBruijn64tab" .u8 zs := Lib.tabIs_of_head gN gT Tryz.underlying166 Tryz.underlying5 (by kernel_rfl) (by kernel_rfl) h1
  have hc : TabAt 0 Lib.deBruijn64tab W := fun j hj => by
    have hz : j < zs.length := by unfold zs; rw [List.length_map]; exact hj
    have := h2.cell gN j hz
    rw [this]
    unfold zs
    simp [List.getD_eq_getElem?_getD, hj]
  refine ⟨hc, ?_⟩
  have := hc 0 (by decide)
  exact World.block_lt_of_cell? W ⟨0, 0, none⟩ this

noncomputable def laidWorld (os : Os) : World :=
  { World.holding Tryz.prog os ⟨#[], #[], []⟩ with heap := (World.holding Tryz.prog os ⟨#[], #[], []⟩).heap.modify 0 fun
      | .cells _ t frozen => .cells (zs.map fun z => Value.int .u8 z).toArray t frozen
      | o => o }
theorem laid_met (os : Os) (args : Array Value) : laidMetH Tryz.prog Rows.curveGroupRow.laid ((laidWorld os).forCall (fun _ _ => 0) ⟨#[], args, []⟩).memory :=
  laidMetH_of_parts (laidMet_of_run' 80 (by kernel_rfl) (by kernel_rfl)) (by kernel_rfl)

theorem walk (a0 : Int) (a1 : Int) (a2 : Int) (a3_0 : Int) (a3_1 : Int) (a3_2 : Bool) (a4_0 : Int) (a4_1 : Int) (a4_2 : Bool) (a5_0 : Int) (a5_1 : Int) (a5_2 : Bool) (a6 : Int) (a7 : Int) (w : World) (hT : TabW w) :
    Calls Tryz.prog 5 #[.int .i64 a0, .int .i64 a1, .int .i64 a2, .agg #[.int .i64 a3_0, .int .i64 a3_1, .bool a3_2], .agg #[.int .i64 a4_0, .int .i64 a4_1, .bool a4_2], .agg #[.int .i64 a5_0, .int .i64 a5_1, .bool a5_2], .int .i64 a6, .int .i64 a7] w fun e w' => e = .returned (.bool true) ∧ Below w.heap.size w w' := by
  exact group_any a0 a1 a2 a6 a7 ⟨a3_0, a3_1, a3_2⟩ ⟨a4_0, a4_1, a4_2⟩ ⟨a5_0, a5_1, a5_2⟩ w hT

set_option maxRecDepth 100000 in
theorem lifted (os : Os) (started : os.Started) (H : Type) (enc : TypeId × Value → H) :
    ReturnsInHanded {} Tryz.checked os 5 .any (fun w args => (Rows.curveGroupSpec.pre enc Tryz.prog Tryz.f5 [] false w args ∧ laidMetH Tryz.prog Rows.curveGroupRow.laid w) ∧ sizedMet enc Tryz.prog Tryz.f5 (OpenSpec.ofChange Rows.curveGroupSpec) false w args)
      (Rows.curveGroupSpec.post enc Tryz.prog Tryz.f5 false true false false) := by
  refine returnsInHanded_of_change_and (C := Tryz.checked) (X := fun w _ => laidMetH Tryz.prog Rows.curveGroupRow.laid w) (fun _ _ _ hh h => h.of_heap hh) own started (by kernel_rfl) Tryz.func5
    (ChangeSpec.witness_at (enc := enc) (C := Tryz.checked) (os := os) (X := fun w _ => laidMetH Tryz.prog Rows.curveGroupRow.laid w) false (laidWorld os) #[.int .i64 0, .int .i64 0, .int .i64 0, .agg #[.int .i64 0, .int .i64 0, .bool false], .agg #[.int .i64 0, .int .i64 0, .bool false], .agg #[.int .i64 0, .int .i64 0, .bool false], .int .i64 0, .int .i64 0] 8 rfl (by kernel_rfl) (by kernel_rfl) (by kernel_rfl) (by kernel_rfl) (by kernel_rfl) (laid_met os _)) ?_
  intro W base args ds gs before hval0 hW hcnd _ hL _
  have hval : ∀ (j : Nat) t v, Tryz.f5.params[j]? = some t → args[j]? = some v → Value.okWide Tryz.prog W .any base t v := hval0
  have hW' := hW
  obtain ⟨p, q, hA0, hV, rfl, hfz, hnd⟩ := hW
  have hA : DataW.TrodAll enc Tryz.prog W 0 (fun _ => true) true Tryz.f5.params.toList args.toList ds p := hA0
  rw [Tryz.params5] at hA hval
  obtain ⟨v0, vs0, d0, ds0, p0, q0, hargs, rfl, rfl, h0, r0⟩ := trodAll_cons hA
  obtain ⟨v1, vs1, d1, ds1, p1, q1, rfl, rfl, rfl, h1, r1⟩ := trodAll_cons r0
  obtain ⟨v2, vs2, d2, ds2, p2, q2, rfl, rfl, rfl, h2, r2⟩ := trodAll_cons r1
  obtain ⟨v3, vs3, d3, ds3, p3, q3, rfl, rfl, rfl, h3, r3⟩ := trodAll_cons r2
  obtain ⟨v4, vs4, d4, ds4, p4, q4, rfl, rfl, rfl, h4, r4⟩ := trodAll_cons r3
  obtain ⟨v5, vs5, d5, ds5, p5, q5, rfl, rfl, rfl, h5, r5⟩ := trodAll_cons r4
  obtain ⟨v6, vs6, d6, ds6, p6, q6, rfl, rfl, rfl, h6, r6⟩ := trodAll_cons r5
  obtain ⟨v7, vs7, d7, ds7, p7, q7, rfl, rfl, rfl, h7, r7⟩ := trodAll_cons r6
  obtain ⟨rfl, rfl, rfl⟩ := trodAll_nil r7
  obtain rfl : args = #[v0, v1, v2, v3, v4, v5, v6, v7] := by cases args; simp_all
  obtain ⟨rfl, rfl⟩ := trodVars_none hV
  obtain ⟨a0, rfl, rfl, rfl, w0⟩ := open_int Tryz.underlying3 (hval 0 3 v0 rfl rfl) h0
  obtain ⟨a1, rfl, rfl, rfl, w1⟩ := open_int Tryz.underlying3 (hval 1 3 v1 rfl rfl) h1
  obtain ⟨a2, rfl, rfl, rfl, w2⟩ := open_int Tryz.underlying3 (hval 2 3 v2 rfl rfl) h2
  obtain ⟨c3_0, c3_1, c3_2, y3_0, y3_1, y3_2, m3, rfl, rfl, rfl, k3_0, k3_1, k3_2⟩ := open_agg3 Tryz.underlying39 (by kernel_rfl) (by kernel_rfl) (hval 3 39 v3 rfl rfl) h3
  obtain ⟨a3_0, e3_0, rfl, w3_0⟩ := DataW.trod_int Tryz.underlying3 k3_0
  obtain ⟨a3_1, e3_1, rfl, w3_1⟩ := DataW.trod_int Tryz.underlying3 k3_1
  obtain ⟨a3_2, e3_2, rfl⟩ := DataW.trod_bool Tryz.underlying4 k3_2
  simp at e3_0 e3_1 e3_2
  subst e3_0 e3_1 e3_2
  obtain ⟨c4_0, c4_1, c4_2, y4_0, y4_1, y4_2, m4, rfl, rfl, rfl, k4_0, k4_1, k4_2⟩ := open_agg3 Tryz.underlying39 (by kernel_rfl) (by kernel_rfl) (hval 4 39 v4 rfl rfl) h4
  obtain ⟨a4_0, e4_0, rfl, w4_0⟩ := DataW.trod_int Tryz.underlying3 k4_0
  obtain ⟨a4_1, e4_1, rfl, w4_1⟩ := DataW.trod_int Tryz.underlying3 k4_1
  obtain ⟨a4_2, e4_2, rfl⟩ := DataW.trod_bool Tryz.underlying4 k4_2
  simp at e4_0 e4_1 e4_2
  subst e4_0 e4_1 e4_2
  obtain ⟨c5_0, c5_1, c5_2, y5_0, y5_1, y5_2, m5, rfl, rfl, rfl, k5_0, k5_1, k5_2⟩ := open_agg3 Tryz.underlying39 (by kernel_rfl) (by kernel_rfl) (hval 5 39 v5 rfl rfl) h5
  obtain ⟨a5_0, e5_0, rfl, w5_0⟩ := DataW.trod_int Tryz.underlying3 k5_0
  obtain ⟨a5_1, e5_1, rfl, w5_1⟩ := DataW.trod_int Tryz.underlying3 k5_1
  obtain ⟨a5_2, e5_2, rfl⟩ := DataW.trod_bool Tryz.underlying4 k5_2
  simp at e5_0 e5_1 e5_2
  subst e5_0 e5_1 e5_2
  obtain ⟨a6, rfl, rfl, rfl, w6⟩ := open_int Tryz.underlying3 (hval 6 3 v6 rfl rfl) h6
  obtain ⟨a7, rfl, rfl, rfl, w7⟩ := open_int Tryz.underlying3 (hval 7 3 v7 rfl rfl) h7
  clear hA0 hval0
  simp only [List.append_nil] at hW'
  refine (walk a0 a1 a2 a3_0 a3_1 a3_2 a4_0 a4_1 a4_2 a5_0 a5_1 a5_2 a6 a7 W (tab_of_laid hL)).mono fun e W' ⟨he, hg⟩ => ?_
  subst he
  exact ⟨_, rfl, _, _, _, [], [], [], hW', (trodAll_cons_mk (shut_bool Tryz.underlying4 _) trodAll_mk0), (trodAll_cons_mk (shut_int Tryz.underlying3 w0) (trodAll_cons_mk (shut_int Tryz.underlying3 w1) (trodAll_cons_mk (shut_int Tryz.underlying3 w2) (trodAll_cons_mk (shut_agg3 (y0 := (.lit (.int .i64 a3_0), [])) (y1 := (.lit (.int .i64 a3_1), [])) (y2 := (.lit (.bool a3_2), [])) Tryz.underlying39 (by kernel_rfl) (by kernel_rfl) ⟨1, by simp [DataW.trod, Tryz.underlying3, w3_0]⟩ ⟨1, by simp [DataW.trod, Tryz.underlying3, w3_1]⟩ ⟨1, by simp [DataW.trod, Tryz.underlying4]⟩) (trodAll_cons_mk (shut_agg3 (y0 := (.lit (.int .i64 a4_0), [])) (y1 := (.lit (.int .i64 a4_1), [])) (y2 := (.lit (.bool a4_2), [])) Tryz.underlying39 (by kernel_rfl) (by kernel_rfl) ⟨1, by simp [DataW.trod, Tryz.underlying3, w4_0]⟩ ⟨1, by simp [DataW.trod, Tryz.underlying3, w4_1]⟩ ⟨1, by simp [DataW.trod, Tryz.underlying4]⟩) (trodAll_cons_mk (shut_agg3 (y0 := (.lit (.int .i64 a5_0), [])) (y1 := (.lit (.int .i64 a5_1), [])) (y2 := (.lit (.bool a5_2), [])) Tryz.underlying39 (by kernel_rfl) (by kernel_rfl) ⟨1, by simp [DataW.trod, Tryz.underlying3, w5_0]⟩ ⟨1, by simp [DataW.trod, Tryz.underlying3, w5_1]⟩ ⟨1, by simp [DataW.trod, Tryz.underlying4]⟩) (trodAll_cons_mk (shut_int Tryz.underlying3 w6) (trodAll_cons_mk (shut_int Tryz.underlying3 w7) trodAll_mk0)))))))), rfl, hg.frame _, fun h => by cases h⟩

theorem leaves_of_handed {a : Assume} {C : Checked} {os : Os} {f : FuncId} {r : Reach} {Pre : World → Array Value → Prop} {Post : World → Array Value → Value → World → Prop}
    (h : ReturnsInHanded a C os f r Pre Post) : ReturnsInLeavingWide a C os f r Pre Post := fun enter => by
  obtain ⟨g0, g1, g2, g3, all⟩ := h enter
  refine ⟨g0, g1, g2, g3, fun w tape i hf => ?_⟩
  obtain ⟨n, v, w', hn, hc, hr, hp, ⟨j, last, hj, hs, hq⟩, ha⟩ := all w tape i hf
  refine ⟨n, v, w', hn, hc, hr, hp, ⟨j, last, hj, hs, hq.2.1, ⟨fun x hx => ⟨0, ?_⟩, hq.1.2⟩, hq.2.2⟩, ha⟩
  have hd := hq.1.1
  unfold Machine.othersDone at hd
  have hx2 := List.all_eq_true.1 hd x hx
  show x.status = .finished
  simpa using hx2
theorem tied_goes (Lk : Looks) {p : Pinned} {s : OpenSpec} {c : OpenClaim} (kinds : List LaidKind) (tests : Bool) (har : Bool × String) (lk : Bool) (hc : c.holds p s) (hw : c.wfByText s = true) (htie : c.laidByTextAt Lk p kinds tests)
    (hst : c.start = .entering) (hnb : c.noBlocks = false ∧ c.again = false) (hm : p.checked.prog.mainIs = some (har.1, har.2.toList)) (hn : (!har.1 && har.2.isEmpty && !lk) = false)
    (hl : ∀ f fn, p.checked.prog.funcNamed c.func = some f → p.checked.prog.funcs[f]? = some fn → lk = p.checked.prog.looks [] ∧ ∀ (j : Nat) t, fn.params[j]? = some t → p.checked.prog.wantsStandIn t = false)
    (hg : true = c.goesBy p.checked.prog) :
    Claim7.holds p (.plain s) { stood := { row := c, standIns := [], harness := har, looks := lk }, kinds := [], alts := [], goes := true, laidByText := true, laidKinds := kinds, laidTests := tests, laidLooks := Lk } := by
  have h6 : Claim7.isSixth { stood := { row := c, standIns := [], harness := har, looks := lk }, kinds := [] } = false := by simpa [Claim7.isSixth] using hn
  have h1 := Claim7.tied_new_at Lk kinds tests (Claim7.new_of_sixth hc har lk hst hnb hm h6 hl) hw
  exact ⟨h1, fun D hD => absurd (show D ∈ ([] : List (List PathCond)) from hD) (by simp), htie, (fun h => by cases h), hg⟩

theorem over : Rows.curveGroupRow.holds Tryz.pinned (OpenSpec.ofChange Rows.curveGroupSpec) :=
  OpenClaim.holds_of_wide_leaving 5 Tryz.f5 rfl rfl rfl rfl rfl rfl rfl ⟨rfl, rfl, rfl, rfl, rfl⟩ rfl rfl rfl rfl rfl (by kernel_rfl) Tryz.func5 (by kernel_rfl)
    (of_decide_eq_true (by kernel_rfl)) (by unfold Func.isWrapper; first | (rw [if_pos (by decide +kernel)]; kernel_rfl) | (rw [if_neg (by decide +kernel)]; exact ⟨rfl, rfl⟩))
    (fun os started H enc _ => leaves_of_handed (lifted os started H enc))

theorem proved : Rows.CurveGroupCardSaid :=
  tied_goes .later [.data] true (true, "a6b85029a999688c00f31e9866abc9c05aaeea6f7b6a68526b1f80f16dcf21fa") false
    over (by kernel_rfl) curveGroup_row_tie rfl ⟨rfl, rfl⟩ (by kernel_rfl) rfl
    (fun f fn hf hfn => by
      obtain rfl : f = 5 := Option.some.inj ((show Tryz.prog.funcNamed "arithmetica/arithmeticalaw.CurveGroup" = some 5 by kernel_rfl).symm.trans hf) |>.symm
      obtain rfl : fn = Tryz.f5 := (Option.some.inj (Tryz.func5.symm.trans hfn)).symm
      exact ⟨by kernel_rfl, fun j t ht => by
        have hm := List.mem_of_getElem? (by simpa using ht : (Tryz.f5.params).toList[j]? = some t)
        have h3 : (Tryz.f5.params).toList.all (fun t => !Tryz.prog.wantsStandIn t) = true := by kernel_rfl
        have h4 : Tryz.prog.wantsStandIn t = false := by simpa using List.all_eq_true.1 h3 t hm
        exact h4⟩)
    (by kernel_rfl)
#print axioms proved
end Go.Proofs.YtlchmaiflcnaoaaGreatDoor.curveGroup
