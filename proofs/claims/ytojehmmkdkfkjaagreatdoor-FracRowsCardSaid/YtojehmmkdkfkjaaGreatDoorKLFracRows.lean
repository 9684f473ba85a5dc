/- The law FracRows answers true for every fraction and every bound: the next fraction of the row, the whole row, and the faults for what cannot be answered. Condition: the tables of math/bits and internal/strconv that the row lists hold the program's own numbers. The frame is the kit's shell. -/
import Derived.Test.YtojehmmkdkfkjaaGreatDoorKFarL
import Derived.Test.YtojehmmkdkfkjaaGreatDoorTie
import Derived.Test.YtojehmmkdkfkjaaGreatDoorCards
import Derived.WalkKit
import Derived.ProofKit
import Derived.OpenShut
import Derived.Below
import Derived.ShutString
import Derived.ChangeMaps5
import Derived.Lib.SmallJoins
import Derived.LaidLaws
import Derived.LaidHandle
import Derived.LaidSub
import Derived.Lib.LaidTab
import Derived.SevenTiedAt
import Derived.Handed
import Derived.SizedLaws
namespace Go.Proofs.YtojehmmkdkfkjaaGreatDoor.fracRows
open Go.ChangeShapes Go.WideShapes Go.ChangeAt Go.RowKit
open Go.Joins
open Go.ChangeMaps (open_string shut_string)
set_option linter.unusedVariables false      -- a walk need not use every 'w<i>' (that an integer argument fits its kind)

theorem own : ownKnob Tryz.prog.godebug = none := by kernel_rfl

theorem laidMet_tail {P : Program} {x : String × DataW Unit} {r : List (String × DataW Unit)} {w : World} (h : laidMet P (x :: r) w) : laidMet P r w := by
  obtain ⟨n, d⟩ := x
  obtain ⟨ps, ⟨g, t, cs, fuel, p, q, e1, e2, e3, e4, hr, rfl⟩, hnd, hrows⟩ := h
  exact ⟨_, hr, hnd.sublist (List.sublist_append_right _ _), fun b off hp => hrows b off (List.mem_append_right _ hp)⟩
theorem gN : Tryz.prog.globalNamed "math/bits.deBruijn64tab" = some 2 := by kernel_rfl
theorem gT : (Tryz.prog.globals[2]?).map (·.type) = some 139 := by kernel_rfl
theorem gN2 : Tryz.prog.globalNamed "internal/strconv.uint64pow10" = some 1 := by kernel_rfl
theorem gT2 : (Tryz.prog.globals[1]?).map (·.type) = some 126 := by kernel_rfl
def zs : List Int := Lib.deBruijn64tab.map Int.ofNat
def zs32 : List Int := Lib.deBruijn32tab.map Int.ofNat
theorem laid_three {W : World} (h : laidMetH Tryz.prog Rows.fracRowsRow.laid W) : laidMet Tryz.prog [("math/bits.deBruijn32tab", Lib.tabData .u8 zs32), ("math/bits.deBruijn64tab", Lib.tabData .u8 zs), ("internal/strconv.uint64pow10", Lib.tabData .u64 Lib.pow10Tab)] W := (laidMetH_iff.1 h).1
theorem tab_of_laid {W : World} (h : laidMetH Tryz.prog Rows.fracRowsRow.laid W) : TabW W := by
  have h2 : Lib.TabIs Tryz.prog W "math/bits.deBruijn64tab" .u8 zs := Lib.tabIs_of_head gN gT Tryz.underlying139 Tryz.underlying5 (by kernel_rfl) (by kernel_rfl) (laidMet_tail (laid_three h))
  have hc : TabAt 2 Lib.deBruijn64tab W := fun j hj => by
    have hz : j < zs.length := by unfold zs; rw [List.length_map]; exact hj
    have := h2.cell gN j hz
    rw [this]
    unfold zs
    simp [List.getD_eq_getElem?_getD, hj]
  refine ⟨hc, ?_⟩
  have := hc 0 (by decide)
  exact World.block_lt_of_cell? W ⟨2, 0, none⟩ this
theorem pow_of_laid {W : World} (h : laidMetH Tryz.prog Rows.fracRowsRow.laid W) : PowW W := by
  have h2 : Lib.TabIs Tryz.prog W "internal/strconv.uint64pow10" .u64 Lib.pow10Tab := Lib.tabIs_of_head gN2 gT2 Tryz.underlying126 Tryz.underlying81 (by kernel_rfl) (by kernel_rfl) (laidMet_tail (laidMet_tail (laid_three h)))
  refine ⟨h2, ?_⟩
  have := h2.cell gN2 0 (by rw [Lib.pow10Tab_length]; decide)
  exact World.block_lt_of_cell? W ⟨1, 0, none⟩ this

def setTab (k : IntKind) (zs : List Int) : Obj → Obj
  | .cells _ t frozen => .cells (zs.map fun z => Value.int k z).toArray t frozen
  | o => o
noncomputable def laidWorld (os : Os) : World :=
  { World.holding Tryz.prog os ⟨#[], #[], []⟩ with heap := (((World.holding Tryz.prog os ⟨#[], #[], []⟩).heap.modify 2 (setTab .u8 zs)).modify 5 (setTab .u8 zs32)).modify 1 (setTab .u64 Lib.pow10Tab) }
theorem laid_met (os : Os) (args : Array Value) : laidMetH Tryz.prog Rows.fracRowsRow.laid ((laidWorld os).forCall (fun _ _ => 0) ⟨#[], args, []⟩).memory :=
  laidMetH_of_parts (laidMet_of_run' 80 (by kernel_rfl) (by kernel_rfl)) (by kernel_rfl)

theorem walk (a b s : Int) (w : World) (hT : TabW w) (hP : PowW w) :
    Calls Tryz.prog 3 #[.agg #[.int .i64 a, .int .i64 b], .int .i64 s] w fun e w' => e = .returned (.bool true) ∧ Below w.heap.size w w' := by
  exact frows_any a b s w hT hP

set_option maxRecDepth 100000 in
theorem lifted (os : Os) (started : os.Started) (H : Type) (enc : TypeId × Value → H) :
    ReturnsInHanded {} Tryz.checked os 3 .any (fun w args => (Rows.fracRowsSpec.pre enc Tryz.prog Tryz.f3 [] false w args ∧ laidMetH Tryz.prog Rows.fracRowsRow.laid w) ∧ sizedMet enc Tryz.prog Tryz.f3 (OpenSpec.ofChange Rows.fracRowsSpec) false w args)
      (Rows.fracRowsSpec.post enc Tryz.prog Tryz.f3 false true false false) := by
  refine returnsInHanded_of_change_and (C := Tryz.checked) (X := fun w _ => laidMetH Tryz.prog Rows.fracRowsRow.laid w) (fun _ _ _ hh h => h.of_heap hh) own started (by kernel_rfl) Tryz.func3
    (ChangeSpec.witness_at (enc := enc) (C := Tryz.checked) (os := os) (X := fun w _ => laidMetH Tryz.prog Rows.fracRowsRow.laid w) false (laidWorld os) #[.agg #[.int .i64 0, .int .i64 0], .int .i64 0] 8 rfl (by kernel_rfl) (by kernel_rfl) (by kernel_rfl) (by kernel_rfl) (by kernel_rfl) (laid_met os _)) ?_
  intro W base args ds gs before hval0 hW hcnd _ hL _
  have hval : ∀ (j : Nat) t v, Tryz.f3.params[j]? = some t → args[j]? = some v → Value.okWide Tryz.prog W .any base t v := hval0
  have hW' := hW
  obtain ⟨p, q, hA0, hV, rfl, hfz, hnd⟩ := hW
  have hA : DataW.TrodAll enc Tryz.prog W 0 (fun _ => true) true Tryz.f3.params.toList args.toList ds p := hA0
  rw [Tryz.params3] at hA hval
  obtain ⟨v0, vs0, d0, ds0, p0, q0, hargs, rfl, rfl, h0, r0⟩ := trodAll_cons hA
  obtain ⟨v1, vs1, d1, ds1, p1, q1, rfl, rfl, rfl, h1, r1⟩ := trodAll_cons r0
  obtain ⟨rfl, rfl, rfl⟩ := trodAll_nil r1
  obtain rfl : args = #[v0, v1] := by cases args; simp_all
  obtain ⟨rfl, rfl⟩ := trodVars_none hV
  obtain ⟨c0_0, c0_1, y0_0, y0_1, m0, rfl, rfl, rfl, k0_0, k0_1⟩ := open_agg2 Tryz.underlying23 (by kernel_rfl) (by kernel_rfl) (hval 0 23 v0 rfl rfl) h0
  obtain ⟨a, e0_0, rfl, w0_0⟩ := DataW.trod_int Tryz.underlying3 k0_0
  obtain ⟨b, e0_1, rfl, w0_1⟩ := DataW.trod_int Tryz.underlying3 k0_1
  simp at e0_0 e0_1
  subst e0_0 e0_1
  obtain ⟨s, rfl, rfl, rfl, hs⟩ := open_int Tryz.underlying3 (hval 1 3 v1 rfl rfl) h1
  clear hA0 hval0
  simp only [List.append_nil] at hW'
  refine (walk a b s W (tab_of_laid hL) (pow_of_laid hL)).mono fun e W' ⟨he, hg⟩ => ?_
  subst he
  exact ⟨_, rfl, _, _, _, [], [], [], hW', (trodAll_cons_mk (shut_bool Tryz.underlying4 _) trodAll_mk0), (trodAll_cons_mk (shut_agg2 (y0 := (.lit (.int .i64 a), [])) (y1 := (.lit (.int .i64 b), [])) Tryz.underlying23 (by kernel_rfl) (by kernel_rfl) ⟨1, by simp [DataW.trod, Tryz.underlying3, w0_0]⟩ ⟨1, by simp [DataW.trod, Tryz.underlying3, w0_1]⟩) (trodAll_cons_mk (shut_int Tryz.underlying3 hs) trodAll_mk0)), rfl, hg.frame _, fun h => by cases h⟩

theorem over : Rows.fracRowsRow.holds Tryz.pinned (OpenSpec.ofChange Rows.fracRowsSpec) :=
  OpenClaim.holds_of_wide 3 Tryz.f3 rfl rfl rfl rfl rfl rfl rfl ⟨rfl, rfl, rfl, rfl, rfl⟩ rfl rfl rfl rfl rfl (by kernel_rfl) Tryz.func3 (by kernel_rfl)
    (of_decide_eq_true (by kernel_rfl)) (by unfold Func.isWrapper; first | (rw [if_pos (by decide +kernel)]; kernel_rfl) | (rw [if_neg (by decide +kernel)]; exact ⟨rfl, rfl⟩))
    (fun os started H enc _ => lifted os started H enc)

theorem proved : Rows.FracRowsCardSaid :=
  Claim7.holds_tied_plain_at .later [] [.data, .data, .data] true (true, "052cc22475a5d0a2573def6abd36f26e9bf54768047b059eac94d14f932799d4") false
    over (fun _ h => by cases h) (by kernel_rfl) (fun _ h => by cases h) fracRows_row_tie rfl ⟨rfl, rfl⟩ (by kernel_rfl) rfl
    (fun f fn hf hfn => by
      obtain rfl : f = 3 := Option.some.inj ((show Tryz.prog.funcNamed "arithmetica/arithmeticalaw.FracRows" = some 3 by kernel_rfl).symm.trans hf) |>.symm
      obtain rfl : fn = Tryz.f3 := (Option.some.inj (Tryz.func3.symm.trans hfn)).symm
      exact ⟨by kernel_rfl, fun j t ht => by
        have hm := List.mem_of_getElem? (by simpa using ht : (Tryz.f3.params).toList[j]? = some t)
        have h3 : (Tryz.f3.params).toList.all (fun t => !Tryz.prog.wantsStandIn t) = true := by kernel_rfl
        have h4 : Tryz.prog.wantsStandIn t = false := by simpa using List.all_eq_true.1 h3 t hm
        exact h4⟩)
    (by kernel_rfl)
#print axioms proved
end Go.Proofs.YtojehmmkdkfkjaaGreatDoor.fracRows
