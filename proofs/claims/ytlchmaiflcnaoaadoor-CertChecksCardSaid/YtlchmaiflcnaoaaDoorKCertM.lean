/- How a certificate is read out of the argument's memory. -/
import Derived.Test.YtlchmaiflcnaoaaDoorKCertL
import Derived.Deep.Strs
import Derived.Deep.Slices
import Derived.ChangeArms
namespace Go.Proofs.YtlchmaiflcnaoaaDoor
open Go.RowKit

theorem ok_of_wf {n : Int} (h : (Lit.int .i64 n).wf = true) : i64ok n := by
  unfold i64ok
  simp only [Lit.wf, IntKind.min, IntKind.max, IntKind.signed, IntKind.bits, Bool.and_eq_true, decide_eq_true_eq, if_true] at h
  omega

theorem cells_cert : Tryd.prog.cellsOf 24 = 3 := by kernel_rfl
instance : Inhabited (Tree × Value) := ⟨(.mk 0 0 [], .slice none 0 0)⟩

set_option maxRecDepth 100000 in
theorem cat_of_trod {H : Type} {enc : TypeId × Value → H} {W : World} {sp : Nat → Bool} {held : Bool} : ∀ (fuel : Nat) (cs : List Value) (x : DataW H × List MemPlace),
    DataW.trod enc Tryd.prog W 0 sp held fuel 24 cs = some x → ∃ (t : Tree) (s : Value), cs = [.int .i64 t.n, .int .i64 t.r, s] ∧ CAt W W.heap.size t s := by
  intro fuel
  induction fuel using Nat.strongRecOn with
  | _ fuel ih =>
    intro cs x h
    obtain ⟨xs, m, hm, _, hl, hxl, hf⟩ := DataW.trod_struct Tryd.underlying24 h
    have hl3 : cs.length = 3 := by rw [hl]; exact cells_cert
    have hx3 : xs.length = 3 := hxl
    have f0 := hf 0 _ rfl
    have f1 := hf 1 _ rfl
    have f2 := hf 2 _ rfl
    match cs, hl3, xs, hx3 with
    | [v0, v1, v2], _, [y0, y1, y2], _ =>
      simp only [List.getElem?_cons_zero, List.getElem?_cons_succ] at f0 f1 f2
      obtain ⟨n, e0, _, wn⟩ := DataW.trod_int Tryd.underlying3 f0
      obtain ⟨r, e1, _, wr⟩ := DataW.trod_int Tryd.underlying3 f1
      injection e0 with e0 _
      injection e1 with e1 _
      subst e0 e1
      rcases DataW.trod_slice Tryd.underlying22 f2 with ⟨e2, _⟩ | ⟨a, len, cap, elems, rest, k, hk, e2, _, _, hlc, hcm, hel, hcs, _⟩
      · injection e2 with e2 _
        subst e2
        exact ⟨.mk n r [], .slice none 0 0, rfl, .mk n r [] none ⟨0, 0, none⟩ 0 (fun _ => .slice none 0 0) (ok_of_wf wn) (ok_of_wf wr) (by simp) (by simp) (by simp) (by simp)⟩
      · injection e2 with e2 _
        subst e2
        have each : ∀ i, i < len → ∃ q : Tree × Value, a.block < W.heap.size ∧ W.cell? (a.add (i * 3)) = some (.int .i64 q.1.n) ∧ W.cell? ⟨(a.add (i * 3)).block, (a.add (i * 3)).off + 1, none⟩ = some (.int .i64 q.1.r) ∧ W.cell? ⟨(a.add (i * 3)).block, (a.add (i * 3)).off + 2, none⟩ = some q.2 ∧ CAt W W.heap.size q.1 q.2 := by
          intro i hi
          have h1 := hcs i hi
          rw [List.getElem?_eq_getElem (by omega), cells_cert] at h1
          obtain ⟨cs', h2, h3⟩ := Option.bind_eq_some_iff.1 h1
          obtain ⟨t, s, rfl, hc⟩ := ih k (by omega) cs' _ h3
          obtain ⟨_, _, hcell⟩ := World.cells?_some h2
          have k0 := hcell 0 (by omega)
          have k1 := hcell 1 (by omega)
          have k2 := hcell 2 (by omega)
          rw [addr_zero] at k0
          rw [addr_pos _ _ (by omega)] at k1 k2
          refine ⟨(t, s), ?_, k0, k1, k2, hc⟩
          have := World.block_lt_of_cell? W _ k0
          rwa [add_block] at this
        obtain ⟨q, hq⟩ := Go.Deep.choose_lt each
        have hlen : ((List.range len).map fun i => (q i).1).length = len := by simp
        refine ⟨.mk n r ((List.range len).map fun i => (q i).1), .slice (some a) len cap, rfl, ?_⟩
        have := CAt.mk (w := W) (B := W.heap.size) n r ((List.range len).map fun i => (q i).1) (some a) a cap (fun i => (q i).2) (ok_of_wf wn) (ok_of_wf wr) (by rw [hlen]; omega) (fun _ => rfl) (fun i t ht => ?_) (fun i t ht => ?_)
        · rw [hlen] at this
          exact this
        · obtain ⟨hi, rfl⟩ := List.getElem?_eq_some_iff.1 ht
          rw [hlen] at hi
          simp only [List.getElem_map, List.getElem_range]
          obtain ⟨p1, p2, p3, p4, _⟩ := hq i hi
          exact ⟨p1, p2, p3, p4⟩
        · obtain ⟨hi, rfl⟩ := List.getElem?_eq_some_iff.1 ht
          rw [hlen] at hi
          simp only [List.getElem_map, List.getElem_range]
          exact (hq i hi).2.2.2.2
theorem agg_of_cells {v x y z : Value} (h : v.cells.toList = [x, y, z]) : v = .agg #[x, y, z] := by
  unfold Value.cells at h
  split at h
  · rename_i cs
    congr 1
    apply Array.ext'
    simpa using h
  · simp at h
/-- the argument -/
theorem cert_of_trod {H : Type} {enc : TypeId × Value → H} {W : World} {sp : Nat → Bool} {held : Bool} {v : Value} {d : DataW H} {p : List MemPlace} (h : DataW.Trod enc Tryd.prog W 0 sp held 24 v d p) :
    ∃ (t : Tree) (s : Value), v = .agg #[.int .i64 t.n, .int .i64 t.r, s] ∧ CAt W W.heap.size t s := by
  obtain ⟨fuel, hf⟩ := h
  obtain ⟨t, s, e, hc⟩ := cat_of_trod fuel _ _ hf
  exact ⟨t, s, agg_of_cells e, hc⟩
end Go.Proofs.YtlchmaiflcnaoaaDoor
