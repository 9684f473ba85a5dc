/- The walk of the answers' CertParts, at a tree that is not too deep. -/
import Derived.Test.YtlchmaiflcnaoaaDoorKCertD
import Derived.Deep.LoopGhost
namespace Go.Proofs.YtlchmaiflcnaoaaDoor
open Go.RowKit

/-- what CertParts' rounds keep -/
def PartsI (W0 : World) (B : Nat) (t : Tree) (S O : List (Tree × Value)) : Prop :=
  O.map Prod.fst ++ pres (S.reverse.map Prod.fst) = pre t ∧ S.length ≤ 1 + 1100 * O.length ∧ O.length ≤ 1001 ∧ (∀ p ∈ S, (∃ d, deepT p.1 d = false) ∧ CAt W0 B p.1 p.2) ∧ ∀ p ∈ O, CAt W0 B p.1 p.2
theorem PartsI.pop {W0 : World} {B : Nat} {t : Tree} {S O : List (Tree × Value)} {p : Tree × Value} {cs : List (Tree × Value)} (h : PartsI W0 B t (S ++ [p]) O) (hl : O.length < 1001) (hc : cs.map Prod.fst = p.1.l) (hcs : ∀ x ∈ cs, CAt W0 B x.1 x.2) :
    PartsI W0 B t (S ++ cs.reverse) (O ++ [p]) := by
  obtain ⟨h1, h2, h3, h4, h5⟩ := h
  obtain ⟨⟨d, hd⟩, hp⟩ := h4 p (by simp)
  obtain ⟨k1, k2⟩ := deepT_false hd
  have hlen : cs.length ≤ 1100 := by rw [← hc, List.length_map] at k1; exact k1
  refine ⟨?_, ?_, ?_, ?_, ?_⟩
  · rw [← h1]
    simp only [List.reverse_append, List.reverse_reverse, List.map_append, List.reverse_cons, List.reverse_nil, List.nil_append, List.map_cons, List.map_nil, hc, pres_app, List.append_assoc]
    congr 1
    show [p.1] ++ (pres p.1.l ++ _) = pres [p.1] ++ _
    rw [show pres [p.1] = pre p.1 by rw [pres, pres, List.append_nil], pre_eq]
    rfl
  · simp only [List.length_append, List.length_reverse, List.length_cons, List.length_nil] at h2 ⊢
    omega
  · simp only [List.length_append, List.length_cons, List.length_nil]
    omega
  · intro x hx
    rcases List.mem_append.1 hx with hx | hx
    · exact h4 x (by simp [hx])
    · have hx := List.mem_reverse.1 hx
      exact ⟨⟨d + 1, k2 _ (by rw [← hc]; exact List.mem_map_of_mem hx)⟩, hcs x hx⟩
  · intro x hx
    rcases List.mem_append.1 hx with hx | hx
    · exact h5 x hx
    · simp at hx
      subst hx
      exact hp
theorem PartsI.done {W0 : World} {B : Nat} {t : Tree} {S O : List (Tree × Value)} (h : PartsI W0 B t S O) (hd : S = [] ∨ O.length = 1001) : O.map Prod.fst = (pre t).take 1001 := by
  obtain ⟨h1, _, h3, _, _⟩ := h
  rw [← h1]
  rcases hd with rfl | hd
  · simp only [List.reverse_nil, List.map_nil, pres, List.append_nil]
    exact (List.take_of_length_le (by rw [List.length_map]; exact h3)).symm
  · rw [List.take_append_of_le_length (by rw [List.length_map]; omega)]
    exact (List.take_of_length_le (by rw [List.length_map]; omega)).symm

theorem cinfo_parts : ∃ i0, Tryd.prog.info? 24 = some i0 ∧ i0.zero = some (.agg #[.int .i64 0, .int .i64 0, .slice none 0 0]) ∧ i0.size = 3 ∧ i0.bytes = 40 := by
  have h := cinfo
  cases hi : Tryd.prog.info? 24 with
  | none => rw [hi] at h; cases h
  | some i =>
    rw [hi] at h
    simp only [Option.map_some, Option.some.injEq, Prod.mk.injEq] at h
    exact ⟨i, rfl, h.1, h.2.1, h.2.2⟩
theorem len_ok {a b : Nat} (h : a ≤ 3000000) (hb : b ≤ 2) : a + b ≤ maxLen ∧ (a + b) * 40 ≤ 140737488355328 := by simp only [maxLen]; omega
theorem flat_one (p : Tree × Value) : [p].flatMap encC = encC p := by simp
theorem one_cells (p : Tree × Value) (h : ∃ A n c, p.2 = .slice A n c) : ∀ u ∈ encC p, u.oneCell' = true := by
  obtain ⟨A, n, c, e⟩ := h
  intro u hu
  simp [encC] at hu
  rcases hu with rfl | rfl | rfl
  · rfl
  · rfl
  · rw [e]; rfl

theorem CB.grown {w w' : World} {g : Nat} {n r : Int} {s : Value} {u : Option Nat} (h : CB w g n r s) (hg : w.grownBy w' u) (hne : some g ≠ u) : CB w' g n r s := (hg.block g h.lt hne).trans h
theorem CO.apart {w : World} {base : Nat} {v u : Value} {g c n : Nat} {L : List (Tree × Value)} (ha : ApartV v u) (h : CO w base v L) (hu : u.ownBlock = some g ∨ g = w.heap.size) : ApartV v (.slice (some ⟨g, 0, none⟩) n c) := by
  refine ha.new h ?_
  rcases hu with hu | hu
  · left; rw [hu]; rfl
  · right; rw [← hu]; rfl
theorem not_own {v : Value} {g k c n H : Nat} (h : v.ownBlock ≠ some k) (hu : v.ownBlock = some g ∨ g = H) (hk : k < H) : (Value.slice (some ⟨g, 0, none⟩) n c).ownBlock ≠ some k := by
  rcases hu with hu | hu
  · rw [← show v.ownBlock = (Value.slice (some ⟨g, 0, none⟩) n c).ownBlock by rw [hu]; rfl]; exact h
  · intro e
    simp only [Value.ownBlock, Option.some.injEq] at e
    omega
theorem drop_rev {α : Type} {l : List α} {i : Nat} {x : α} (h : l[i]? = some x) : (l.drop i).reverse = (l.drop (i + 1)).reverse ++ [x] := by
  obtain ⟨hi, rfl⟩ := List.getElem?_eq_some_iff.1 h
  rw [List.drop_eq_getElem_cons hi, List.reverse_cons]

set_option maxRecDepth 100000 in
set_option maxHeartbeats 6400000 in
theorem certParts_any (W0 : World) (B : Nat) (t : Tree) (s : Value) (hs : CAt W0 B t s) (hd : deepT t 0 = false) (w : World) (hB : B ≤ w.heap.size) (hW : Below B W0 w) :
    Calls Tryd.prog 12 #[.agg #[.int .i64 t.n, .int .i64 t.r, s]] w fun e w' => (∃ (v : Value) (L : List (Tree × Value)), e = .returned v ∧ CO w' w.heap.size v L ∧ L.map Prod.fst = (pre t).take 1001 ∧ ∀ p ∈ L, CAt W0 B p.1 p.2) ∧ Below w.heap.size w w' := by
  obtain ⟨A, n0, cap, rfl⟩ := hs.form
  have HI0 : Hid (PartsI W0 B t [(t, .slice A n0 cap)] []) := hide ⟨by simp [pres], by simp, by simp, fun p hp => by simp at hp; subst hp; exact ⟨⟨0, hd⟩, hs⟩, by simp⟩
  obtain ⟨i0, hi, hz0, hz1, hz2⟩ := cinfo_parts
  have HI := hide (And.intro hi (And.intro hz0 (And.intro hz1 hz2)))
  have HW := hide (And.intro hB hW)
  have B1 := hide (bel_o w (.cells #[.int .i64 t.n, .int .i64 t.r, .slice A n0 cap] 24))
  have B2 := hide (B1.out.trans ((bel_o (w.alloc (.cells #[.int .i64 t.n, .int .i64 t.r, .slice A n0 cap] 24)) (.cells #[.int .i64 t.n, .int .i64 t.r, .slice A n0 cap] 24)).mono B1.out.size))
  have S2 : Hid (CO ((w.alloc (.cells #[.int .i64 t.n, .int .i64 t.r, .slice A n0 cap] 24)).alloc (.cells #[.int .i64 t.n, .int .i64 t.r, .slice A n0 cap] 24)) w.heap.size (.slice (some ⟨w.heap.size + 1, 0, none⟩) 1 1) [(t, .slice A n0 cap)]) := hide (by
    have := World.ownsRow_lit (base := w.heap.size) (e := 24) (size := 3) (w.alloc (.cells #[.int .i64 t.n, .int .i64 t.r, .slice A n0 cap] 24)) #[.int .i64 t.n, .int .i64 t.r, .slice A n0 cap] 1 (by simp) (by simp [maxLen]) rfl
    rw [World.size_alloc] at this
    exact this)
  obtain ⟨n, hn'⟩ : ∃ n, t.n = n := ⟨_, rfl⟩
  obtain ⟨r, hr'⟩ : ∃ r, t.r = r := ⟨_, rfl⟩
  rw [hn', hr'] at B1 B2 S2
  rw [hn', hr']
  clear hs hd hB hW hi hz0 hz1 hz2 hn' hr' B1
  go_enter Tryd.func12, Tryd.ntmps12
  go_wp2_with fail
  obtain ⟨W2, hW2⟩ : ∃ Z, (w.alloc (.cells #[.int .i64 n, .int .i64 r, .slice A n0 cap] 24)).alloc (.cells #[.int .i64 n, .int .i64 r, .slice A n0 cap] 24) = Z := ⟨_, rfl⟩
  rw [hW2] at B2 S2
  (try rw [hW2])
  clear hW2
  go_loopg [3, 4] 1001 (fun M sv ov wr => ∃ S O : List (Tree × Value), M = 1001 - O.length ∧ Hid (PartsI W0 B t S O) ∧ Hid (CO wr w.heap.size sv S) ∧ Hid (CO wr w.heap.size ov O) ∧ Hid (ApartV sv ov) ∧ Hid (Below w.heap.size w wr))
  case atStart => exact ⟨_, [], rfl, HI0, S2, hide (CO.nil _ _), hide (.inr (by simp [Value.ownBlock])), B2⟩
  case round =>
    clear HI0 S2 B2
    obtain ⟨S, O, rfl, HPI, HS, HO, HA, HB⟩ := hrel
    obtain ⟨wo, rfl⟩ : ∃ Z : World, Z = wr := ⟨_, rfl⟩
    obtain ⟨oA, oc, hov, hom⟩ := HO.out.form
    subst hov
    rcases List.eq_nil_or_concat S with rfl | ⟨S', p, rfl⟩
    · obtain ⟨sA, sc, hsv, _⟩ := HS.out.form
      subst hsv
      have HR := hide (HPI.out.done (.inl rfl))
      have HR2 := hide HPI.out.2.2.2.2
      clear HPI hom HA
      go_wp2_with fail
      go_ret
      exact ⟨⟨_, O, rfl, HO.out, HR.out, HR2.out⟩, HB.out⟩
    rw [List.concat_eq_append] at HPI HS
    obtain ⟨ol, hol'⟩ : ∃ ol, O.length = ol := ⟨_, rfl⟩
    have HOL := hide hol'
    rw [hol'] at hom
    rw [hol']
    obtain ⟨m, hm'⟩ : ∃ m, S'.length = m := ⟨_, rfl⟩
    have hlen : (S' ++ [p]).length = m + 1 := by rw [List.length_append, hm']; rfl
    have hpi := HPI.out
    have hm1 : m + 1 ≤ 1 + 1100 * ol := by rw [← hlen, ← hol']; exact hpi.2.1
    have hm2 : ol ≤ 1001 := by rw [← hol']; exact hpi.2.2.1
    obtain ⟨g, c, hsv, hgc, hgl, hgb, d0, d1, d2⟩ := HS.out.at_ (i := m) (p := p) (by rw [← hm']; simp)
    rw [hlen] at hsv hgc
    subst hsv
    have q1 : decide ((0 : Int) < (m : Int) + 1) = true := by rw [decide_eq_true_eq]; omega
    by_cases hol : ol < 1001
    · as_aux_lemma =>
      obtain ⟨⟨dd, hdd⟩, hpc⟩ := hpi.2.2.2.1 p (by simp)
      obtain ⟨x, s'⟩ := p
      simp only at d0 d1 d2 hpc hdd
      obtain ⟨pA, pc, cs, rfl, hcs, hcc⟩ := hpc.pairs
      have hN2 : x.l.length ≤ 1100 := (deepT_false hdd).1
      obtain ⟨N2, hN2'⟩ : ∃ N2, x.l.length = N2 := ⟨_, rfl⟩
      have hcl : cs.length = N2 := by rw [← hN2', ← hcs, List.length_map]
      rw [hN2'] at hN2 d2 HS HPI hlen
      have HCC := hide (fun W (k : Below B W0 W) (i : Nat) (q : Tree × Value) (hq : cs[i]? = some q) => show ∃ a yA yn yc, pA = some a ∧ q.2 = .slice yA yn yc ∧ W.cell? (a.add (i * 3)) = some (.int .i64 q.1.n) ∧ W.cell? ⟨(a.add (i * 3)).block, (a.add (i * 3)).off + 1, none⟩ = some (.int .i64 q.1.r) ∧ W.cell? ⟨(a.add (i * 3)).block, (a.add (i * 3)).off + 2, none⟩ = some q.2 from by
        obtain ⟨a, e, h0, h1, h2, h3, h4⟩ := hcc i q hq
        obtain ⟨yA, yn, yc, hy⟩ := h4.form
        exact ⟨a, yA, yn, yc, e, hy, (k.cell (by (try dsimp only); rw [add_block]; exact h0)).trans h1, (k.cell (by (try dsimp only); rw [add_block]; exact h0)).trans h2, (k.cell (by (try dsimp only); rw [add_block]; exact h0)).trans h3⟩)
      have HLB := hide (fun W (k : Below w.heap.size w W) => show Below B W0 W from HW.out.2.trans (k.mono HW.out.1))
      have HNX := hide (HPI.out.pop (cs := cs) (by rw [HOL.out]; exact hol) hcs (fun y hy => by
        obtain ⟨i, hi⟩ := List.getElem?_of_mem hy
        obtain ⟨a, _, _, _, _, _, h4⟩ := hcc i y hi
        exact h4))
      have HCL := hide hcl
      obtain ⟨xn, hxn⟩ : ∃ z, x.n = z := ⟨_, rfl⟩
      obtain ⟨xr, hxr⟩ : ∃ z, x.r = z := ⟨_, rfl⟩
      have HXE := hide (And.intro hxn hxr)
      rw [hxn] at d0
      rw [hxr] at d1
      have b1 : (0 : Int) ≤ (m : Int) := by omega
      have b2 : (m : Int) < (m : Int) + 1 := by omega
      have b3 : (m : Int) ≤ (c : Int) := by omega
      have q2 : decide ((ol : Int) < 1001) = true := by rw [decide_eq_true_eq]; omega
      have hw1 := hide (show wrap64 (m : Int) = (m : Int) ∧ wrap64 ((m : Int) + 1 - 1) = (m : Int) ∧ wrap64 ((N2 : Int) - 1) = (N2 : Int) - 1 by unfold wrap64; omega)
      have HMB := hide (And.intro (show m ≤ 1200000 by omega) (And.intro hN2 (show ol < 1001 from hol)))
      have SP : Hid (CO wo w.heap.size (.slice (some ⟨g, 0, none⟩) m c) S') := hide (by
        rw [← hm']
        exact CO.pop (p := (x, .slice pA N2 pc)) (by rw [hlen]; exact HS.out))
      have NG : Hid ((Value.slice (some ⟨g, 0, none⟩) m c).ownBlock ≠ some wo.heap.size) := hide (by simp [Value.ownBlock]; omega)
      have NO : Hid ((Value.slice oA ol oc).ownBlock ≠ some wo.heap.size) := hide (by
        have ho := HO.out
        rw [HOL.out] at ho
        intro e
        have := (ho.own _ e).2
        omega)
      have HO' : Hid (CO wo w.heap.size (.slice oA ol oc) O) := hide (by have ho := HO.out; rw [HOL.out] at ho; exact ho)
      have HA' : Hid (ApartV (.slice (some ⟨g, 0, none⟩) m c) (.slice oA ol oc)) := hide (by have ha := HA.out; rw [HOL.out] at ha; exact ha)
      have hbo := bel_o wo (.cells #[.int .i64 xn, .int .i64 xr, .slice pA N2 pc] 24)
      have SP5 := hide (SP.out.below hbo)
      have HO5 := hide (HO'.out.below hbo)
      have HB5 := hide (HB.out.alloc HB.out.size (.cells #[.int .i64 xn, .int .i64 xr, .slice pA N2 pc] 24))
      have P5 := hide (CB.made wo xn xr (.slice pA N2 pc))
      have w1 := hw1.out.1
      have w1' := hw1.out.2.1
      clear hpi hm1 hm2 hgc hgl hgb hdd hpc hcc hcl hcs hN2 hN2' hxn hxr hbo HS HO HA HPI SP HO' hom hlen hol HB
      go_upto_region 6 with (fail)
      obtain ⟨W5, hW5⟩ : ∃ Z, wo.alloc (.cells #[.int .i64 xn, .int .i64 xr, .slice pA N2 pc] 24) = Z := ⟨_, rfl⟩
      rw [hW5] at SP5 HO5 HB5 P5
      (try rw [hW5])
      obtain ⟨g5, hg5⟩ : ∃ g, wo.heap.size = g := ⟨_, rfl⟩
      rw [hg5] at P5 NG NO
      (try rw [hg5])
      clear hW5 hg5 d0 d1 d2 q1 q2 b2 b3 w1 w1'
      obtain ⟨p0, p1, p2⟩ := P5.out.cells
      have hE : encC (x, .slice pA N2 pc) = [.int .i64 xn, .int .i64 xr, .slice pA N2 pc] := by unfold encC; rw [HXE.out.1, HXE.out.2]
      have HE := hide hE
      have hsz := HB5.out.size
      clear hE
      go_wp2_with (at_builtin; refine wpList_append_lies _ rfl _ _ 22 rfl w.heap.size 24 i0 (.agg #[.int .i64 0, .int .i64 0, .slice none 0 0]) 3 40 Tryd.underlying22 HI.out.1 HI.out.2.1 HI.out.2.2.1 HI.out.2.2.2 rfl (by decide) (.slice oA ol oc) ol (O.flatMap encC) rfl (by have := HO5.out.below (bel_o W5 (.cells #[.int .i64 xn, .int .i64 xr, .slice pA N2 pc] 24)); unfold CO at this; rw [HOL.out] at this; exact this) ⟨W5.heap.size, 0, none⟩ 1 1 [.int .i64 xn, .int .i64 xr, .slice pA N2 pc] rfl rfl (World.news_of_block (heap_alloc_new W5 _)) ?c2 (by decide) ?c3 ?c4 ?c5 _ rfl ?_)
      case c2 => intro u hu; simp at hu; rcases hu with rfl | rfl | rfl <;> rfl
      case c3 => have := HMB.out.2.2; simp only [maxLen]; omega
      case c4 => have := HMB.out.2.2; omega
      case c5 => simp; omega
      intro g6 cap6 W6 hown6 hg6 hat6 hlt6
      have hb5 := bel_o W5 (.cells #[.int .i64 xn, .int .i64 xr, .slice pA N2 pc] 24)
      have O6 : Hid (CO W6 w.heap.size (.slice (some ⟨g6, 0, none⟩) (ol + 1) cap6) (O ++ [(x, .slice pA N2 pc)])) := hide (CO.grow (by rw [HE.out, HOL.out]; exact hown6))
      have S6 := hide ((SP5.out.below hb5).kept hg6 HA'.out)
      have A6 := hide (CO.apart (n := ol + 1) (c := cap6) HA'.out (SP5.out.below hb5) (by rw [World.size_alloc]; exact hat6))
      have P6 := hide ((P5.out.below hb5).grown hg6 (fun e => NO.out e.symm))
      have B6 := hide ((HB5.out.trans (hb5.mono HB5.out.size)).grown hg6 (by simp; omega) (fun k e => ((HO5.out.below hb5).own k e).1))
      clear hown6 hg6 hat6 hlt6 hb5 P5 SP5 HO5 HB5 p0 p1 p2 HA' NO hsz HE
      obtain ⟨p0, p1, p2⟩ := P6.out.cells
      have w1'' := hw1.out.2.2
      go_wp2_with fail
      (try simp only [w1''])
      clear p0 p1 p2 w1''
      go_loopw [3, 6] (fun sv iv wr => ∃ (z : Int) (j : Nat), iv = .int .i64 z ∧ z = (j : Int) - 1 ∧ j ≤ N2 ∧ Hid (CO wr w.heap.size sv (S' ++ (cs.drop j).reverse)) ∧ Hid (CO wr w.heap.size (.slice (some ⟨g6, 0, none⟩) (ol + 1) cap6) (O ++ [(x, .slice pA N2 pc)])) ∧ Hid (ApartV sv (.slice (some ⟨g6, 0, none⟩) (ol + 1) cap6)) ∧ Hid (Below w.heap.size w wr) ∧ Hid (CB wr g5 xn xr (.slice pA N2 pc)) ∧ Hid (sv.ownBlock ≠ some g5)) (fun _ iv _ => (intOf iv + 1).toNat)
      case atStart => exact ⟨(N2 : Int) - 1, N2, rfl, rfl, Nat.le_refl _, by rw [← HCL.out, List.drop_length]; simpa using S6, O6, A6, B6, P6, NG⟩
      case round =>
        clear S6 O6 A6 B6 P6 NG
        obtain ⟨z, j, rfl, hz, hj, HS, HO, HA, HB, HP, HG⟩ := hrel
        obtain ⟨wi, rfl⟩ : ∃ Z : World, Z = wr := ⟨_, rfl⟩
        cases j with
        | zero =>
          have q0 : decide ((0 : Int) ≤ z) = false := by rw [decide_eq_false_iff_not]; omega
          have HS2 : Hid (CO wi w.heap.size u3 (S' ++ cs.reverse)) := hide (by simpa using HS.out)
          clear HS hz
          go_wp2_with fail
          go_roundg (1001 - (O ++ [(x, Value.slice pA N2 pc)]).length)
          case measure => have := HMB.out.2.2; rw [List.length_append, HOL.out]; simp; omega
          case rel => exact ⟨_, _, rfl, HNX, HS2, HO, HA, HB⟩
        | succ k =>
          obtain rfl : z = (k : Int) := by omega
          obtain ⟨q, hq⟩ : ∃ q, cs[k]? = some q := ⟨_, List.getElem?_eq_getElem (by rw [HCL.out]; omega)⟩
          obtain ⟨a, yA, yn, yc, rfl, hq2, e0, e1, e2⟩ := HCC.out wi (HLB.out wi HB.out) k q hq
          have HDR : Hid (S' ++ (cs.drop k).reverse = S' ++ (cs.drop (k + 1)).reverse ++ [q]) := hide (by rw [drop_rev hq, List.append_assoc])
          obtain ⟨y, ys⟩ := q
          simp only at hq2 e0 e1 e2
          subst hq2
          obtain ⟨yv, hyv⟩ : ∃ z, y.n = z := ⟨_, rfl⟩
          obtain ⟨yr, hyr⟩ : ∃ z, y.r = z := ⟨_, rfl⟩
          have HYE := hide (show encC (y, .slice yA yn yc) = [.int .i64 yv, .int .i64 yr, .slice yA yn yc] by unfold encC; rw [hyv, hyr])
          rw [hyv] at e0
          rw [hyr] at e1
          have c1 : (0 : Int) ≤ (k : Int) := by omega
          have c2 : (k : Int) < (N2 : Int) := by omega
          have hw2 := hide (show wrap64 ((k : Int) - 1) = (k : Int) - 1 by have := HMB.out.2.1; unfold wrap64; omega)
          obtain ⟨p0, p1, p2⟩ := HP.out.cells
          obtain ⟨L, hL⟩ : ∃ L, S' ++ (cs.drop (k + 1)).reverse = L := ⟨_, rfl⟩
          have hLl : L.length ≤ 2000000 := by
            rw [← hL, List.length_append, List.length_reverse, List.length_drop, HCL.out, hm']
            have := HMB.out.1
            have := HMB.out.2.1
            omega
          rw [hL] at HS HDR
          obtain ⟨sA, sc, hsv, _⟩ := HS.out.form
          obtain ⟨ll, hll⟩ : ∃ ll, L.length = ll := ⟨_, rfl⟩
          rw [hll] at hsv hLl
          subst hsv
          have HLL := hide hll
          have HKJ := hide (And.intro hj hLl)
          have hsz := HB.out.size
          clear hq hyv hyr hL hll hj hz hLl
          go_wp2_with (at_builtin; refine wpList_append_lies _ rfl _ _ 22 rfl w.heap.size 24 i0 (.agg #[.int .i64 0, .int .i64 0, .slice none 0 0]) 3 40 Tryd.underlying22 HI.out.1 HI.out.2.1 HI.out.2.2.1 HI.out.2.2.2 rfl (by decide) (.slice sA ll sc) ll (L.flatMap encC) rfl (by have := HS.out.below (bel_o wi (.cells #[.int .i64 yv, .int .i64 yr, .slice yA yn yc] 24)); unfold CO at this; rw [HLL.out] at this; exact this) ⟨wi.heap.size, 0, none⟩ 1 1 [.int .i64 yv, .int .i64 yr, .slice yA yn yc] rfl rfl (World.news_of_block (heap_alloc_new wi _)) ?c2 (by decide) ?c3 ?c4 ?c5 _ rfl ?_)
          case c2 => intro u hu; simp at hu; rcases hu with rfl | rfl | rfl <;> rfl
          case c3 => have := HKJ.out.2; simp only [maxLen]; omega
          case c4 => have := HKJ.out.2; omega
          case c5 => simp; omega
          intro g8 cap8 W8 hown8 hg8 hat8 hlt8
          have hb8 := bel_o wi (.cells #[.int .i64 yv, .int .i64 yr, .slice yA yn yc] 24)
          have S8 : Hid (CO W8 w.heap.size (.slice (some ⟨g8, 0, none⟩) (ll + 1) cap8) (S' ++ (cs.drop k).reverse)) := hide (by rw [HDR.out]; exact CO.grow (by rw [HYE.out, HLL.out]; exact hown8))
          have O8 := hide ((HO.out.below hb8).kept hg8 HA.out.symm)
          have A8 := hide (CO.apart (n := ll + 1) (c := cap8) HA.out.symm (HO.out.below hb8) (by rw [World.size_alloc]; exact hat8)).symm
          have P8 := hide ((HP.out.below hb8).grown hg8 (fun e => HG.out e.symm))
          have G8 := hide (not_own (n := ll + 1) (c := cap8) HG.out hat8 (by have := HP.out.lt; simp; omega))
          have B8 := hide ((HB.out.trans (hb8.mono HB.out.size)).grown hg8 (by simp; omega) (fun k e => ((HS.out.below hb8).own k e).1))
          have HK1 : Hid (k ≤ N2) := hide (by have := HKJ.out.1; omega)
          clear hown8 hg8 hat8 hlt8 hb8 HS HO HA HP HG HB e0 e1 e2 p0 p1 p2 hsz HYE HDR HLL HKJ c1 c2
          have w2 := hw2.out
          go_wp2_with fail
          (try simp only [w2])
          clear w2 hw2
          exact ⟨⟨(k : Int) - 1, k, rfl, rfl, HK1.out, S8, O8, A8, B8, P8, G8⟩, by simp [intOf]⟩
    · obtain rfl : ol = 1001 := by omega
      have HR := hide (hpi.done (.inr hol'))
      have HR2 := hide hpi.2.2.2.2
      have HO' : Hid (CO wo w.heap.size (.slice oA 1001 oc) O) := hide (by have ho := HO.out; rw [HOL.out] at ho; exact ho)
      clear hpi hom HA HS d0 d1 d2 HO hm1 hm2 hgc hgl hgb hlen
      go_wp2_with fail
      go_ret
      exact ⟨⟨_, O, rfl, HO'.out, HR.out, HR2.out⟩, HB.out⟩
end Go.Proofs.YtlchmaiflcnaoaaDoor
