/- The walk of residue.Roots at 4 by 15, the document's example. -/
import Derived.Test.YtgocnjklpafabaaDoorResD
import Derived.Test.YtgocnjklpafabaaDoorLook
import Derived.Deep.AppendLies
import Derived.Deep.RegionHeld3
import Derived.Deep.DeepCutAuto
import Derived.Deep.LoopGhost
namespace Go.Proofs.YtgocnjklpafabaaDoor
open Go.RowKit

theorem finfo : (Tryd.prog.info? 53).map (fun i => (i.zero, i.size, i.bytes)) = some (some .nilFunc, 1, 8) := by kernel_rfl
theorem one_at (W : World) (a : Value) (T : TypeId) (g : Nat) (hg : g = W.heap.size) : ∀ (j : Nat) (u : Value), [a][j]? = some u → (W.alloc (.cells #[a] T)).cell? ((⟨g, 0, none⟩ : Addr).add j) = some u :=
  hg ▸ World.news_of_block (cs := #[a]) (t := T) (fr := (0, 0)) (heap_alloc_new W _)
theorem bel_da (W : World) (o : Obj) : Below W.heap.size W (W.drew.alloc o) := (below_drewN (Below.refl _ _) 1).alloc (by simp) o
theorem own_blw {w w' : World} {base n size : Nat} {e : TypeId} {v : Value} {xs : List Value} (h : w.ownsRow base e size v n xs) (k : Below w.heap.size w w') : w'.ownsRow base e size v n xs := by
  obtain ⟨h1, h2⟩ := h
  refine ⟨h1, ?_⟩
  rcases h2 with h2 | ⟨g, cap, cur, e, hg, hh, hr⟩
  · exact .inl h2
  · exact .inr ⟨g, cap, cur, e, hg, (k.block g (heap_lt hh)).trans hh, hr⟩
/-- the two rows behind some rounds -/
structure LSt (W0 W : World) (lv mv : Value) (fs : List Value) (ms : List Nat) : Prop where
  l : W.ownsRow W0.heap.size 53 1 lv fs.length fs
  m : Row W W0.heap.size mv ms
  d : ∀ g h, lv.ownBlock = some g → mv.ownBlock = some h → g ≠ h
  b : Below W0.heap.size W0 W
theorem LSt.below {W0 W W' : World} {lv mv : Value} {fs : List Value} {ms : List Nat} (h : LSt W0 W lv mv fs ms) (k : Below W.heap.size W W') : LSt W0 W' lv mv fs ms :=
  ⟨own_blw h.l k, h.m.below k, h.d, h.b.trans (k.mono h.b.size)⟩

theorem jcall (W : World) (k x y g1 g2 : Nat) (hk : k < 2) (hx : x ∈ outK k) (hy : y ∈ listK k) (h1 : g1 = W.heap.size) (h2 : g2 = W.heap.size + 1) :
    Calls Tryd.prog 30 #[.slice (some ⟨g1, 0, none⟩) 2 2, .slice (some ⟨g2, 0, none⟩) 2 2] ((W.alloc (.cells #[.int .i64 x, .int .i64 y] 3)).alloc (.cells #[.int .i64 (modK k : Nat), .int .i64 (primeK k : Nat)] 3)) fun e w' => e = .returned (.tuple #[.int .i64 (jnK k x y : Nat), .int .i64 ((modK k * primeK k : Nat) : Int), fv (0, 0)]) ∧ Below W.heap.size W w' := by
  subst h1 h2
  have i1 : Ints ((W.alloc (.cells #[.int .i64 x, .int .i64 y] 3)).alloc (.cells #[.int .i64 (modK k : Nat), .int .i64 (primeK k : Nat)] 3)) ((W.alloc (.cells #[.int .i64 x, .int .i64 y] 3)).alloc (.cells #[.int .i64 (modK k : Nat), .int .i64 (primeK k : Nat)] 3)).heap.size (some ⟨W.heap.size, 0, none⟩) [(x : Int), y] :=
    ((ints_new W [(x : Int), y] 3).below (bel_o _ _) (Nat.le_refl _)).more (by simp)
  have i2 : Ints ((W.alloc (.cells #[.int .i64 x, .int .i64 y] 3)).alloc (.cells #[.int .i64 (modK k : Nat), .int .i64 (primeK k : Nat)] 3)) ((W.alloc (.cells #[.int .i64 x, .int .i64 y] 3)).alloc (.cells #[.int .i64 (modK k : Nat), .int .i64 (primeK k : Nat)] 3)).heap.size (some ⟨W.heap.size + 1, 0, none⟩) [(modK k : Int), primeK k] := by
    have := ints_new (W.alloc (.cells #[.int .i64 x, .int .i64 y] 3)) [(modK k : Int), primeK k] 3
    rwa [show (W.alloc (.cells #[.int .i64 x, .int .i64 y] 3)).heap.size = W.heap.size + 1 from World.size_alloc ..] at this
  refine (join_any _ _ 2 2 2 2 _ _ _ rfl rfl i1 i2).mono ?_
  rintro e w' ⟨o, ho, rfl, hb⟩
  have := join_K hk hx hy ho
  subst this
  exact ⟨rfl, ((bel_o W _).alloc (bel_o W _).size _).trans (hb.mono (by simp; omega))⟩
theorem row_form {w : World} {base : Nat} {v : Value} {L : List Nat} {n : Nat} (h : Row w base v L) (hn : L.length = n) (hL : 0 < n) : ∃ g c, v = .slice (some ⟨g, 0, none⟩) n c ∧ base ≤ g ∧ g < w.heap.size ∧ ∀ k x : Nat, L[k]? = some x → w.cell? ⟨g, k, none⟩ = some (.int .i64 (x : Nat)) := by
  subst hn
  obtain ⟨h1, h2⟩ := id h
  rcases h2 with ⟨_, h0⟩ | ⟨g, c, cur, rfl, hg, hh, _⟩
  · omega
  · refine ⟨g, c, rfl, hg, heap_lt hh, fun k x hx => ?_⟩
    have := h.cells (g := g) rfl k (.int .i64 (x : Nat)) (by rw [List.getElem?_map, hx]; rfl)
    have e : (⟨g, 0, none⟩ : Addr).add k = ⟨g, k, none⟩ := by cases k <;> simp [Addr.add]
    rwa [e] at this
theorem prime_le (k : Nat) : primeK k ≤ 5 := by unfold primeK; split <;> omega
theorem row_one (W : World) (x : Nat) (g : Nat) (hg : g = W.heap.size) : Row (W.alloc (.cells #[.int .i64 x] 3)) W.heap.size (.slice (some ⟨g, 0, none⟩) 1 1) [x] := by
  subst hg
  exact ⟨rfl, .inr ⟨_, 1, #[.int .i64 x], rfl, Nat.le_refl _, heap_alloc_new W _, Nat.le_refl _, by decide, rfl, rfl⟩⟩

set_option maxRecDepth 100000 in
set_option maxHeartbeats 6400000 in
theorem roots_any (w : World) (hT : TabW w) :
    Calls Tryd.prog 14 #[.int .i64 4, .int .i64 15] w fun e w' => ∃ v, e = .returned (.tuple #[v, fv (0, 0)]) ∧ Row w' w.heap.size v [2, 7, 8, 13] ∧ Below w.heap.size w w' := by
  have L : ∀ (W : World) (g : Nat), g = W.heap.size → Hid (Calls Tryd.prog 16 #[.slice (some ⟨g, 0, none⟩) 2 2] (W.alloc (.cells #[.int .i64 4, .int .i64 15] 3)) (RetFault (W.alloc (.cells #[.int .i64 4, .int .i64 15] 3)) (lookK 0 [4, 15]))) := fun W g hg => hg ▸ look_any _ 2 2 [4, 15] _ rfl (by omega) (ints_new W [4, 15] _)
  have e0 : lookK 0 [4, 15] = (0, 0) := by decide
  rw [e0] at L
  unfold RetFault at L
  have HT := hide hT
  have CP := fun W (hW : TabW W) => hide (parts_any 15 W (by omega) (by omega) hW)
  obtain ⟨i0, hi, hz0, hz1, hz2⟩ := info_parts iinfo
  have HI := hide (And.intro hi (And.intro hz0 (And.intro hz1 hz2)))
  clear hi hz0 hz1 hz2
  obtain ⟨i1, hi, hz0, hz1, hz2⟩ := info_parts finfo
  have HI1 := hide (And.intro hi (And.intro hz0 (And.intro hz1 hz2)))
  clear hi hz0 hz1 hz2
  have U := Tryd.underlying38
  have UF := Tryd.underlying48
  have P3 := fun W => hide (rpow_at 3 1 3 W (by omega) (by omega) (by omega) (by decide))
  have P5 := fun W => hide (rpow_at 5 1 5 W (by omega) (by omega) (by omega) (by decide))
  have CB3 := fun W => hide (by_43 W)
  have CB5 := fun W => hide (by_45 W)
  clear e0 hT
  go_enter Tryd.func14, Tryd.ntmps14
  go_wp2_with fail
  refine (L _ _ (by simp)).out.mono ?_
  rintro e w1 ⟨rfl, hb⟩
  simp only [fv]
  have F1 := hide ((((FC.fresh w).below ((Below.refl _ _).alloc (Nat.le_refl _) (.cells #[.int .i64 4, .int .i64 15] 3))).below hb).below ((Below.refl _ _).alloc (Nat.le_refl _) (.cells #[.int .i64 0, .int .i64 0] 25)))
  have HB := hide (below_new (below_new2 hb))
  have HB1 := hide (HB.out.alloc HB.out.size (.cells #[.int .i64 0, .int .i64 0] 25))
  clear hb L
  go_wp2_with fail
  refine (CP _ (HT.out.below HB1.out)).out.mono ?_
  rintro e w2 ⟨v, S, rfl, hS, hTold, hP, hb⟩
  have hS35 := fifteen hS hTold
  subst hS35
  have HB2 := hide (HB1.out.trans (hb.mono HB1.out.size))
  have F2 := hide (F1.out.below hb)
  have HP := hide hP.read
  obtain ⟨gp, cp, rfl, hgp, hpc⟩ : ∃ g c, v = .slice (some ⟨g, 0, none⟩) 2 c ∧ g < w2.heap.size ∧ (w2.cell? ⟨g, 0, none⟩ = some (.int .i64 3) ∧ w2.cell? ⟨g, 1, none⟩ = some (.int .i64 1) ∧ w2.cell? ⟨g, 2, none⟩ = some (.int .i64 5) ∧ w2.cell? ⟨g, 3, none⟩ = some (.int .i64 1)) := by
    rcases HP.out with ⟨_, h⟩ | ⟨g, c, e, hg, hc⟩
    · exact absurd h (by decide)
    · exact ⟨g, c, e, hg, (hc 0 (3, 1) (by decide)).1, (hc 0 (3, 1) (by decide)).2, (hc 1 (5, 1) (by decide)).1, (hc 1 (5, 1) (by decide)).2⟩
  have HPC := hide hpc
  clear hb hP hTold hS hpc HP CP F1 HB HB1
  go_wp2_with fail
  refine wp_loop_rounds 3 ?_
  rw [rounds_succ]
  obtain ⟨r0, r1, r2, r3⟩ := HPC.out
  go_wp2_with fail
  refine (CB3 _).out.mono ?_
  rintro e w3 ⟨f3, rfl, hby3, hb⟩
  obtain ⟨gl3, gs3, gt3, c3, ga3, rfl, _⟩ := id hby3
  obtain ⟨n2, hn2⟩ : ∃ n, w2.heap.size = n := ⟨_, rfl⟩
  have hx3 := (hb.block n2 (by subst hn2; simp)).trans (by subst hn2; exact heap_alloc_new w2 _)
  have HX3 := hide hx3
  have BW3 := hide (HB2.out.trans (((bel_o w2 (.cells #[.int .i64 3, .int .i64 1] 52)).trans (hb.mono (bel_o w2 (.cells #[.int .i64 3, .int .i64 1] 52)).size)).mono HB2.out.size))
  have B23 := hide ((bel_o w2 (.cells #[.int .i64 3, .int .i64 1] 52)).trans (hb.mono (bel_o w2 (.cells #[.int .i64 3, .int .i64 1] 52)).size))
  have HBY3 := hide hby3
  have hmin : min (2 : Int) 1001 = 2 := by decide
  clear hby3 hb hx3 r0 r1 r2 r3
  go_upto_region 18 with (fail)
  have KA : ∀ W, Below w3.heap.size w3 W → W.cell? ⟨n2, 0, none⟩ = some (.int .i64 3) ∧ W.cell? ⟨n2, 1, none⟩ = some (.int .i64 1) := fun W hW => by
    have h := (hW.block n2 (heap_lt HX3.out)).trans HX3.out
    exact ⟨by simp [World.cell?, h], by simp [World.cell?, h]⟩
  go_region_held3 (fun W => W.cell? ⟨n2, 0, none⟩ = some (.int .i64 3) ∧ W.cell? ⟨n2, 1, none⟩ = some (.int .i64 1))
    (first | exact KA _ (below_drewN (Below.refl _ _) 1) | exact KA _ (bel_da _ _) | exact KA _ BA.out | exact KA _ (BA.out.alloc BA.out.size _) | exact KA _ BB.out | exact KA _ (Below.refl _ _))
    (first
      | ((refine step_append_lies _ (by rfl) _ _ _ (by rfl) w3.heap.size 53 i1 .nilFunc 1 8 UF HI1.out.1 HI1.out.2.1 HI1.out.2.2.1 HI1.out.2.2.2 (by rfl) (by decide) (.slice none 0 0) 0 [] (by rfl) (World.ownsRow_nil _ _ _ _) ⟨w3.heap.size, 0, none⟩ 1 1 [.func (.func 48) #[] #[.pointer (some ⟨gl3, 0, none⟩), .pointer (some ⟨gs3, 0, none⟩), .pointer (some ⟨gt3, 0, none⟩)]] (by rfl) (by rfl) (one_at _ _ _ _ (by simp)) (by intro u hu; simp at hu; subst hu; rfl) (by decide) (by decide) (by decide) (by simp) (w3.heap.size + 1) (by simp) ?_; intro g8 cap8 wa hown8 hgrow8 hat8 hlt8; have BA := hide ((bel_da w3 _).grown hgrow8 (by simp) (fun k hk => by simp [Value.ownBlock] at hk))))
      | (go_at_call 29; refine (P3 _).out.mono ?_; rintro e w5 ⟨rfl, rfl⟩)
      | ((refine step_append_lies _ (by rfl) _ _ _ (by rfl) w3.heap.size 3 i0 (.int .i64 0) 1 8 U HI.out.1 HI.out.2.1 HI.out.2.2.1 HI.out.2.2.2 (by rfl) (by decide) (.slice none 0 0) 0 [] (by rfl) (World.ownsRow_nil _ _ _ _) ⟨wa.heap.size, 0, none⟩ 1 1 [.int .i64 3] (by rfl) (by rfl) (one_at _ _ _ _ (by simp)) (by intro u hu; simp at hu; subst hu; rfl) (by decide) (by decide) (by decide) (by have := BA.out.size; simp; omega) (wa.heap.size + 1) (by simp) ?_; intro g9 cap9 wb hown9 hgrow9 hat9 hlt9; have BB := hide ((BA.out.alloc BA.out.size _).grown hgrow9 (by have := BA.out.size; simp; omega) (fun k hk => by simp [Value.ownBlock] at hk)))))
  have hg9 : g9 = wa.heap.size + 1 := by
    rcases hat9 with h | h
    · simp [Value.ownBlock] at h
    · exact h
  have hg89 : g8 ≠ g9 := by omega
  have LS := hide (LSt.mk (W0 := w3) (fs := [_]) (ms := [3]) ((hown8.alloc (.cells #[.int .i64 3] 3)).kept hgrow9 (.inr (by simp [Value.ownBlock]))) hown9 (fun g h e1 e2 => by simp [Value.ownBlock] at e1 e2; omega) BB.out)
  have hgs : w3.heap.size ≤ g8 ∧ w3.heap.size ≤ g9 ∧ g8 < wb.heap.size ∧ g9 < wb.heap.size := ⟨(LS.out.l.lt g8 rfl).1, (LS.out.m.lt g9 rfl).1, (LS.out.l.lt g8 rfl).2, (LS.out.m.lt g9 rfl).2⟩
  have hgp3 : gp < w3.heap.size := Nat.lt_of_lt_of_le hgp B23.out.size
  have r2 : wb.cell? ⟨gp, 2, none⟩ = some (.int .i64 5) := ((BB.out.cell (p := ⟨gp, 2, none⟩) hgp3).trans (B23.out.cell (p := ⟨gp, 2, none⟩) hgp)).trans HPC.out.2.2.1
  have r3 : wb.cell? ⟨gp, 3, none⟩ = some (.int .i64 1) := ((BB.out.cell (p := ⟨gp, 3, none⟩) hgp3).trans (B23.out.cell (p := ⟨gp, 3, none⟩) hgp)).trans HPC.out.2.2.2
  have HGS := hide hgs
  rename_i hS
  clear hS hat9 hat8 hown8 hown9 hgrow8 hgrow9 hlt8 hlt9 BA KA hg9 hgs
  go_wp2_with fail
  rw [rounds_succ]
  go_wp2_with fail
  refine (CB5 _).out.mono ?_
  rintro e w4 ⟨f5, rfl, hby5, hb⟩
  obtain ⟨gl5, gs5, gt5, c5, ga5, rfl, _⟩ := id hby5
  obtain ⟨n4, hn4⟩ : ∃ n, wb.heap.size = n := ⟨_, rfl⟩
  have hx4 := (hb.block n4 (by subst hn4; simp)).trans (by subst hn4; exact heap_alloc_new wb _)
  have HX4 := hide hx4
  have Bb4 := hide ((bel_o wb (.cells #[.int .i64 5, .int .i64 1] 52)).trans (hb.mono (bel_o wb (.cells #[.int .i64 5, .int .i64 1] 52)).size))
  have LS4 := hide (LS.out.below Bb4.out)
  have HBY5 : Hid (ByAt w4 (wb.heap.size + 1) (.func (.func 48) #[] #[.pointer (some ⟨gl5, 0, none⟩), .pointer (some ⟨gs5, 0, none⟩), .pointer (some ⟨gt5, 0, none⟩)]) [3, 2] 5) := by have h := hby5; rw [World.size_alloc] at h; exact h
  have hn4l : n4 < w4.heap.size := heap_lt HX4.out
  have hg8n : g8 < n4 := by rw [← hn4]; exact HGS.out.2.2.1
  have hg9n : g9 < n4 := by rw [← hn4]; exact HGS.out.2.2.2
  have h34 : w3.heap.size ≤ w4.heap.size := LS4.out.b.size
  clear hby5 hb hx4 r2 r3
  have NE98 : (Value.slice (some (⟨g9, 0, none⟩ : Addr)) 1 cap9).ownBlock ≠ (Value.slice (some (⟨g8, 0, none⟩ : Addr)) 1 cap8).ownBlock := fun e => hg89 (by simp [Value.ownBlock] at e; exact e.symm)
  go_upto_region 18 with (fail)
  have KA : ∀ W, Below w4.heap.size w4 W → W.cell? ⟨n4, 0, none⟩ = some (.int .i64 5) ∧ W.cell? ⟨n4, 1, none⟩ = some (.int .i64 1) := fun W hW => by
    have h := (hW.block n4 hn4l).trans HX4.out
    exact ⟨by simp [World.cell?, h], by simp [World.cell?, h]⟩
  have KB : ∀ (W W' : World) (g : Nat), W.grownBy W' (some g) → g < n4 → n4 < W.heap.size → W.cell? ⟨n4, 0, none⟩ = some (.int .i64 5) ∧ W.cell? ⟨n4, 1, none⟩ = some (.int .i64 1) → W'.cell? ⟨n4, 0, none⟩ = some (.int .i64 5) ∧ W'.cell? ⟨n4, 1, none⟩ = some (.int .i64 1) := fun W W' g h1 h2 h3 h4 =>
    have ne : some n4 ≠ some g := fun e => by injection e with e; omega
    ⟨(h1.cell_far ⟨n4, 0, none⟩ h3 ne).trans h4.1, (h1.cell_far ⟨n4, 1, none⟩ h3 ne).trans h4.2⟩
  have KC : ∀ (W : World) (o : Obj), n4 < W.heap.size → W.cell? ⟨n4, 0, none⟩ = some (.int .i64 5) ∧ W.cell? ⟨n4, 1, none⟩ = some (.int .i64 1) → (W.alloc o).cell? ⟨n4, 0, none⟩ = some (.int .i64 5) ∧ (W.alloc o).cell? ⟨n4, 1, none⟩ = some (.int .i64 1) := fun W o h1 h2 =>
    ⟨((bel_o W o).cell (p := ⟨n4, 0, none⟩) h1).trans h2.1, ((bel_o W o).cell (p := ⟨n4, 1, none⟩) h1).trans h2.2⟩
  go_region_held3 (fun W => W.cell? ⟨n4, 0, none⟩ = some (.int .i64 5) ∧ W.cell? ⟨n4, 1, none⟩ = some (.int .i64 1))
    (first | exact KA _ (below_drewN (Below.refl _ _) 1) | exact KA _ (bel_da _ _) | exact C1.out | exact KC _ _ L1 C1.out | exact C2.out | exact KA _ (Below.refl _ _))
    (first
      | ((refine step_append_lies _ (by rfl) _ _ _ (by rfl) w3.heap.size 53 i1 .nilFunc 1 8 UF HI1.out.1 HI1.out.2.1 HI1.out.2.2.1 HI1.out.2.2.2 (by rfl) (by decide) (.slice (some ⟨g8, 0, none⟩) 1 cap8) 1 [(.func (.func 48) #[] #[.pointer (some ⟨gl3, 0, none⟩), .pointer (some ⟨gs3, 0, none⟩), .pointer (some ⟨gt3, 0, none⟩)])] (by rfl) (own_blw LS4.out.l (bel_da w4 _)) ⟨w4.heap.size, 0, none⟩ 1 1 [(.func (.func 48) #[] #[.pointer (some ⟨gl5, 0, none⟩), .pointer (some ⟨gs5, 0, none⟩), .pointer (some ⟨gt5, 0, none⟩)])] (by rfl) (by rfl) (one_at _ _ _ _ (by simp)) (by intro u hu; simp at hu; subst hu; rfl) (by decide) (by decide) (by decide) (by simp; omega) (w4.heap.size + 1) (by simp) ?_; intro G8 Cap8 wc hown8 hgrow8 hat8 hlt8; have L1 : n4 < wc.heap.size := Nat.lt_of_lt_of_le (by simp; omega) hgrow8.size; have L2 : w3.heap.size ≤ wc.heap.size := Nat.le_trans (by simp; omega) hgrow8.size; have C1 := hide (KB _ _ g8 hgrow8 hg8n (by simp; omega) (KA _ (bel_da w4 _)))))
      | (go_at_call 29; refine (P5 _).out.mono ?_; rintro e w5 ⟨rfl, rfl⟩)
      | ((refine step_append_lies _ (by rfl) _ _ _ (by rfl) w3.heap.size 3 i0 (.int .i64 0) 1 8 U HI.out.1 HI.out.2.1 HI.out.2.2.1 HI.out.2.2.2 (by rfl) (by decide) (.slice (some ⟨g9, 0, none⟩) 1 cap9) 1 [.int .i64 3] (by rfl) (((own_blw LS4.out.m (bel_da w4 _)).kept hgrow8 (.inr NE98)).alloc _) ⟨wc.heap.size, 0, none⟩ 1 1 [.int .i64 5] (by rfl) (by rfl) (one_at _ _ _ _ (by simp)) (by intro u hu; simp at hu; subst hu; rfl) (by decide) (by decide) (by decide) (by simp; omega) (wc.heap.size + 1) (by simp) ?_; intro G9 Cap9 wd hown9 hgrow9 hat9 hlt9; have C2 := hide (KB _ _ g9 hgrow9 hg9n (by simp; omega) (KC _ _ L1 C1.out)))))
  have hG89 : G8 ≠ g9 := by
    rcases hat8 with h | h
    · simp [Value.ownBlock] at h; omega
    · omega
  have hL := (hown8.alloc (.cells #[.int .i64 5] 3)).kept hgrow9 (.inr (by simp [Value.ownBlock]; exact hG89))
  have BD := hide (((((LS4.out.b.trans ((bel_da w4 (.cells #[(.func (.func 48) #[] #[.pointer (some ⟨gl5, 0, none⟩), .pointer (some ⟨gs5, 0, none⟩), .pointer (some ⟨gt5, 0, none⟩)])] 53)).mono h34)).grown hgrow8 (by simp; omega) (fun k hk => by simp only [Value.ownBlock, Option.some.injEq] at hk; exact hk ▸ HGS.out.1)).alloc L2 (.cells #[.int .i64 5] 3)).grown hgrow9 (by simp; omega) (fun k hk => by simp only [Value.ownBlock, Option.some.injEq] at hk; exact hk ▸ HGS.out.2.1)))
  have Y5 := hide ((((HBY5.out.below (bel_da w4 (.cells #[(.func (.func 48) #[] #[.pointer (some ⟨gl5, 0, none⟩), .pointer (some ⟨gs5, 0, none⟩), .pointer (some ⟨gt5, 0, none⟩)])] 53))).far hgrow8 (by have := HGS.out.2.2.1; show g8 < _; omega) hgrow8.size).below (bel_o wc (.cells #[.int .i64 5] 3))).far hgrow9 (by have := HGS.out.2.2.2; show g9 < _; omega) hgrow9.size)
  have Y3 := hide (HBY3.out.below BD.out)
  have HL := hide (And.intro (hL.cellAt 0 (by decide)) (hL.cellAt 1 (by decide)))
  have HM := hide (And.intro (World.ownsRow.cellAt (g := G9) (cap := Cap9) hown9 0 (by decide)) (World.ownsRow.cellAt (g := G9) (cap := Cap9) hown9 1 (by decide)))
  have HG8 := (hL.lt G8 rfl).2
  have B2 := hide (B23.out.trans (BD.out.mono B23.out.size))
  have FA := hide (F2.out.below B2.out)
  have BA := hide (HB2.out.trans (B2.out.mono HB2.out.size))
  rename_i hS
  clear hS hat9 hat8 hown8 hown9 hgrow8 hgrow9 hlt8 L1 L2 C1 C2 KA KB KC hL hG89 NE98 hg8n hg9n h34 hn4l hgp3 hgp hg89 B23 B2 BD HBY5 HBY3 LS LS4 HGS HX3 HX4 HPC HB2 F2 BB Bb4 BW3
  go_wp2_with fail
  rw [rounds_succ]
  go_wp2_with fail
  have HF : Hid (∀ k, k < 2 → ∃ f gl gs gt lo, f = .func (.func 48) #[] #[.pointer (some ⟨gl, 0, none⟩), .pointer (some ⟨gs, 0, none⟩), .pointer (some ⟨gt, 0, none⟩)] ∧ wd.cell? ⟨G8, k, none⟩ = some f ∧ ByAt wd lo f (listK k) (primeK k : Nat) ∧ wd.cell? ⟨G9, k, none⟩ = some (.int .i64 (primeK k : Nat))) := fun k hk => by
    match k, hk with
    | 0, _ => exact ⟨_, gl3, gs3, gt3, _, rfl, HL.out.1, Y3.out, HM.out.1⟩
    | 1, _ => exact ⟨_, gl5, gs5, gt5, _, rfl, HL.out.2, Y5.out, HM.out.2⟩
  have HG9 := hlt9
  have R0 : Hid (Row (wd.alloc (.cells #[.int .i64 (0 : Nat)] 3)) wd.heap.size (.slice (some ⟨wd.heap.size, 0, none⟩) 1 1) (outK 0)) := hide (row_one wd 0 _ rfl)
  have B0 := hide (bel_o wd (.cells #[.int .i64 (0 : Nat)] 3))
  clear HL HM Y3 Y5 CB3 CB5 P3 P5 UF HI1
  go_loopw [14, 15, 81] (fun ov mv kv wr => ∃ k : Nat, k ≤ 2 ∧ mv = .int .i64 (modK k : Nat) ∧ kv = .int .i64 k ∧ Hid (Row wr wd.heap.size ov (outK k)) ∧ Hid (Below wd.heap.size wd wr)) (fun _ _ kv _ => 2 - (intOf kv).toNat)
  case atStart => exact ⟨0, by omega, rfl, rfl, R0, B0⟩
  case round =>
    obtain ⟨k, hk, rfl, rfl, HR, HB⟩ := hrel
    obtain ⟨wo, rfl⟩ : ∃ W, W = wr := ⟨_, rfl⟩
    by_cases hk2 : k < 2
    · obtain ⟨f, gl, gs, gt, lo, rfl, hcf, hby, hcm⟩ := HF.out k hk2
      have cf := (HB.out.cell (p := ⟨G8, k, none⟩) HG8).trans hcf
      have CM := hide ((HB.out.cell (p := ⟨G9, k, none⟩) HG9).trans hcm)
      have hp5 := prime_le k
      have CF := hide (by2_any gl gs gt lo _ (listK k) (primeK k : Nat) wo rfl (hby.below HB.out) (by rw [(out_len k hk2).2]; decide) (by omega) (by omega) (fun x hx => Nat.le_trans (list_le hx) (by decide)))
      have HG9o : G9 < wo.heap.size := Nat.lt_of_lt_of_le HG9 HB.out.size
      clear hcf hby hcm
      go_wp2_with fail
      refine CF.out.mono ?_
      rintro e w5 ⟨lv, rfl, hrow, hb⟩
      obtain ⟨lg, lc, rfl, _, hlg, hlc⟩ := row_form hrow (out_len k hk2).2 (by decide)
      have HLC := hide hlc
      have HB5 := hide hb
      obtain ⟨og, oc, rfl, _, hog, hoc⟩ := row_form HR.out rfl (by match k, hk2 with | 0, _ => decide | 1, _ => decide)
      have HOC := hide hoc
      have R5 : Hid (Row w5 w5.heap.size (.slice none 0 0) (fmi k 0 0)) := hide (Row.nil _ _)
      have B5 := hide (Below.refl w5.heap.size w5)
      have hol := (out_len k hk2).1
      clear hlc hb hrow cf CF hoc
      go_wp2_with fail
      go_loopw [18, 89] (fun nv jv ws => ∃ j : Nat, j ≤ 2 ∧ jv = .int .i64 j ∧ Hid (Row ws w5.heap.size nv (fmi k j 0)) ∧ Hid (Below w5.heap.size w5 ws)) (fun _ jv _ => 2 - (intOf jv).toNat)
      case atStart => exact ⟨0, by omega, rfl, R5, B5⟩
      case round =>
        obtain ⟨j, hj, rfl, HRJ, HBJ⟩ := hrel
        obtain ⟨wj, rfl⟩ : ∃ W, W = wr := ⟨_, rfl⟩
        by_cases hj2 : j < 2
        · obtain ⟨y, hy⟩ : ∃ y, (listK k)[j]? = some y := ⟨_, List.getElem?_eq_getElem (by rw [(out_len k hk2).2]; exact hj2)⟩
          have cy := (HBJ.out.cell (p := ⟨lg, j, none⟩) hlg).trans (HLC.out j y hy)
          have hy15 := list_le (List.mem_of_getElem? hy)
          have HY := hide hy
          have hjd : decide ((j : Int) < 2) = true := by simp; omega
          have HJ2 := hide hj2
          clear hy
          go_wp2_with fail
          go_loopw [18, 95] (fun nv iv ws => ∃ i : Nat, i ≤ (outK k).length ∧ iv = .int .i64 i ∧ Hid (Row ws w5.heap.size nv (fmi k j i)) ∧ Hid (Below w5.heap.size w5 ws)) (fun _ iv _ => (outK k).length - (intOf iv).toNat)
          case atStart => exact ⟨0, by omega, rfl, HRJ, HBJ⟩
          case round =>
            obtain ⟨i, hi, rfl, HRI, HBI⟩ := hrel
            obtain ⟨wi, rfl⟩ : ∃ W, W = wr := ⟨_, rfl⟩
            by_cases hi2 : i < (outK k).length
            · obtain ⟨x, hx⟩ : ∃ x, (outK k)[i]? = some x := ⟨_, List.getElem?_eq_getElem hi2⟩
              have BI := hide (HB5.out.trans (HBI.out.mono HB5.out.size))
              have cx := (BI.out.cell (p := ⟨og, i, none⟩) hog).trans (HOC.out i x hx)
              have cm := (BI.out.cell (p := ⟨G9, k, none⟩) HG9o).trans CM.out
              have HG9i : G9 < wi.heap.size := Nat.lt_of_lt_of_le HG9o BI.out.size
              have hx15 := out_le (List.mem_of_getElem? hx)
              have CJ := hide (jcall wi k x y wi.heap.size (wi.heap.size + 1) hk2 (List.mem_of_getElem? hx) (List.mem_of_getElem? HY.out) rfl rfl)
              have hjn := jn_le hk2 (List.mem_of_getElem? hx) (List.mem_of_getElem? HY.out)
              have HSTEP := hide (fmi_step hx HY.out)
              have hfl := fmi_len k hk2 j (by omega) i (by omega)
              clear hx BI
              go_wp2_with fail
              refine CJ.out.mono ?_
              rintro e w7 ⟨rfl, hb7⟩
              simp only [fv]
              have HR2 := hide (((HRI.out.below hb7).below (bel_o w7 (.cells #[.int .i64 0, .int .i64 0] 25))).below (bel_o (w7.alloc (.cells #[.int .i64 0, .int .i64 0] 25)) (.cells #[.int .i64 (jnK k x y : Nat)] 3)))
              have HB7 := hide (HBI.out.trans (hb7.mono HBI.out.size))
              have HB2 := hide ((HB7.out.alloc HB7.out.size (.cells #[.int .i64 0, .int .i64 0] 25)).alloc (HB7.out.alloc HB7.out.size (.cells #[.int .i64 0, .int .i64 0] 25)).size (.cells #[.int .i64 (jnK k x y : Nat)] 3))
              have hs7 := HB7.out.size
              clear hb7 CJ
              go_wp2_with (at_builtin; refine wpList_append_own _ rfl _ _ 38 rfl w5.heap.size 3 i0 (.int .i64 0) 1 8 U HI.out.1 HI.out.2.1 HI.out.2.2.1 HI.out.2.2.2 rfl (by decide) _ _ _ rfl HR2.out ⟨w7.heap.size + 1, 0, none⟩ 1 1 [.int .i64 (jnK k x y : Nat)] rfl rfl (one_at _ _ _ _ (by simp)) ?c2 ?c3 ?c4 ?c5 ?_)
              case c2 => intro u hu; simp at hu; subst hu; rfl
              case c3 => simp only [maxLen]; omega
              case c4 => omega
              case c5 => simp; omega
              intro v' w8 hown hg8 _
              have HF8 : Hid (Row w8 w5.heap.size v' (fmi k j (i + 1))) := by
                unfold Hid Row
                rw [HSTEP.out, List.length_append, List.map_append]
                exact hown
              have B8 : Hid (Below w5.heap.size w5 w8) := HB2.out.grown hg8 HB2.out.size (fun k hk => HR2.out.base k hk)
              clear hown hg8 HR2 HB2
              go_wp2_with fail
              go_roundw
              case rel => exact ⟨i + 1, by omega, by go_num, HF8, B8⟩
              case measure => simp [intOf]; omega
            · obtain rfl : i = (outK k).length := by omega
              rw [fmi_row hk2 HJ2.out] at HRI
              go_wp2_with fail
              go_roundw
              case rel => exact ⟨j + 1, by omega, by go_num, HRI, HBI⟩
              case measure => simp [intOf]; omega
        · obtain rfl : j = 2 := by omega
          rw [fmi_end hk2] at HRJ
          have BJ := hide (HB5.out.trans (HBJ.out.mono HB5.out.size))
          have cm := (BJ.out.cell (p := ⟨G9, k, none⟩) HG9o).trans CM.out
          have hmk : modK k ≤ 3 := by match k, hk2 with | 0, _ => decide | 1, _ => decide
          have hmm : IntKind.i64.wrap ((modK k : Int) * primeK k) = ((modK (k + 1) : Nat) : Int) := by match k, hk2 with | 0, _ => decide | 1, _ => decide
          go_wp2_with fail
          go_quiet (fail)
          go_wp2_with fail
          go_roundw
          case rel => ((repeat apply Exists.intro); exact ⟨⟨k + 1, by omega, rfl, by go_num, hide ((HRJ.out.below (below_drewN (Below.refl _ _) _)).mono (Nat.le_trans HB.out.size HB5.out.size)), hide (below_drewN (HB.out.trans (BJ.out.mono HB.out.size)) _)⟩, rfl⟩)
          case measure => simp [intOf]; omega
    · obtain rfl : k = 2 := by omega
      have CS := hide (sort_row wo wd.heap.size _ (outK 2) HB.out.size (by decide) HR.out)
      clear HF HR hk hk2
      go_wp2_with fail
      refine CS.out.mono ?_
      rintro e w9 ⟨rfl, S, hS, hp, hrow, hb⟩
      have hS2 := sorted_K hS hp
      subst hS2
      have B9 := hide (BA.out.trans ((HB.out.trans hb).mono BA.out.size))
      have F9 := FA.out.below (HB.out.trans hb)
      have hfl := FA.out.lt
      have HR9 : Hid (Row ((w9.setCell ⟨w.heap.size, 0, none⟩ (.int .i64 0)).setCell ⟨w.heap.size, 1, none⟩ (.int .i64 0)) w.heap.size _ [2, 7, 8, 13]) :=
        World.ownsRow.mono (ownsRow_setCell_below (a := ⟨w.heap.size, 1, none⟩) (ownsRow_setCell_below (a := ⟨w.heap.size, 0, none⟩) hrow (show w.heap.size < wd.heap.size from hfl) (.int .i64 0)) (show w.heap.size < wd.heap.size from hfl) (.int .i64 0)) BA.out.size
      obtain ⟨d0, d1, f0, f1⟩ := F9.cells
      obtain ⟨p0, p1⟩ := F9.put 0 0
      have B10 := hide (below_fault (u := .int .i64 0) (v := .int .i64 0) B9.out (Nat.le_refl w.heap.size))
      clear hb hrow hp hS CS F9
      go_wp2_with fail
      exact bodyPost_ret (by simp [results, Tryd.results14, go_sem, fv, p0, p1]) rfl ⟨_, rfl, HR9.out, B10.out⟩
end Go.Proofs.YtgocnjklpafabaaDoor
