/- The walks of frac.fault and frac.look, and of the answers' FracFault. -/
import Derived.Test.YtgocnjklpafabaaDoorGcd
import Derived.Test.YtgocnjklpafabaaDoorRefG
namespace Go.Proofs.YtgocnjklpafabaaDoor
open Go.RowKit

/-- the fault of a fraction -/
def fracF (a b : Int) : Int × Int := if okB a = false ∨ okB b = false then (3, 0) else if b < 1 ∨ Int.gcd a b ≠ 1 then (6, 0) else (0, 0)
theorem fracF_ok {a b : Int} (h : (fracF a b).1 = 0) : fracF a b = (0, 0) ∧ okB a = true ∧ okB b = true ∧ 1 ≤ b ∧ Int.gcd a b = 1 := by
  unfold fracF at h ⊢
  split at h
  · simp at h
  · rename_i h1
    split at h
    · simp at h
    · rename_i h2
      rw [if_neg h1, if_neg h2]
      refine ⟨rfl, by simpa using (fun h3 => h1 (.inl h3)), by simpa using (fun h3 => h1 (.inr h3)), by omega, ?_⟩
      exact Classical.byContradiction fun h3 => h2 (.inr h3)
theorem ok_lims {a : Int} (h : okB a = true) : -1000000000000000000 ≤ a ∧ a ≤ 1000000000000000000 := by
  unfold okB at h; simpa using h
theorem lookK_two (a b : Int) : ((lookK 0 [a, b]).1 = 0 ∧ lookK 0 [a, b] = (0, 0) ∧ okB a = true ∧ okB b = true) ∨ ((lookK 0 [a, b]).1 = 3 ∧ (okB a = false ∨ okB b = false)) := by
  unfold lookK
  split
  · rename_i h1
    unfold lookK
    split
    · rename_i h2
      left
      exact ⟨rfl, rfl, h1, h2⟩
    · rename_i h2
      right
      exact ⟨rfl, .inr (by simpa using h2)⟩
  · rename_i h1
    right
    exact ⟨rfl, .inl (by simpa using h1)⟩

set_option maxHeartbeats 400000 in
theorem ffault_any (c n : Int) (w : World) :
    Calls Tryd.prog 20 #[.int .i64 c, .int .i64 n] w fun e w' => e = .returned (.agg #[.int .i64 c, .int .i64 n]) ∧ Below w.heap.size w w' := by
  go_enter Tryd.func20, Tryd.ntmps20
  go_wp2
  exact bodyPost_ret (v := .agg #[.int .i64 c, .int .i64 n]) (by simp [results, Tryd.results20, go_sem]) rfl ⟨rfl, (Below.refl _ _).alloc (Nat.le_refl _) _⟩

theorem bel_f (w : World) (o : Obj) : Below w.heap.size w (w.alloc o) := (Below.refl _ _).alloc (Nat.le_refl _) _
theorem flook2 (a m : Int) (W : World) (g : Nat) (hg : g = W.heap.size) : Calls Tryd.prog 16 #[.slice (some ⟨g, 0, none⟩) 2 2] (W.alloc (.cells #[.int .i64 a, .int .i64 m] 3)) (RetFault (W.alloc (.cells #[.int .i64 a, .int .i64 m] 3)) (lookK 0 [a, m])) :=
  hg ▸ look_any _ 2 2 [a, m] _ rfl (by omega) (ints_new W [a, m] _)

/-- a fraction's block, and a fault's behind it -/
structure FrSt (w W : World) (a b : Int) : Prop where
  x : W.heap[w.heap.size]? = some (.cells #[.int .i64 a, .int .i64 b] 31 (0, 0))
  f : FC W (w.heap.size + 1) 0 0
  b : Below w.heap.size w W
theorem FrSt.start (w : World) (a b : Int) : FrSt w ((w.alloc (.cells #[.int .i64 a, .int .i64 b] 31)).alloc (.cells #[.int .i64 0, .int .i64 0] 25)) a b := by
  refine ⟨?_, ?_, ?_⟩
  · have h := heap_alloc_new w (.cells #[.int .i64 a, .int .i64 b] 31)
    exact ((bel_f _ (.cells #[.int .i64 0, .int .i64 0] 25)).block _ (heap_lt h)).trans h
  · have h := FC.fresh (w.alloc (.cells #[.int .i64 a, .int .i64 b] 31))
    rwa [World.size_alloc] at h
  · exact (bel_f w _).alloc (bel_f w _).size _
theorem FrSt.below {w W W' : World} {a b : Int} (h : FrSt w W a b) (k : Below W.heap.size W W') : FrSt w W' a b :=
  ⟨(k.block _ (heap_lt h.x)).trans h.x, h.f.below k, h.b.trans (k.mono h.b.size)⟩
theorem FrSt.cells {w W : World} {a b : Int} (h : FrSt w W a b) : W.cell? ⟨w.heap.size, 0, none⟩ = some (.int .i64 a) ∧ W.cell? ⟨w.heap.size, 1, none⟩ = some (.int .i64 b) ∧ w.heap.size + 1 < W.heap.size := by
  have hx := h.x
  exact ⟨by simp [World.cell?, hx], by simp [World.cell?, hx], h.f.lt⟩
/-- the fault's cell is put, the call ends -/
theorem FrSt.put {w W : World} {a b : Int} (h : FrSt w W a b) (u v : Int) : (W.setCell ⟨w.heap.size + 1, 0, none⟩ (.int .i64 u)).cell? ⟨w.heap.size + 1, 0, none⟩ = some (.int .i64 u) ∧ ((W.setCell ⟨w.heap.size + 1, 0, none⟩ (.int .i64 u)).setCell ⟨w.heap.size + 1, 1, none⟩ (.int .i64 v)).cell? ⟨w.heap.size + 1, 1, none⟩ = some (.int .i64 v) ∧ Below w.heap.size w ((W.setCell ⟨w.heap.size + 1, 0, none⟩ (.int .i64 u)).setCell ⟨w.heap.size + 1, 1, none⟩ (.int .i64 v)) :=
  ⟨(h.f.put u v).1, (h.f.put u v).2, below_fault h.b (Nat.le_succ _)⟩

set_option maxRecDepth 100000 in
set_option maxHeartbeats 3200000 in
theorem flook_any (a b : Int) (w : World) :
    Calls Tryd.prog 19 #[.agg #[.int .i64 a, .int .i64 b]] w (RetFault w (fracF a b)) := by
  have CL := fun (W : World) (g : Nat) (hg : g = W.heap.size) => hide (flook2 a b W g hg)
  have S0 := hide (FrSt.start w a b)
  unfold RetFault at CL
  rcases lookK_two a b with ⟨-, h0, ha, hb⟩ | ⟨h3, hab⟩
  · rw [h0] at CL
    have la := ok_lims ha
    have lb := ok_lims hb
    by_cases hb1 : b < 1
    · have HR : Hid (fracF a b = (6, 0)) := by unfold Hid fracF; rw [if_neg (by rw [ha, hb]; simp), if_pos (.inl hb1)]
      have C := fun W => hide (ffault_any 6 0 W)
      have q1 : decide (b < 1) = true := by simpa using hb1
      clear hb1 la lb ha hb h0
      go_enter Tryd.func19, Tryd.ntmps19
      go_wp2_with fail
      refine (CL _ _ (by simp)).out.mono ?_
      rintro e w1 ⟨rfl, hb⟩
      have S1 := hide ((S0.out.below (bel_f _ _)).below hb |>.below (bel_f w1 (.cells #[.int .i64 0, .int .i64 0] 25)))
      obtain ⟨c0, c1, hlt⟩ := S1.out.cells
      simp only [fv]
      clear hb
      go_wp2_with fail
      refine (C _).out.mono ?_
      rintro e w2 ⟨rfl, hb⟩
      have S2 := hide (S1.out.below hb)
      obtain ⟨d0, d1, f0, f1⟩ := S2.out.f.cells
      obtain ⟨p0, p1, p2⟩ := S2.out.put 6 0
      have HP := hide p2
      have hlt2 := S2.out.f.lt
      clear hb p2
      go_wp2_with fail
      exact bodyPost_ret (v := fv (6, 0)) (by simp [results, Tryd.results19, go_sem, fv, p0, p1]) rfl ⟨by rw [HR.out], HP.out⟩
    · have q1 : decide (b < 1) = false := by simpa using hb1
      have CD := fun W => hide (divisor_any a b W (by omega) (by omega) (by omega) (by omega))
      by_cases hg : Int.gcd a b = 1
      · have HR : Hid (fracF a b = (0, 0)) := by unfold Hid fracF; rw [if_neg (by rw [ha, hb]; simp), if_neg (by omega)]
        rw [hg] at CD
        clear hb1 la lb ha hb h0 hg
        go_enter Tryd.func19, Tryd.ntmps19
        go_wp2_with fail
        refine (CL _ _ (by simp)).out.mono ?_
        rintro e w1 ⟨rfl, hb⟩
        have S1 := hide ((S0.out.below (bel_f _ _)).below hb |>.below (bel_f w1 (.cells #[.int .i64 0, .int .i64 0] 25)))
        obtain ⟨c0, c1, hlt⟩ := S1.out.cells
        simp only [fv]
        clear hb
        go_wp2_with fail
        refine (CD _).out.mono ?_
        rintro e w2 ⟨rfl, k, rfl⟩
        have S2 := hide (S1.out.below (below_drewN (Below.refl _ _) k))
        obtain ⟨d0, d1, f0, f1⟩ := S2.out.f.cells
        obtain ⟨p0, p1, p2⟩ := S2.out.put 0 0
        have HP := hide p2
        have hlt2 := S2.out.f.lt
        clear p2
        go_wp2_with fail
        exact bodyPost_ret (v := fv (0, 0)) (by simp [results, Tryd.results19, go_sem, fv, p0, p1]) rfl ⟨by rw [HR.out], HP.out⟩
      · have HR : Hid (fracF a b = (6, 0)) := by unfold Hid fracF; rw [if_neg (by rw [ha, hb]; simp), if_pos (.inr hg)]
        have C := fun W => hide (ffault_any 6 0 W)
        obtain ⟨G, hG⟩ : ∃ G : Nat, Int.gcd a b = G := ⟨_, rfl⟩
        rw [hG] at CD hg
        have q2 : ((G : Int) != 1) = true := by simp; omega
        clear hb1 la lb ha hb h0 hg hG
        go_enter Tryd.func19, Tryd.ntmps19
        go_wp2_with fail
        refine (CL _ _ (by simp)).out.mono ?_
        rintro e w1 ⟨rfl, hb⟩
        have S1 := hide ((S0.out.below (bel_f _ _)).below hb |>.below (bel_f w1 (.cells #[.int .i64 0, .int .i64 0] 25)))
        obtain ⟨c0, c1, hlt⟩ := S1.out.cells
        simp only [fv]
        clear hb
        go_wp2_with fail
        refine (CD _).out.mono ?_
        rintro e w2 ⟨rfl, k, rfl⟩
        have S2 := hide (S1.out.below (below_drewN (Below.refl _ _) k))
        go_wp2_with fail
        refine (C _).out.mono ?_
        rintro e w3 ⟨rfl, hb⟩
        have S3 := hide (S2.out.below hb)
        obtain ⟨d0, d1, f0, f1⟩ := S3.out.f.cells
        obtain ⟨p0, p1, p2⟩ := S3.out.put 6 0
        have HP := hide p2
        have hlt2 := S3.out.f.lt
        clear hb p2
        go_wp2_with fail
        exact bodyPost_ret (v := fv (6, 0)) (by simp [results, Tryd.results19, go_sem, fv, p0, p1]) rfl ⟨by rw [HR.out], HP.out⟩
  · have HR : Hid (fracF a b = (3, 0)) := by unfold Hid fracF; rw [if_pos hab]
    have C := fun W => hide (ffault_any 3 0 W)
    obtain ⟨⟨u, v⟩, hl⟩ : ∃ f, lookK 0 [a, b] = f := ⟨_, rfl⟩
    rw [hl] at CL h3
    have h3 : u = 3 := h3
    subst h3
    clear hab hl
    go_enter Tryd.func19, Tryd.ntmps19
    go_wp2_with fail
    refine (CL _ _ (by simp)).out.mono ?_
    rintro e w1 ⟨rfl, hb⟩
    have S1 := hide ((S0.out.below (bel_f _ _)).below hb |>.below (bel_f w1 (.cells #[.int .i64 3, .int .i64 v] 25)))
    obtain ⟨c0, c1, hlt⟩ := S1.out.cells
    simp only [fv]
    clear hb
    go_wp2_with fail
    refine (C _).out.mono ?_
    rintro e w2 ⟨rfl, hb⟩
    have S2 := hide (S1.out.below hb)
    obtain ⟨d0, d1, f0, f1⟩ := S2.out.f.cells
    obtain ⟨p0, p1, p2⟩ := S2.out.put 3 0
    have HP := hide p2
    have hlt2 := S2.out.f.lt
    clear hb p2
    go_wp2_with fail
    exact bodyPost_ret (v := fv (3, 0)) (by simp [results, Tryd.results19, go_sem, fv, p0, p1]) rfl ⟨by rw [HR.out], HP.out⟩
end Go.Proofs.YtgocnjklpafabaaDoor
