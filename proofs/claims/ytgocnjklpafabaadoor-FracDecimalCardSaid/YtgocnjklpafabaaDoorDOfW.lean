/- The walk of the reference's DecimalOf. -/
import Derived.Test.YtgocnjklpafabaaDoorDOfL
import Derived.Laws.IdiomStrings
import Derived.Deep.LoopGhost
import Derived.Deep.AppendLies
import Derived.Deep.DeepCutAuto
import Derived.Deep.RegionHeld3
import Derived.LoopN
namespace Go.Proofs.YtgocnjklpafabaaDoor
open Go.RowKit

/-- the fraction in its block -/
structure DSt (w W : World) (a b : Int) : Prop where
  x : W.heap[w.heap.size]? = some (.cells #[.int .i64 a, .int .i64 b] 31 (0, 0))
  b : Below w.heap.size w W
theorem DSt.below {w W W' : World} {a b : Int} (h : DSt w W a b) (k : Below W.heap.size W W') : DSt w W' a b := ⟨(k.block _ (heap_lt h.x)).trans h.x, h.b.trans (k.mono h.b.size)⟩
theorem DSt.cells {w W : World} {a b : Int} (h : DSt w W a b) : W.cell? ⟨w.heap.size, 0, none⟩ = some (.int .i64 a) ∧ W.cell? ⟨w.heap.size, 1, none⟩ = some (.int .i64 b) ∧ w.heap.size < W.heap.size := by
  have hx := h.x
  exact ⟨by simp [World.cell?, hx], by simp [World.cell?, hx], heap_lt hx⟩

theorem DSt.set {w W : World} {a b : Int} (h : DSt w W a b) {g i : Nat} (hg : w.heap.size < g) (v : Value) : DSt w (W.setCell ⟨g, i, none⟩ v) a b :=
  ⟨(Below.heap_setCell _ ⟨g, i, none⟩ _ w.heap.size (by show w.heap.size ≠ g; omega)).trans h.x, h.b.setCell (p := ⟨g, i, none⟩) (by show w.heap.size ≤ g; omega) _⟩

theorem own_set {w : World} {base n size : Nat} {e : TypeId} {v : Value} {xs : List Value} (h : w.ownsRow base e size v n xs) {g i : Nat} (hg : g < base) (x : Value) : (w.setCell ⟨g, i, none⟩ x).ownsRow base e size v n xs := by
  obtain ⟨h1, h2⟩ := h
  refine ⟨h1, ?_⟩
  rcases h2 with h2 | ⟨g', cap, cur, he, hb, hh, hr⟩
  · exact .inl h2
  · exact .inr ⟨g', cap, cur, he, hb, (Below.heap_setCell _ ⟨g, i, none⟩ _ g' (by show g' ≠ g; omega)).trans hh, hr⟩
theorem own_slice {w : World} {base n : Nat} {e : TypeId} {v : Value} {cs : List Value} (h : w.ownsRow base e 1 v n cs) : ∃ A c, v = .slice A n c := by
  obtain ⟨_, h2⟩ := h
  rcases h2 with ⟨h2, h3⟩ | ⟨g', cap', cur, he, _⟩
  · subst h3; exact ⟨_, _, h2⟩
  · exact ⟨_, _, he⟩

set_option maxRecDepth 100000 in
set_option maxHeartbeats 6400000 in
theorem decof_any (a : Int) (D : Nat) (s : List UInt8) (w : World) (hla : a.natAbs ≤ 1000000000000000000) (hD1 : 1 ≤ D) (hD5 : D ≤ 5000) (hS : DecText a D s) :
    Calls Tryd.prog 13 #[.agg #[.int .i64 a, .int .i64 (D : Int)]] w fun e w' => e = .returned (.string ⟨s.toArray⟩) ∧ Below w.heap.size w w' := by
  have HS := hide hS
  have S0 : Hid (DSt w (w.alloc (.cells #[.int .i64 a, .int .i64 (D : Int)] 31)) a D) := ⟨heap_alloc_new w _, (bel_f w _)⟩
  obtain ⟨W0, hW0⟩ : ∃ W, w.alloc (.cells #[.int .i64 a, .int .i64 (D : Int)] 31) = W := ⟨_, rfl⟩
  rw [hW0] at S0
  have HW := hide hW0
  obtain ⟨c0, c1, hlt⟩ := S0.out.cells
  obtain ⟨U, hU⟩ : ∃ U, a.natAbs = U := ⟨_, rfl⟩
  have hU18 : U ≤ 1000000000000000000 := by omega
  have HUU := hide hU
  have HLA := hide hla
  clear hS
  go_enter Tryd.func13, Tryd.ntmps13
  go_upto_if 13 with (fail)
  go_cut [3, 4] (fun s u wx => ∃ sg : ByteArray, s = .string sg ∧ u = .int .i64 U ∧ sg.size ≤ 1 ∧ Hid (sg = ⟨(sgn a).toArray⟩) ∧ wx = W0)
  case first => as_aux_lemma =>
    by_cases ha : a < 0
    · have q2 : decide (a < 0) = true := by simpa using ha
      have V : IntKind.i64.wrap (-a) = (U : Int) := by rw [IntKind.wrap_i64]; omega
      have hs : sgn a = [45] := by unfold sgn; rw [if_pos ha]
      go_wp2_with fail
      go_meet
      exact ⟨⟨#[45]⟩, rfl, rfl, by decide, by unfold Hid; rw [hs], by first | rfl | exact hW0⟩
    · have q2 : decide (a < 0) = false := by simpa using ha
      have hs : sgn a = [] := by unfold sgn; rw [if_neg ha]
      have hs2 : (U : Int) = a := by omega
      have HE := hide hs2
      clear hs2
      go_wp2_with fail
      go_meet
      exact ⟨⟨#[]⟩, rfl, by rw [HE.out], by decide, by unfold Hid; rw [hs], by first | rfl | exact hW0⟩
  case rest => as_aux_lemma =>
    obtain ⟨sg, rfl, rfl, hsg, HSG, hww⟩ := hcut
    subst hww
    obtain ⟨k0, k1, hlt⟩ := S0.out.cells
    obtain ⟨Q, hQ⟩ : ∃ Q, U / D = Q := ⟨_, rfl⟩
    obtain ⟨r0, hr0⟩ : ∃ r0, U % D = r0 := ⟨_, rfl⟩
    have hQ18 : Q ≤ 1000000000000000000 := by rw [← hQ]; exact Nat.le_trans (Nat.div_le_self _ _) hU18
    have hrD : r0 < D := by rw [← hr0]; exact Nat.mod_lt _ hD1
    have e1 : (U : Int).tdiv (D : Int) = (Q : Int) := by rw [Int.tdiv_eq_ediv_of_nonneg (by omega), ← hQ, Int.natCast_ediv]
    have e2 : (U : Int) / (D : Int) = (Q : Int) := by rw [← hQ, Int.natCast_ediv]
    have e3 : (U : Int).tmod (D : Int) = (r0 : Int) := by rw [Int.tmod_eq_emod_of_nonneg (by omega), ← hr0, Int.natCast_emod]
    have e4 : (U : Int) % (D : Int) = (r0 : Int) := by rw [← hr0, Int.natCast_emod]
    have V1 : IntKind.i64.wrap (Q : Int) = (Q : Int) := by rw [IntKind.wrap_i64]; omega
    have V2 : IntKind.i64.wrap (r0 : Int) = (r0 : Int) := by rw [IntKind.wrap_i64]; omega
    have HQQ := hide hQ
    have HRR := hide hr0
    have hD0 : ¬ (D : Int) = 0 := by omega
    have CB := fun W => hide (b_any (Q : Int) W (by omega) (by omega))
    have CS := fun (g : Nat) W (h : IntAt W g (Q : Int)) => hide (bstring_any g Q W h (by omega))
    clear hQ hr0
    go_wp2_with fail
    refine (CB _).out.mono ?_
    rintro e w1 ⟨g, rfl, hg1, hg2, hb⟩
    have S1 := hide (S0.out.below hb)
    have CS1 := CS g w1 hg2
    obtain ⟨i0, i1, _⟩ := S1.out.cells
    clear hb hg1 hg2 CB CS S0
    go_wp2_with fail
    refine CS1.out.mono ?_
    rintro e w2 ⟨rfl, hb⟩
    have S2 := hide (S1.out.below hb)
    obtain ⟨j0, j1, _⟩ := S2.out.cells
    clear hb CS1 S1
    obtain ⟨T, hT⟩ : ∃ T : ByteArray, (⟨(Lib.decDigits Q).toArray⟩ : ByteArray) = T := ⟨_, rfl⟩
    have HTT := hide hT
    rw [hT]
    have hTs : T.size ≤ 19 := by
      rw [← hT]
      show (Lib.decDigits Q).toArray.size ≤ 19
      rw [List.size_toArray, Lib.decDigits_length]
      exact nDigits_le 18 Q (by have : (10 : Nat) ^ (18 + 1) = 10000000000000000000 := by decide
                                omega)
    clear hT
    by_cases hz : r0 = 0
    · subst hz
      have HX : Hid (s = sgn a ++ Lib.decDigits Q) := by
        unfold Hid
        have h := HS.out.1
        rw [HUU.out, show ((D : Int)).toNat = D from rfl, HQQ.out, HRR.out] at h
        exact h rfl
      go_wp2_with fail
      go_ret
      exact ⟨by rw [HX.out, ← ByteArray.mk_append_mk, ← HSG.out, HTT.out]; rfl, S2.out.b⟩
    · have q3 : ((r0 : Int) == 0) = false := by rw [beq_eq_false_iff_ne]; omega
      have hmk := run_make_row' (P := Tryd.prog) 38 3 (.int .i64 0) 8 Tryd.underlying38 iinfo rfl .i64 .i64 D (by omega) (by omega)
      have HI0 : Hid (IRow (w2.alloc (.cells (madeCells #[.int .i64 0] D) 3)) w2.heap.size D (fun _ => 0)) :=
        ⟨⟨_, heap_alloc_new w2 _, by simp [madeCells], fun i hi => by simp [madeCells, hi, Nat.mod_one]⟩⟩
      have S3 := hide (S2.out.below (bel_f w2 (.cells (madeCells #[.int .i64 0] D) 3)))
      have hl2 : w.heap.size ≤ w2.heap.size := S2.out.b.size
      go_wp2_with fail
      obtain ⟨P, hP⟩ : ∃ P, sg ++ T = P := ⟨_, rfl⟩
      rw [hP]
      have hPs : P.size ≤ 20 := by rw [← hP, ByteArray.size_append]; omega
      have HPR : Hid (P = ⟨(sgn a ++ Lib.decDigits Q).toArray⟩) := by unfold Hid; rw [← hP, HSG.out, ← HTT.out, ByteArray.mk_append_mk]
      have hB := S2.out.cells.2.2
      obtain ⟨w3, hw3⟩ : ∃ W, w2.alloc (.cells (madeCells #[.int .i64 0] D) 3) = W := ⟨_, rfl⟩
      rw [hw3] at HI0 S3 ⊢
      obtain ⟨B, hBB⟩ : ∃ B, w2.heap.size = B := ⟨_, rfl⟩
      rw [hBB] at HI0 hB ⊢
      clear hP hw3 hBB hmk S2 j0 j1 hl2 HSG HTT hsg hTs
      go_loopg [36] D (fun J iv wr => ∃ i : Nat, J = D - i ∧ iv = .int .i64 i ∧ i ≤ D ∧ Hid (IRow wr B D (fun x => if x < i then -1 else 0)) ∧ Hid (DSt w wr a D))
      case atStart => exact ⟨0, by omega, rfl, by omega, HI0.out.ext (fun i hi => by simp), S3⟩
      case round =>
        clear HI0 S3
        obtain ⟨i, hJ, rfl, hi, HI, SR⟩ := hrel
        by_cases hlt : i < D
        · as_aux_lemma =>
          obtain ⟨ci, fi⟩ := HI.out.cell hlt
          have HI2 : Hid (IRow (wr.setCell ⟨B, i, none⟩ (.int .i64 (-1))) B D (fun x => if x < i + 1 then -1 else 0)) := (HI.out.set hlt (-1)).ext (fun x hx => by
            by_cases h1 : x = i
            · subst h1; simp
            · by_cases h2 : x < i
              · rw [if_neg h1, if_pos h2, if_pos (by omega)]
              · rw [if_neg h1, if_neg h2, if_neg (by omega)])
          have SR2 := hide (SR.out.set (i := i) hB (.int .i64 (-1)))
          have q4 : decide ((i : Int) < (D : Int)) = true := by rw [decide_eq_true_eq]; omega
          have q5 : decide (i < D) = true := by rw [decide_eq_true_eq]; omega
          have s1 : (i : Int) < (D : Int) := by omega
          have V3 : IntKind.i64.wrap ((i : Int) + 1) = ((i + 1 : Nat) : Int) := by rw [IntKind.wrap_i64]; omega
          go_wp2_with fail
          go_roundg (D - (i + 1))
          case measure => omega
          case rel => exact ⟨i + 1, rfl, by first | rfl | rw [V3], by omega, HI2, SR2⟩
        · as_aux_lemma =>
          obtain rfl : i = D := by omega
          have q4 : decide ((i : Int) < (i : Int)) = false := by rw [decide_eq_false_iff_not]; omega
          have q5 : decide (i < i) = false := by rw [decide_eq_false_iff_not]; omega
          have HI0 : Hid (IRow wr B i (fun x => sn i r0 0 x)) := HI.out.ext (fun x hx => by rw [if_pos hx]; rfl)
          have hD := HS.out.2
          rw [HUU.out, show ((i : Int)).toNat = i from rfl, HQQ.out, HRR.out] at hD
          obtain ⟨A, K, hok, hAK, hs⟩ := hD hz
          have HOK := hide hok
          have HSS := hide hs
          clear hD hok hs HI
          obtain ⟨W1, hW1⟩ : ∃ W1, W1 = wr := ⟨_, rfl⟩
          subst hW1
          have hBW : B < W1.heap.size := by
            obtain ⟨cs, h1, _⟩ := HI0.out.blk
            exact heap_lt h1
          have U8 := Tryd.underlying44
          obtain ⟨i0, hi0, hz0, hz1, hz2⟩ := info_parts binfo
          have HO := hide (And.intro hi0 (And.intro hz0 (And.intro hz1 hz2)))
          clear hi0 hz0 hz1 hz2
          go_wp2_with fail
          go_loopg [5, 8] (A + K) (fun J rv dv wr => ∃ m : Nat, J = A + K - m ∧ rv = .int .i64 (rst i r0 m) ∧ m ≤ A + K ∧ Hid (IRow wr B i (fun x => sn i r0 m x)) ∧ Hid (DSt w wr a i) ∧ W1.heap.size ≤ wr.heap.size ∧ Hid (wr.ownsRow W1.heap.size 5 1 dv m (Lib.byteCells (dgs i r0 m))))
          case atStart => exact ⟨0, by omega, by rw [rst_zero hrD], by omega, HI0, SR, by omega, ⟨rfl, .inl ⟨rfl, rfl⟩⟩⟩
          case round =>
            clear HI0 SR
            obtain ⟨m, hJ2, rfl, hm, HI, SR, hsz, HOW⟩ := hrel
            obtain ⟨Ad, cp, rfl⟩ := own_slice HOW.out
            obtain ⟨k0, k1, _⟩ := SR.out.cells
            have hR := rst_lt (r0 := r0) hD1 m
            obtain ⟨cr, fr⟩ := HI.out.cell hR
            by_cases hmN : m < A + K
            · as_aux_lemma =>
              have hsn : sn i r0 m (rst i r0 m) = -1 := sn_neg fun j hj => HOK.out.diff j m hj hmN
              have hR0 : 0 < rst i r0 m := by
                rcases Nat.eq_zero_or_pos K with hK | hK
                · have := (HOK.out.fin hK).2 m (by omega)
                  omega
                · have := (HOK.out.inf hK).1 m
                  omega
              rw [hsn] at cr
              have HI2 : Hid (IRow (wr.setCell ⟨B, rst i r0 m, none⟩ (.int .i64 (m : Int))) B i (fun x => sn i r0 (m + 1) x)) := (HI.out.set hR (m : Int)).ext (fun x hx => rfl)
              have S2 := hide (SR.out.set (i := rst i r0 m) hB (.int .i64 (m : Int)))
              have BW : Hid (Below W1.heap.size W1 W1) := Below.refl _ _
              obtain ⟨j0, j1, _⟩ := S2.out.cells
              have hdl := dig_lt (r0 := r0) hD1 m
              have hR2 := rst_lt (r0 := r0) hD1 (m + 1)
              have HR2 := hide (rst_succ i r0 m)
              have HDG : Hid (dig i r0 m = rst i r0 m * 10 / i) := rfl
              have HDS := hide (dgs_succ i r0 m)
              obtain ⟨R, hRe⟩ : ∃ R, rst i r0 m = R := ⟨_, rfl⟩
              obtain ⟨R2, hR2e⟩ : ∃ R2, rst i r0 (m + 1) = R2 := ⟨_, rfl⟩
              obtain ⟨g, hge⟩ : ∃ g, dig i r0 m = g := ⟨_, rfl⟩
              rw [hRe] at hR hR0 HR2 HDG HI2 S2 cr fr j0 j1 ⊢
              rw [hR2e] at hR2 HR2
              rw [hge] at hdl HDG HDS
              obtain ⟨X, hX⟩ : ∃ X, R * 10 = X := ⟨_, rfl⟩
              rw [hX] at HR2 HDG
              have hXi : (R : Int) * 10 = (X : Int) := by omega
              have U2 : IntKind.i64.wrap ((R : Int) * 10) = (X : Int) := by rw [hXi, IntKind.wrap_i64]; omega
              have d1 : (X : Int).tdiv (i : Int) = (g : Int) := by rw [Int.tdiv_eq_ediv_of_nonneg (by omega), HDG.out, Int.natCast_ediv]
              have d2 : (X : Int) / (i : Int) = (g : Int) := by rw [HDG.out, Int.natCast_ediv]
              have d3 : (X : Int).tmod (i : Int) = (R2 : Int) := by rw [Int.tmod_eq_emod_of_nonneg (by omega), HR2.out, Int.natCast_emod]
              have d4 : (X : Int) % (i : Int) = (R2 : Int) := by rw [HR2.out, Int.natCast_emod]
              have U3 : IntKind.i64.wrap (g : Int) = (g : Int) := by rw [IntKind.wrap_i64]; omega
              have U4 : IntKind.i64.wrap (48 + (g : Int)) = 48 + (g : Int) := by rw [IntKind.wrap_i64]; omega
              have U5 : IntKind.u8.wrap (48 + (g : Int)) = 48 + (g : Int) := by rw [IntKind.wrap_u8]; omega
              have U6 : IntKind.i64.wrap (R2 : Int) = (R2 : Int) := by rw [IntKind.wrap_i64]; omega
              have n1 : ((R : Int) == 0) = false := by rw [beq_eq_false_iff_ne]; omega
              have n2 : (R : Int) < (i : Int) := by omega
              have HGB : Hid (((UInt8.ofNat (48 + g)).toNat : Int) = 48 + (g : Int)) := by unfold Hid; rw [small_dig hdl]; omega
              have HN2 : Hid (R2 = rst i r0 (m + 1)) := hR2e.symm
              clear hRe hR2e hge hX hXi hsn
              have HOW2 := hide (own_set HOW.out (i := R) hBW (.int .i64 (m : Int)))
              obtain ⟨wy, hwy⟩ : ∃ W, wr.setCell ⟨B, R, none⟩ (.int .i64 (m : Int)) = W := ⟨_, rfl⟩
              have hszy : W1.heap.size ≤ wy.heap.size := by rw [← hwy]; simpa using hsz
              go_upto_region 19 with (fail)
              rw [hwy] at HI2 S2 j0 j1 HOW2
              clear hwy cr fr k0 k1 HI SR
              have HRA := hide (own_bel HOW2.out (bel_f wy (.cells #[.int .u8 (48 + (g : Int))] 5)))
              have HBA : Hid (Below W1.heap.size wy (wy.alloc (.cells #[.int .u8 (48 + (g : Int))] 5))) := (Below.refl _ _).alloc hszy _
              go_wp2_with (at_builtin; refine wpList_append_own _ rfl _ _ 44 rfl W1.heap.size 5 i0 (.int .u8 0) 1 1 U8 HO.out.1 HO.out.2.1 HO.out.2.2.1 HO.out.2.2.2 rfl (by decide) _ _ _ rfl HRA.out ⟨wy.heap.size, 0, none⟩ 1 1 [.int .u8 (48 + (g : Int))] rfl rfl (one_new wy _ _) ?c2 ?c3 ?c4 ?c5 ?_)
              case c2 => intro u hu; simp at hu; subst hu; rfl
              case c3 => simp only [maxLen]; omega
              case c4 => omega
              case c5 => simp; omega
              intro v' w5 hown hg5 _
              have HF5 : Hid (w5.ownsRow W1.heap.size 5 1 v' (m + 1) (Lib.byteCells (dgs i r0 (m + 1)))) := by
                unfold Hid
                rw [HDS.out, Lib.byteCells_append]
                have : Lib.byteCells [UInt8.ofNat (48 + g)] = [.int .u8 (48 + (g : Int))] := by
                  unfold Lib.byteCells
                  simp only [List.map_cons, List.map_nil]
                  rw [HGB.out]
                rw [this]
                exact hown
              have B5 : Hid (Below W1.heap.size wy w5) := HBA.out.grown hg5 (by simp; omega) (fun k hk => (HRA.out.lt k hk).1)
              have HI5 : Hid (IRow w5 B i (fun x => sn i r0 (m + 1) x)) := by
                obtain ⟨cs, h1, h2, h3⟩ := HI2.out.blk
                exact ⟨cs, (B5.out.block _ hBW).trans h1, h2, h3⟩
              have S5 : Hid (DSt w w5 a i) := ⟨(B5.out.block _ (by omega)).trans S2.out.x, S2.out.b.trans (B5.out.mono (by omega))⟩
              have hsz5 : W1.heap.size ≤ w5.heap.size := Nat.le_trans hszy B5.out.size
              obtain ⟨l0, l1, _⟩ := S5.out.cells
              clear hown hg5 HRA HBA B5 j0 j1
              go_wp2_with fail
              go_roundg (A + K - (m + 1))
              case measure => omega
              case rel => exact ⟨m + 1, rfl, by rw [HN2.out], by omega, HI5, S5, hsz5, HF5⟩
            · have hne0 : rst i r0 0 ≠ 0 := by rw [rst_zero hrD]; exact hz
              have hpos : 0 < m := by
                rcases Nat.eq_zero_or_pos m with h | h
                · obtain rfl : A = 0 := by omega
                  obtain rfl : K = 0 := by omega
                  exact absurd ((HOK.out.fin rfl).1) hne0
                · exact h
              obtain ⟨g, cap, he, hgl, hgh⟩ := HOW.out.form hpos
              injection he with e1 e2 e3
              subst e1 e3
              have hcap : m ≤ cp := by
                rcases HOW.out.2 with ⟨h1, h2⟩ | ⟨g', cap', cur, h1, _, _, h2, _⟩
                · cases h1
                · injection h1 with _ _ h3
                  omega
              have hcells := HOW.out.cells (g := g) rfl
              have hget : ∀ j, j < m → wr.cell? ((⟨g, 0, none⟩ : Addr).add j) = some (.int .u8 ((UInt8.ofNat (48 + dig i r0 j)).toNat : Int)) := fun j hj => by
                refine hcells j _ ?_
                unfold Lib.byteCells dgs
                simp [hj]
              have HGET := hide hget
              have hAm : A ≤ m := by omega
              have hm5 : m ≤ 20000 := by omega
              obtain ⟨TA, hTA⟩ : ∃ TA : ByteArray, TA = ⟨(dgs i r0 A).toArray⟩ := ⟨_, rfl⟩
              have hTAs : TA.size = A := by rw [hTA]; show (dgs i r0 A).toArray.size = A; rw [List.size_toArray, dgs_len]
              have hcv1 : ∀ W, Below wr.heap.size wr W → (convert 44 9 (.slice (some ⟨g, 0, none⟩) A cp)).run Tryd.prog W = .ok (.string TA) W := fun W hW => by
                have h := run_convert_bytes_back (P := Tryd.prog) W 44 9 5 ⟨g, 0, none⟩ cp (dgs i r0 A) Tryd.underlying44 Tryd.underlying5 Tryd.underlying9 (fun j hj => by
                  have hj2 : j < A := by rwa [dgs_len] at hj
                  rw [hW.cell (p := (⟨g, 0, none⟩ : Addr).add j) (by rw [add_block]; exact hgh), HGET.out j (by omega)]
                  simp [dgs])
                rw [dgs_len, ← hTA] at h
                exact h
              have HCV1 := hide hcv1
              have hcv1 := HCV1.out wr (Below.refl _ _)
              have HTA := hide hTA
              clear hcells hget hTA
              rcases Nat.eq_zero_or_pos K with hK | hK
              · as_aux_lemma =>
                subst hK
                have hmA : A = m := by omega
                subst hmA
                have e0 : ((rst i r0 A : Nat) : Int) = 0 := by rw [(HOK.out.fin rfl).1]; rfl
                rw [e0]
                have HX : Hid (s = ((sgn a ++ Lib.decDigits Q) ++ [46]) ++ dgs i r0 A) := by
                  unfold Hid
                  have h := HSS.out
                  rw [if_pos rfl, List.append_nil] at h
                  rw [h, List.append_assoc, List.append_assoc, List.append_assoc]
                clear cr fr e0 hmN hR
                go_wp2_with fail
                go_ret
                exact ⟨by rw [HX.out, ← ByteArray.mk_append_mk, ← ByteArray.mk_append_mk _ [46], ← HPR.out, ← HTA.out]; rfl, SR.out.b⟩
              · as_aux_lemma =>
                have hmA : A + K = m := by omega
                subst hmA
                obtain ⟨hne, hper⟩ := HOK.out.inf hK
                have hR0 := hne (A + K)
                have hsn : sn i r0 (A + K) (rst i r0 (A + K)) = (A : Int) := sn_val (fun p q h1 h2 => HOK.out.diff p q h1 h2) (by omega) hper.symm
                rw [hsn] at cr
                obtain ⟨TB, hTB⟩ : ∃ TB : ByteArray, TB = ⟨((dgs i r0 (A + K)).drop A).toArray⟩ := ⟨_, rfl⟩
                have hdl : ((dgs i r0 (A + K)).drop A).length = K := by rw [List.length_drop, dgs_len]; omega
                have hTBs : TB.size = K := by rw [hTB]; show ((dgs i r0 (A + K)).drop A).toArray.size = K; rw [List.size_toArray, hdl]
                have hcv2 : ∀ W, Below wr.heap.size wr W → (convert 44 9 (.slice (some ⟨g, A, none⟩) K (cp - A))).run Tryd.prog W = .ok (.string TB) W := fun W hW => by
                  have h := run_convert_bytes_back (P := Tryd.prog) W 44 9 5 ⟨g, A, none⟩ (cp - A) ((dgs i r0 (A + K)).drop A) Tryd.underlying44 Tryd.underlying5 Tryd.underlying9 (fun j hj => by
                    have hj2 : j < K := by rwa [hdl] at hj
                    have e : (⟨g, A, none⟩ : Addr).add j = (⟨g, 0, none⟩ : Addr).add (A + j) := by
                      unfold Addr.add
                      by_cases h1 : j = 0
                      · by_cases h2 : A = 0
                        · subst h1 h2; rfl
                        · simp [h1, h2]
                      · simp [h1]
                    rw [e, hW.cell (p := (⟨g, 0, none⟩ : Addr).add (A + j)) (by rw [add_block]; exact hgh), HGET.out (A + j) (by omega)]
                    simp [dgs])
                  rw [hdl, ← hTB] at h
                  exact h
                have HCV2 := hide hcv2
                clear hcv1 hcv2
                have HTB := hide hTB
                have HX : Hid (s = ((((sgn a ++ Lib.decDigits Q) ++ [46]) ++ dgs i r0 A) ++ [40]) ++ (dgs i r0 (A + K)).drop A ++ [41]) := by
                  unfold Hid
                  have h := HSS.out
                  rw [if_neg (by omega)] at h
                  rw [h]
                  simp only [List.append_assoc]
                obtain ⟨R, hRe⟩ : ∃ R, rst i r0 (A + K) = R := ⟨_, rfl⟩
                rw [hRe] at hR hR0 cr fr ⊢
                have n1 : ((R : Int) == 0) = false := by rw [beq_eq_false_iff_ne]; omega
                have n2 : (R : Int) < (i : Int) := by omega
                have n3 : decide ((A : Int) < 0) = false := by rw [decide_eq_false_iff_not]; omega
                have hKi : ((A + K : Nat) : Int) - (A : Int) = (K : Int) := by omega
                clear hTB hdl hsn hRe hper hne hmN
                go_wp2_with fail
                have KC : ∀ W, Below wr.heap.size wr W → Hid (((convert 44 9 (.slice (some ⟨g, 0, none⟩) A cp)).run Tryd.prog W = .ok (.string TA) W ∧ (convert 44 9 (.slice (some ⟨g, A, none⟩) K (cp - A))).run Tryd.prog W = .ok (.string TB) W) ∧ Hid (Below wr.heap.size wr W)) := fun W hW => ⟨⟨HCV1.out W hW, HCV2.out W hW⟩, hW⟩
                have y0 : (0 : Int) ≤ (A : Int) := by omega
                have y1 : (A : Int) ≤ (cp : Int) := by omega
                have y2 : (A : Int) ≤ (A : Int) + (K : Int) := by omega
                have y3 : A ≤ cp := by omega
                have y4 : (A : Int) ≤ ((A + K : Nat) : Int) := by omega
                have y7 : ¬ cp = A := by omega
                have y5 : ((A + K : Nat) : Int) ≤ (cp : Int) := by omega
                have y6 : (A : Int) + (K : Int) ≤ (cp : Int) := by omega
                have e46 : (⟨#[46]⟩ : ByteArray).size = 1 := rfl
                have e40 : (⟨#[40]⟩ : ByteArray).size = 1 := rfl
                have e41 : (⟨#[41]⟩ : ByteArray).size = 1 := rfl
                have R1 : ∀ w, (Op.stringOp .add P ⟨#[46]⟩).run Tryd.prog w = .ok (.string (P ++ ⟨#[46]⟩)) w := fun w => run_string_add w _ _ (by omega) (by omega)
                have R2 : ∀ w, (Op.stringOp .add (P ++ ⟨#[46]⟩) TA).run Tryd.prog w = .ok (.string (P ++ ⟨#[46]⟩ ++ TA)) w := fun w => run_string_add w _ _ (by rw [ByteArray.size_append]; omega) (by omega)
                have R3 : ∀ w, (Op.stringOp .add (P ++ ⟨#[46]⟩ ++ TA) ⟨#[40]⟩).run Tryd.prog w = .ok (.string (P ++ ⟨#[46]⟩ ++ TA ++ ⟨#[40]⟩)) w := fun w => run_string_add w _ _ (by rw [ByteArray.size_append, ByteArray.size_append]; omega) (by omega)
                have R4 : ∀ w, (Op.stringOp .add (P ++ ⟨#[46]⟩ ++ TA ++ ⟨#[40]⟩) TB).run Tryd.prog w = .ok (.string (P ++ ⟨#[46]⟩ ++ TA ++ ⟨#[40]⟩ ++ TB)) w := fun w => run_string_add w _ _ (by rw [ByteArray.size_append, ByteArray.size_append, ByteArray.size_append]; omega) (by omega)
                have R5 : ∀ w, (Op.stringOp .add (P ++ ⟨#[46]⟩ ++ TA ++ ⟨#[40]⟩ ++ TB) ⟨#[41]⟩).run Tryd.prog w = .ok (.string (P ++ ⟨#[46]⟩ ++ TA ++ ⟨#[40]⟩ ++ TB ++ ⟨#[41]⟩)) w := fun w => run_string_add w _ _ (by rw [ByteArray.size_append, ByteArray.size_append, ByteArray.size_append, ByteArray.size_append]; omega) (by omega)
                clear e46 e40 e41 hPs hTAs hTBs
                go_region_held3 (fun W => ((convert 44 9 (.slice (some ⟨g, 0, none⟩) A cp)).run Tryd.prog W = .ok (.string TA) W ∧ (convert 44 9 (.slice (some ⟨g, A, none⟩) K (cp - A))).run Tryd.prog W = .ok (.string TB) W) ∧ Hid (Below wr.heap.size wr W)) (first | exact (KC _ (below_drewN (Below.refl _ _) 1)).out | exact (KC _ (Below.refl _ _)).out) (first | fail)
                all_goals
                 clear R1 R2 R3 R4 R5 y0 y1 y2 y3 y4 y5 y6 y7
                 go_wp2_with fail
                 go_ret
                 exact ⟨by rw [HX.out, ← ByteArray.mk_append_mk _ [41], ← ByteArray.mk_append_mk _ ((dgs i r0 (A + K)).drop A), ← ByteArray.mk_append_mk _ [40], ← ByteArray.mk_append_mk _ (dgs i r0 A), ← ByteArray.mk_append_mk _ [46], ← HPR.out, ← HTA.out, ← HTB.out]; rfl, below_drewN SR.out.b 1⟩
end Go.Proofs.YtgocnjklpafabaaDoor
