/- The walk of the law CurveGroup, whole (printed by gen_curvy.py). -/
import Derived.Test.YtlchmaiflcnaoaaGreatDoorKCurvY
namespace Go.Proofs.YtlchmaiflcnaoaaGreatDoor
open Go.RowKit
open CV

/-- what the law asks of the group -/
structure GrpF (p : Nat) (a b t : Int) (Q R S X U Z L : CP) : Prop where
  x : ∀ W, TabW W → Hid (Calls Tryz.prog 20 #[.int .i64 (p : Int), .int .i64 a, .int .i64 b, ptv Q, ptv R] W (RetAdd W X (t, t)))
  y : ∀ W, TabW W → Hid (Calls Tryz.prog 20 #[.int .i64 (p : Int), .int .i64 a, .int .i64 b, ptv R, ptv Q] W (RetAdd W X (t, t)))
  u : ∀ W, TabW W → Hid (Calls Tryz.prog 20 #[.int .i64 (p : Int), .int .i64 a, .int .i64 b, ptv X, ptv S] W (RetAdd W U (t, t)))
  z : ∀ W, TabW W → Hid (Calls Tryz.prog 20 #[.int .i64 (p : Int), .int .i64 a, .int .i64 b, ptv R, ptv S] W (RetAdd W Z (t, t)))
  v : ∀ W, TabW W → Hid (Calls Tryz.prog 20 #[.int .i64 (p : Int), .int .i64 a, .int .i64 b, ptv Q, ptv Z] W (RetAdd W U (t, t)))
  l : ∀ W, TabW W → Hid (Calls Tryz.prog 22 #[.int .i64 (p : Int), .int .i64 a, .int .i64 b, .int .i64 (-1), ptv Q] W (RetAdd W L (t, t)))
  o : ∀ W, TabW W → Hid (Calls Tryz.prog 20 #[.int .i64 (p : Int), .int .i64 a, .int .i64 b, ptv Q, ptv L] W (RetAdd W farC (t, t)))
structure GrpT (p : Nat) (a b n m t : Int) (Q I J K : CP) : Prop where
  i : ∀ W, TabW W → Hid (Calls Tryz.prog 22 #[.int .i64 (p : Int), .int .i64 a, .int .i64 b, .int .i64 n, ptv Q] W (RetAdd W I (t, t)))
  j : ∀ W, TabW W → Hid (Calls Tryz.prog 22 #[.int .i64 (p : Int), .int .i64 a, .int .i64 b, .int .i64 m, ptv Q] W (RetAdd W J (t, t)))
  k : ∀ W, TabW W → Hid (Calls Tryz.prog 22 #[.int .i64 (p : Int), .int .i64 a, .int .i64 b, .int .i64 (n + m), ptv Q] W (RetAdd W K (t, t)))
  s : ∀ W, TabW W → Hid (Calls Tryz.prog 20 #[.int .i64 (p : Int), .int .i64 a, .int .i64 b, ptv I, ptv J] W (RetAdd W K (t, t)))
theorem grpF {p : Nat} {a b : Int} {Q R S : CP} (h : OkCv p a b) (hQ : okC p a b Q) (hR : okC p a b R) (hS : okC p a b S) : ∃ X U Z L, GrpF p a b 0 Q R S X U Z L := by
  have G := cgroup h
  have oX := G.aok _ _ hQ hR
  have oZ := G.aok _ _ hR hS
  have oL : okC p a b (zC p a (-1) Q) := G.zmok hQ (-1)
  refine ⟨addC p a Q R, addC p a (addC p a Q R) S, addC p a R S, zC p a (-1) Q, fun W hW => hide (Add_ok p a b Q R W hW h hQ hR), ?_, fun W hW => hide (Add_ok p a b _ S W hW h oX hS), fun W hW => hide (Add_ok p a b R S W hW h hR hS), ?_, fun W hW => hide (Times_ok p a b (-1) Q W hW h hQ (by omega)), ?_⟩
  · intro W hW
    have C := Add_ok p a b R Q W hW h hR hQ
    rw [G.comm _ _ hR hQ] at C
    exact hide C
  · intro W hW
    have C := Add_ok p a b Q _ W hW h hQ oZ
    rw [← G.assoc _ _ _ hQ hR hS] at C
    exact hide C
  · intro W hW
    have C := Add_ok p a b Q _ W hW h hQ oL
    have e1 : zC p a (-1) Q = negC p Q := by
      show zm (addC p a) farC (negC p) (-1) Q = negC p Q
      unfold zm
      rw [if_pos (by omega)]
      exact G.nm_one (G.nok _ hQ)
    have e2 : addC p a Q (zC p a (-1) Q) = farC := by rw [e1]; exact G.inv _ hQ
    rw [e2] at C
    exact hide C
theorem grpT {p : Nat} {a b n m : Int} {Q : CP} (h : OkCv p a b) (hQ : okC p a b Q) (hn : -1000000000 ≤ n ∧ n ≤ 1000000000) (hm : -1000000000 ≤ m ∧ m ≤ 1000000000) : ∃ I J K, GrpT p a b n m 0 Q I J K := by
  have G := cgroup h
  refine ⟨zC p a n Q, zC p a m Q, zC p a (n + m) Q, fun W hW => hide (Times_ok p a b n Q W hW h hQ (by omega)), fun W hW => hide (Times_ok p a b m Q W hW h hQ (by omega)), fun W hW => hide (Times_ok p a b (n + m) Q W hW h hQ (by omega)), ?_⟩
  intro W hW
  have C := Add_ok p a b (zC p a n Q) (zC p a m Q) W hW h (G.zmok hQ n) (G.zmok hQ m)
  have e : zC p a (n + m) Q = addC p a (zC p a n Q) (zC p a m Q) := G.zm_add hQ n m
  rw [← e] at C
  exact hide C

set_option maxRecDepth 100000 in
set_option maxHeartbeats 6400000 in
theorem group_ok (p : Nat) (a b n m : Int) (Q R S : CP) (w : World) (hT : TabW w) (h : OkCv p a b) (hQ : okC p a b Q) (hR : okC p a b R) (hS : okC p a b S) :
    Calls Tryz.prog 5 #[.int .i64 (p : Int), .int .i64 a, .int .i64 b, ptv Q, ptv R, ptv S, .int .i64 n, .int .i64 m] w fun e w' => e = .returned (.bool true) ∧ Below w.heap.size w w' := by
  obtain ⟨t, ht⟩ : ∃ t : Int, 0 = t := ⟨_, rfl⟩
  have HTZ := hide ht
  have t1 : (t != 0) = false := by rw [← ht]; rfl
  have t2 : (t == 0) = true := by rw [← ht]; rfl
  obtain ⟨X, U, Z, L, HF⟩ := grpF h hQ hR hS
  rw [ht] at HF
  have HT : Hid (-1000000000 ≤ n ∧ n ≤ 1000000000 → -1000000000 ≤ m ∧ m ≤ 1000000000 → ∃ I J K, GrpT p a b n m t Q I J K) := hide fun h1 h2 => by rw [← ht]; exact grpT h hQ h1 h2
  have CO := fun W => hide (offCurve_any p a b _ [S] _ (PtS.one (w := W) S) (by simp))
  have hlk : lookC p a b [S] = (t, t) := by
    rw [← ht]
    unfold lookC
    rw [h.chk, if_neg (by simp)]
    exact offP_ok (by simp; exact hS)
  rw [hlk] at CO
  unfold RetOff at CO
  obtain ⟨P', hP'⟩ : ∃ P' : Int, (p : Int) = P' := ⟨_, rfl⟩
  obtain ⟨Cx, Cy, Cu, Cz, Cv, Cl, Co⟩ := HF
  rw [hP'] at Cx Cy Cu Cz Cv Cl Co CO ⊢
  have HP := hide hP'
  unfold RetAdd ptv at Cx Cy Cu Cz Cv Cl Co
  simp only [fv, farC] at Cx Cy Cu Cz Cv Cl Co CO
  have H0 : Hid (Blks w w []) := hide ⟨Below.refl _ _, hT, by simp, by simp⟩
  have H1 := hide (((H0.out.new #[.int .i64 Q.x, .int .i64 Q.y, .bool Q.far] 39).new #[.int .i64 R.x, .int .i64 R.y, .bool R.far] 39).new #[.int .i64 S.x, .int .i64 S.y, .bool S.far] 39)
  obtain ⟨W1, hW1⟩ : ∃ ZZ, (((w.alloc (.cells #[.int .i64 Q.x, .int .i64 Q.y, .bool Q.far] 39)).alloc (.cells #[.int .i64 R.x, .int .i64 R.y, .bool R.far] 39)).alloc (.cells #[.int .i64 S.x, .int .i64 S.y, .bool S.far] 39)) = ZZ := ⟨_, rfl⟩
  simp only [World.size_alloc] at H1
  rw [hW1] at H1
  have CB := fun W (hW : TabW W) => hide (curveBegun_any W hW)
  have KF := field_codeG
  clear hT h hQ hR hS hlk hP' H0 ht
  unfold ptv
  go_enter Tryz.func5, Tryz.ntmps5
  go_wp2_with fail
  (try rw [hW1])
  clear hW1
  refine (CB W1 H1.out.tab).out.mono ?_
  rintro e w1 ⟨rfl, hb⟩
  have H2 := hide (H1.out.below hb)
  clear hb H1 CB
  obtain ⟨k0, k1, k2⟩ := (H2.out.get 2 rfl).three
  obtain ⟨k3, k4, k5⟩ := (H2.out.get 1 rfl).three
  go_wp2_with fail
  refine (Cx _ H2.out.tab).out.mono ?_
  rintro e w2 ⟨rfl, hb⟩
  have H3 := hide (H2.out.below hb)
  clear hb H2 Cx k0 k1 k2 k3 k4 k5
  have H4 := hide (H3.out.two #[.int .i64 X.x, .int .i64 X.y, .bool X.far] 39 #[.int .i64 t, .int .i64 t] 24)
  obtain ⟨W2, hW2⟩ : ∃ ZZ, ((w2.alloc (.cells #[.int .i64 X.x, .int .i64 X.y, .bool X.far] 39)).alloc (.cells #[.int .i64 t, .int .i64 t] 24)) = ZZ := ⟨_, rfl⟩
  obtain ⟨g1, hg1⟩ : ∃ ZZ, w2.heap.size = ZZ := ⟨_, rfl⟩
  rw [hW2, hg1] at H4
  clear H3
  obtain ⟨k6, k7, k8⟩ := (H4.out.get 2 rfl).three
  have k9 := (H4.out.get 0 rfl).cell (i := 0) (v := .int .i64 t) rfl
  go_wp2_with fail
  have H5 := hide (H4.out.new #[.int .i64 S.x, .int .i64 S.y, .bool S.far] 39)
  refine (CO _).out.mono ?_
  rintro e w3 ⟨rfl, hb⟩
  have H6 := hide (H5.out.below hb)
  clear hb H4 H5 CO hW2 hg1 k6 k7 k8 k9
  obtain ⟨k10, k11, k12⟩ := (H6.out.get 4 rfl).three
  obtain ⟨k13, k14, k15⟩ := (H6.out.get 5 rfl).three
  go_wp2_with fail
  refine (Cy _ H6.out.tab).out.mono ?_
  rintro e w4 ⟨rfl, hb⟩
  have H7 := hide (H6.out.below hb)
  clear hb H6 Cy k10 k11 k12 k13 k14 k15
  have H8 := hide (H7.out.two #[.int .i64 X.x, .int .i64 X.y, .bool X.far] 39 #[.int .i64 t, .int .i64 t] 24)
  obtain ⟨W4, hW4⟩ : ∃ ZZ, ((w4.alloc (.cells #[.int .i64 X.x, .int .i64 X.y, .bool X.far] 39)).alloc (.cells #[.int .i64 t, .int .i64 t] 24)) = ZZ := ⟨_, rfl⟩
  obtain ⟨g2, hg2⟩ : ∃ ZZ, w4.heap.size = ZZ := ⟨_, rfl⟩
  rw [hW4, hg2] at H8
  clear H7
  obtain ⟨k16, k17, k18⟩ := (H8.out.get 4 rfl).three
  obtain ⟨k19, k20, k21⟩ := (H8.out.get 5 rfl).three
  go_wp2_with fail
  refine (Cu _ H8.out.tab).out.mono ?_
  rintro e w5 ⟨rfl, hb⟩
  have H9 := hide (H8.out.below hb)
  clear hb H8 Cu hW4 hg2 k16 k17 k18 k19 k20 k21
  have H10 := hide (H9.out.two #[.int .i64 U.x, .int .i64 U.y, .bool U.far] 39 #[.int .i64 t, .int .i64 t] 24)
  obtain ⟨W5, hW5⟩ : ∃ ZZ, ((w5.alloc (.cells #[.int .i64 U.x, .int .i64 U.y, .bool U.far] 39)).alloc (.cells #[.int .i64 t, .int .i64 t] 24)) = ZZ := ⟨_, rfl⟩
  obtain ⟨g3, hg3⟩ : ∃ ZZ, w5.heap.size = ZZ := ⟨_, rfl⟩
  rw [hW5, hg3] at H10
  clear H9
  obtain ⟨k22, k23, k24⟩ := (H10.out.get 8 rfl).three
  obtain ⟨k25, k26, k27⟩ := (H10.out.get 7 rfl).three
  go_wp2_with fail
  refine (Cz _ H10.out.tab).out.mono ?_
  rintro e w6 ⟨rfl, hb⟩
  have H11 := hide (H10.out.below hb)
  clear hb H10 Cz hW5 hg3 k22 k23 k24 k25 k26 k27
  have H12 := hide (H11.out.two #[.int .i64 Z.x, .int .i64 Z.y, .bool Z.far] 39 #[.int .i64 t, .int .i64 t] 24)
  obtain ⟨W6, hW6⟩ : ∃ ZZ, ((w6.alloc (.cells #[.int .i64 Z.x, .int .i64 Z.y, .bool Z.far] 39)).alloc (.cells #[.int .i64 t, .int .i64 t] 24)) = ZZ := ⟨_, rfl⟩
  obtain ⟨g4, hg4⟩ : ∃ ZZ, w6.heap.size = ZZ := ⟨_, rfl⟩
  rw [hW6, hg4] at H12
  clear H11
  obtain ⟨k28, k29, k30⟩ := (H12.out.get 11 rfl).three
  obtain ⟨k31, k32, k33⟩ := (H12.out.get 1 rfl).three
  go_wp2_with fail
  refine (Cv _ H12.out.tab).out.mono ?_
  rintro e w7 ⟨rfl, hb⟩
  have H13 := hide (H12.out.below hb)
  clear hb H12 Cv hW6 hg4 k28 k29 k30 k31 k32 k33
  have H14 := hide (H13.out.two #[.int .i64 U.x, .int .i64 U.y, .bool U.far] 39 #[.int .i64 t, .int .i64 t] 24)
  obtain ⟨W7, hW7⟩ : ∃ ZZ, ((w7.alloc (.cells #[.int .i64 U.x, .int .i64 U.y, .bool U.far] 39)).alloc (.cells #[.int .i64 t, .int .i64 t] 24)) = ZZ := ⟨_, rfl⟩
  obtain ⟨g5, hg5⟩ : ∃ ZZ, w7.heap.size = ZZ := ⟨_, rfl⟩
  rw [hW7, hg5] at H14
  clear H13
  obtain ⟨k34, k35, k36⟩ := (H14.out.get 13 rfl).three
  go_wp2_with fail
  refine (Cl _ H14.out.tab).out.mono ?_
  rintro e w8 ⟨rfl, hb⟩
  have H15 := hide (H14.out.below hb)
  clear hb H14 Cl hW7 hg5 k34 k35 k36
  have H16 := hide (H15.out.two #[.int .i64 L.x, .int .i64 L.y, .bool L.far] 39 #[.int .i64 t, .int .i64 t] 24)
  obtain ⟨W8, hW8⟩ : ∃ ZZ, ((w8.alloc (.cells #[.int .i64 L.x, .int .i64 L.y, .bool L.far] 39)).alloc (.cells #[.int .i64 t, .int .i64 t] 24)) = ZZ := ⟨_, rfl⟩
  obtain ⟨g6, hg6⟩ : ∃ ZZ, w8.heap.size = ZZ := ⟨_, rfl⟩
  rw [hW8, hg6] at H16
  clear H15
  obtain ⟨k37, k38, k39⟩ := (H16.out.get 15 rfl).three
  obtain ⟨k40, k41, k42⟩ := (H16.out.get 1 rfl).three
  go_wp2_with fail
  refine (Co _ H16.out.tab).out.mono ?_
  rintro e w9 ⟨rfl, hb⟩
  have H17 := hide (H16.out.below hb)
  clear hb H16 Co hW8 hg6 k37 k38 k39 k40 k41 k42
  have H18 := hide (H17.out.two #[.int .i64 0, .int .i64 0, .bool true] 39 #[.int .i64 t, .int .i64 t] 24)
  obtain ⟨W9, hW9⟩ : ∃ ZZ, ((w9.alloc (.cells #[.int .i64 0, .int .i64 0, .bool true] 39)).alloc (.cells #[.int .i64 t, .int .i64 t] 24)) = ZZ := ⟨_, rfl⟩
  obtain ⟨g7, hg7⟩ : ∃ ZZ, w9.heap.size = ZZ := ⟨_, rfl⟩
  rw [hW9, hg7] at H18
  clear H17
  obtain ⟨k43, k44, k45⟩ := (H18.out.get 14 rfl).three
  obtain ⟨k46, k47, k48⟩ := (H18.out.get 11 rfl).three
  obtain ⟨k49, k50, k51⟩ := (H18.out.get 9 rfl).three
  obtain ⟨k52, k53, k54⟩ := (H18.out.get 5 rfl).three
  obtain ⟨k55, k56, k57⟩ := (H18.out.get 1 rfl).three
  obtain ⟨k58, k59, k60⟩ := (H18.out.get 17 rfl).three
  have k61 := (H18.out.get 10 rfl).cell (i := 0) (v := .int .i64 t) rfl
  have k62 := (H18.out.get 8 rfl).cell (i := 0) (v := .int .i64 t) rfl
  have k63 := (H18.out.get 6 rfl).cell (i := 0) (v := .int .i64 t) rfl
  have k64 := (H18.out.get 4 rfl).cell (i := 0) (v := .int .i64 t) rfl
  have k65 := (H18.out.get 2 rfl).cell (i := 0) (v := .int .i64 t) rfl
  have k66 := (H18.out.get 0 rfl).cell (i := 0) (v := .int .i64 t) rfl
  by_cases hr : (-1000000000 ≤ n ∧ n ≤ 1000000000) ∧ -1000000000 ≤ m ∧ m ≤ 1000000000
  · obtain ⟨I, J, K, Ci, Cj, Ck, Cs⟩ := HT.out hr.1 hr.2
    rw [HP.out] at Ci Cj Ck Cs
    unfold RetAdd ptv at Ci Cj Ck Cs
    simp only [fv] at Ci Cj Ck Cs
    have q1 : decide (1000000000 < n) = false := by rw [decide_eq_false_iff_not]; omega
    have q2 : decide (n < -1000000000) = false := by rw [decide_eq_false_iff_not]; omega
    have q3 : decide (1000000000 < m) = false := by rw [decide_eq_false_iff_not]; omega
    have q4 : decide (m < -1000000000) = false := by rw [decide_eq_false_iff_not]; omega
    have v1 : IntKind.i64.wrap (n + m) = n + m := by rw [IntKind.wrap_i64]; omega
    clear hr HT
    go_wp2_with fail
    refine (Ci _ H18.out.tab).out.mono ?_
    rintro e w10 ⟨rfl, hb⟩
    have H19 := hide (H18.out.below hb)
    clear hb H18 Ci hW9 hg7 k43 k44 k45 k46 k47 k48 k49 k50 k51 k52 k53 k54 k55 k56 k57 k58 k59 k60 k61 k62 k63 k64 k65 k66
    clear q1 q2 q3 q4
    have k67 : g2 + 1 < w10.heap.size := (H19.out.get 10 rfl).lt
    have H19n := hide (H19.out.new #[.int .i64 I.x, .int .i64 I.y, .bool I.far] 39)
    have k68 := (H19n.out.get 11 rfl).cell (i := 0) (v := .int .i64 t) rfl
    have k69 := (H19n.out.get 11 rfl).cell (i := 1) (v := .int .i64 t) rfl
    have k70 := (H19n.out.get 11 rfl).frozen 0
    have k71 := (H19n.out.get 11 rfl).frozen 1
    clear H19n
    have H20 := hide ((H19.out.new #[.int .i64 I.x, .int .i64 I.y, .bool I.far] 39).same 11 rfl)
    obtain ⟨W10, hW10⟩ : ∃ ZZ, (((w10.alloc (.cells #[.int .i64 I.x, .int .i64 I.y, .bool I.far] 39)).setCell ⟨g2 + 1, 0, none⟩ (.int .i64 t)).setCell ⟨g2 + 1, 1, none⟩ (.int .i64 t)) = ZZ := ⟨_, rfl⟩
    obtain ⟨g8, hg8⟩ : ∃ ZZ, w10.heap.size = ZZ := ⟨_, rfl⟩
    rw [hW10, hg8] at H20
    clear H19
    obtain ⟨k72, k73, k74⟩ := (H20.out.get 18 rfl).three
    go_wp2_with fail
    refine (Cj _ H20.out.tab).out.mono ?_
    rintro e w11 ⟨rfl, hb⟩
    have H21 := hide (H20.out.below hb)
    clear hb H20 Cj k67 k68 k69 k70 k71 hW10 hg8 k72 k73 k74
    have k75 : g3 + 1 < w11.heap.size := (H21.out.get 9 rfl).lt
    have H21n := hide (H21.out.new #[.int .i64 J.x, .int .i64 J.y, .bool J.far] 39)
    have k76 := (H21n.out.get 10 rfl).cell (i := 0) (v := .int .i64 t) rfl
    have k77 := (H21n.out.get 10 rfl).cell (i := 1) (v := .int .i64 t) rfl
    have k78 := (H21n.out.get 10 rfl).frozen 0
    have k79 := (H21n.out.get 10 rfl).frozen 1
    clear H21n
    have H22 := hide ((H21.out.new #[.int .i64 J.x, .int .i64 J.y, .bool J.far] 39).same 10 rfl)
    obtain ⟨W11, hW11⟩ : ∃ ZZ, (((w11.alloc (.cells #[.int .i64 J.x, .int .i64 J.y, .bool J.far] 39)).setCell ⟨g3 + 1, 0, none⟩ (.int .i64 t)).setCell ⟨g3 + 1, 1, none⟩ (.int .i64 t)) = ZZ := ⟨_, rfl⟩
    obtain ⟨g9, hg9⟩ : ∃ ZZ, w11.heap.size = ZZ := ⟨_, rfl⟩
    rw [hW11, hg9] at H22
    clear H21
    obtain ⟨k80, k81, k82⟩ := (H22.out.get 19 rfl).three
    go_wp2_with fail
    refine (Ck _ H22.out.tab).out.mono ?_
    rintro e w12 ⟨rfl, hb⟩
    have H23 := hide (H22.out.below hb)
    clear hb H22 Ck k75 k76 k77 k78 k79 hW11 hg9 k80 k81 k82
    have k83 : g4 + 1 < w12.heap.size := (H23.out.get 8 rfl).lt
    have H23n := hide (H23.out.new #[.int .i64 K.x, .int .i64 K.y, .bool K.far] 39)
    have k84 := (H23n.out.get 9 rfl).cell (i := 0) (v := .int .i64 t) rfl
    have k85 := (H23n.out.get 9 rfl).cell (i := 1) (v := .int .i64 t) rfl
    have k86 := (H23n.out.get 9 rfl).frozen 0
    have k87 := (H23n.out.get 9 rfl).frozen 1
    clear H23n
    have H24 := hide ((H23.out.new #[.int .i64 K.x, .int .i64 K.y, .bool K.far] 39).same 9 rfl)
    obtain ⟨W12, hW12⟩ : ∃ ZZ, (((w12.alloc (.cells #[.int .i64 K.x, .int .i64 K.y, .bool K.far] 39)).setCell ⟨g4 + 1, 0, none⟩ (.int .i64 t)).setCell ⟨g4 + 1, 1, none⟩ (.int .i64 t)) = ZZ := ⟨_, rfl⟩
    obtain ⟨g10, hg10⟩ : ∃ ZZ, w12.heap.size = ZZ := ⟨_, rfl⟩
    rw [hW12, hg10] at H24
    clear H23
    obtain ⟨k88, k89, k90⟩ := (H24.out.get 2 rfl).three
    obtain ⟨k91, k92, k93⟩ := (H24.out.get 1 rfl).three
    go_wp2_with fail
    refine (Cs _ H24.out.tab).out.mono ?_
    rintro e w13 ⟨rfl, hb⟩
    have H25 := hide (H24.out.below hb)
    clear hb H24 Cs k83 k84 k85 k86 k87 hW12 hg10 k88 k89 k90 k91 k92 k93
    have k94 : g5 + 1 < w13.heap.size := (H25.out.get 7 rfl).lt
    have H25n := hide (H25.out.new #[.int .i64 K.x, .int .i64 K.y, .bool K.far] 39)
    have k95 := (H25n.out.get 8 rfl).cell (i := 0) (v := .int .i64 t) rfl
    have k96 := (H25n.out.get 8 rfl).cell (i := 1) (v := .int .i64 t) rfl
    have k97 := (H25n.out.get 8 rfl).frozen 0
    have k98 := (H25n.out.get 8 rfl).frozen 1
    clear H25n
    have H26 := hide ((H25.out.new #[.int .i64 K.x, .int .i64 K.y, .bool K.far] 39).same 8 rfl)
    obtain ⟨W13, hW13⟩ : ∃ ZZ, (((w13.alloc (.cells #[.int .i64 K.x, .int .i64 K.y, .bool K.far] 39)).setCell ⟨g5 + 1, 0, none⟩ (.int .i64 t)).setCell ⟨g5 + 1, 1, none⟩ (.int .i64 t)) = ZZ := ⟨_, rfl⟩
    obtain ⟨g11, hg11⟩ : ∃ ZZ, w13.heap.size = ZZ := ⟨_, rfl⟩
    rw [hW13, hg11] at H26
    clear H25
    obtain ⟨k99, k100, k101⟩ := (H26.out.get 0 rfl).three
    obtain ⟨k102, k103, k104⟩ := (H26.out.get 1 rfl).three
    have k105 := (H26.out.get 14 rfl).cell (i := 0) (v := .int .i64 t) rfl
    have k106 := (H26.out.get 12 rfl).cell (i := 0) (v := .int .i64 t) rfl
    have k107 := (H26.out.get 10 rfl).cell (i := 0) (v := .int .i64 t) rfl
    have k108 := (H26.out.get 8 rfl).cell (i := 0) (v := .int .i64 t) rfl
    go_wp2_with fail
    go_ret
    exact ⟨rfl, H26.out.b⟩
  · have hh : decide (1000000000 < n) = true ∨ (decide (1000000000 < n) = false ∧ decide (n < -1000000000) = true) ∨ (decide (1000000000 < n) = false ∧ decide (n < -1000000000) = false ∧ decide (1000000000 < m) = true) ∨ (decide (1000000000 < n) = false ∧ decide (n < -1000000000) = false ∧ decide (1000000000 < m) = false ∧ decide (m < -1000000000) = true) := by
      simp only [decide_eq_true_eq, decide_eq_false_iff_not]; omega
    clear hr HT
    rcases hh with h1 | ⟨h1, h2⟩ | ⟨h1, h2, h3⟩ | ⟨h1, h2, h3, h4⟩
    all_goals
      go_wp2_with fail
      go_ret
      exact ⟨rfl, H18.out.b⟩

theorem group_any (p a b n m : Int) (Q R S : CP) (w : World) (hT : TabW w) :
    Calls Tryz.prog 5 #[.int .i64 p, .int .i64 a, .int .i64 b, ptv Q, ptv R, ptv S, .int .i64 n, .int .i64 m] w fun e w' => e = .returned (.bool true) ∧ Below w.heap.size w w' := by
  by_cases h : (lookC p a b [Q, R]).1 = 0 ∧ (lookC p a b [S]).1 = 0
  · obtain ⟨h1, h2⟩ := lookC_zero h.1
    obtain ⟨_, h3⟩ := lookC_zero h.2
    have hp := h1.p1
    obtain ⟨q, rfl⟩ : ∃ q : Nat, p = q := ⟨p.toNat, by omega⟩
    exact group_ok q a b n m Q R S w hT h1 (h2 Q (by simp)) (h2 R (by simp)) (h3 S (by simp))
  · exact group_bad p a b n m Q R S w hT h
end Go.Proofs.YtlchmaiflcnaoaaGreatDoor
