/- The walk of the certificate's looker at any certificate. -/
import Derived.Test.YtlchmaiflcnaoaaDoorKCertB
import Derived.Test.YtlchmaiflcnaoaaDoorK0
namespace Go.Proofs.YtlchmaiflcnaoaaDoor
open Go.RowKit

theorem nodeF_mid {n r : Int} {ns : List Int} (h1 : 2 < n) (h2 : n ≤ 1000000000000000000) (h3 : 2 ≤ r) (h4 : r < n) : nodeF n r ns = if chkP (n - 1).toNat 1 ns = false then 6 else if powB n.toNat r.toNat ns = false then 10 else 0 := by
  unfold nodeF
  rw [if_neg (by omega), if_neg (by omega), if_neg (by omega)]
theorem look_mid {t : Tree} {k : Nat} (hk : k < 1000) {nn rr E : Nat} (hn : t.n = nn) (hr : t.r = rr) (hE : nn = E + 1) {ns : List Int} (hns : t.l.map Tree.n = ns) (h1 : 2 < nn) (h2 : nn ≤ 1000000000000000000) (h3 : 2 ≤ rr) (h4 : rr < nn) :
    (chkP E 1 ns = false → lookT t k = ((6, (k : Int)), k + 1)) ∧ (chkP E 1 ns = true → (decide (rr ^ E % nn = 1) && ns.all (pwB E nn rr)) = false → lookT t k = ((10, (k : Int)), k + 1)) ∧
    (chkP E 1 ns = true → (decide (rr ^ E % nn = 1) && ns.all (pwB E nn rr)) = true → lookT t k = looksT t.l (k + 1)) := by
  have e : nodeF t.n t.r (t.l.map Tree.n) = if chkP E 1 ns = false then 6 else if (decide (rr ^ E % nn = 1) && ns.all (pwB E nn rr)) = false then 10 else 0 := by
    rw [hn, hr, hns, nodeF_mid (by omega) (by omega) (by omega) (by omega), show ((nn : Int) - 1).toNat = E by omega]
    unfold powB
    rw [show (nn : Int).toNat - 1 = E by omega]
    rfl
  rw [lookT_eq, if_neg (by omega), e]
  refine ⟨fun h => ?_, fun h h' => ?_, fun h h' => ?_⟩
  · rw [if_pos h, if_pos (show (6 : Int) ≠ 0 by decide)]
  · rw [if_neg (show ¬ chkP E 1 ns = false by rw [h]; simp), if_pos h', if_pos (show (10 : Int) ≠ 0 by decide)]
  · rw [if_neg (show ¬ chkP E 1 ns = false by rw [h]; simp), if_neg (show ¬ (decide (rr ^ E % nn = 1) && ns.all (pwB E nn rr)) = false by rw [h']; simp), if_neg (show ¬ (0 : Int) ≠ 0 by decide)]

theorem natb (X : Nat) : ((X : Int) == 1) = decide (X = 1) ∧ decide ((X : Int) = 1) = decide (X = 1) ∧ ((X : Int) != 1) = decide (X ≠ 1) := by
  by_cases h : X = 1
  · subst h; decide
  · have h2 : ¬ (X : Int) = 1 := by omega
    refine ⟨?_, ?_, ?_⟩ <;> simp [h, h2]
theorem powX {r E n : Nat} : ((r : Int) ^ E % (n : Int)) = ((r ^ E % n : Nat) : Int) := by
  simp

set_option maxRecDepth 100000 in
set_option maxHeartbeats 6400000 in
theorem look_main (W0 : World) (B : Nat) (t : Tree) (ih : ∀ x ∈ t.l, ∀ (s : Value), CAt W0 B x s → ∀ (k : Nat), k ≤ 1000 → ∀ (w : World) (kb : Nat), B ≤ kb → Below B W0 w → KAt w kb k →
      Calls Tryd.prog 11 #[.pointer (some ⟨kb, 0, none⟩), .agg #[.int .i64 x.n, .int .i64 x.r, s]] w (RetLk w kb (lookT x k)))
    (A : Option Addr) (N cap k kb nn rr : Nat) (w : World) (hN : t.l.length = N) (hB : B ≤ kb) (hW : Below B W0 w) (hK : KAt w kb k) (hk : k < 1000) (hn : t.n = nn) (hr : t.r = rr) (h1 : 2 < nn) (h2 : nn ≤ 1000000000000000000) (h3 : 2 ≤ rr) (h4 : rr < nn) (hl : t.l.length ≤ maxLen)
    (hc : ∀ i x, t.l[i]? = some x → ∃ a s', A = some a ∧ a.block < B ∧ W0.cell? (a.add (i * 3)) = some (.int .i64 x.n) ∧ W0.cell? ⟨(a.add (i * 3)).block, (a.add (i * 3)).off + 1, none⟩ = some (.int .i64 x.r) ∧ W0.cell? ⟨(a.add (i * 3)).block, (a.add (i * 3)).off + 2, none⟩ = some s' ∧ CAt W0 B x s') :
    Calls Tryd.prog 11 #[.pointer (some ⟨kb, 0, none⟩), .agg #[.int .i64 (nn : Nat), .int .i64 (rr : Nat), .slice A N cap]] w (RetLk w kb (lookT t k)) := by
  obtain ⟨ns, hns⟩ : ∃ ns, t.l.map Tree.n = ns := ⟨_, rfl⟩
  obtain ⟨E, hE⟩ : ∃ E, nn = E + 1 := ⟨nn - 1, by omega⟩
  have HM := hide (look_mid hk hn hr hE hns h1 h2 h3 h4)
  have HNS := hide (And.intro (fun (i : Nat) (x : Tree) (hx : t.l[i]? = some x) => show ns[i]? = some x.n from by rw [← hns]; simp [hx]) (show ns.length = N by rw [← hns, List.length_map]; exact hN))
  have HC := hide (fun W (kk : Below B W0 W) (i : Nat) (x : Tree) (hx : t.l[i]? = some x) => show ∃ a A2 N2 u2, A = some a ∧ W.cell? (a.add (i * 3)) = some (.int .i64 x.n) ∧ W.cell? ⟨(a.add (i * 3)).block, (a.add (i * 3)).off + 1, none⟩ = some (.int .i64 x.r) ∧ W.cell? ⟨(a.add (i * 3)).block, (a.add (i * 3)).off + 2, none⟩ = some (.slice A2 N2 u2) ∧ CAt W0 B x (.slice A2 N2 u2) ∧ i64ok x.n from by
    obtain ⟨a, s', e, h0, h1, h2, h3, h4⟩ := hc i x hx
    obtain ⟨A2, u2, rfl, hi, _⟩ := h4.open_
    exact ⟨a, A2, _, u2, e, (kk.cell (by (try dsimp only); rw [add_block]; exact h0)).trans h1, (kk.cell (by (try dsimp only); rw [add_block]; exact h0)).trans h2, (kk.cell (by (try dsimp only); rw [add_block]; exact h0)).trans h3, h4, hi⟩)
  have HLB := hide (fun W (g : w.grownBy W (some kb)) => show Below B W0 W from hW.grown g (Nat.le_trans hB (Nat.le_of_lt hK.lt)) (fun k e => by injection e with e; omega))
  have IH := hide ih
  have HBK := hide hB
  have HN := hide hN
  have HNL : Hid (N ≤ 9223372036854775807) := hide (by have := hl; unfold maxLen at this; omega)
  have S0 := hide (LSt.start hK (nn : Nat) (rr : Nat) (.slice A N cap))
  have S1 := hide (LSt.start1 hK ((k : Int) + 1) (nn : Nat) (rr : Nat) (.slice A N cap))
  have lk := S0.out.l
  have hw1 := hide (show wrap64 ((k : Int) + 1) = (k : Int) + 1 by unfold wrap64; omega)
  have CF := fun (c : Int) W => hide (cfault_any c (k : Int) W)
  have CO := fun W => hide (ok_any (nn : Nat) W)
  rw [show okB (nn : Nat) = true by unfold okB; simp; omega] at CO
  have q1 : decide (1000 ≤ (k : Int)) = false := by rw [decide_eq_false_iff_not]; omega
  have q2 : decide ((nn : Int) < 2) = false := by rw [decide_eq_false_iff_not]; omega
  have q3 : decide ((nn : Int) = 2) = false := by rw [decide_eq_false_iff_not]; omega
  have q3' : ((nn : Int) == 2) = false := by simp; omega
  have q4 : decide ((rr : Int) < 2) = false := by rw [decide_eq_false_iff_not]; omega
  have q5 : ¬ nn ≤ rr := by omega
  have hw3 := hide (show wrap64 ((nn : Int) - 1) = (E : Int) by unfold wrap64; omega)
  have hw3' := hide (show IntKind.i64.wrap ((nn : Int) - 1) = (E : Int) by rw [IntKind.wrap_i64]; omega)
  have CR := fun (e : Nat) (he : e ≤ 1000000000000000000) W => hide (raise_any (rr : Nat) (nn : Nat) e W (by omega) (by omega) (by omega) (by omega) (by omega))
  simp only [powX] at CR
  have HE : Hid (E ≤ 1000000000000000000 ∧ 0 < E ∧ k < 1000) := hide (by omega)
  clear ih hB hW hK hk hn hr h1 h2 h3 h4 hl hc hns hE hN
  have w1 := hw1.out
  have w3 := hw3.out
  have w3' := hw3'.out
  go_enter Tryd.func11, Tryd.ntmps11
  obtain ⟨k0, k1⟩ := S0.out.k.cells
  go_upto_region 3 with (fail)
  obtain ⟨W1, hW⟩ : ∃ Z, ((w.setCell ⟨kb, 0, none⟩ (.int .i64 ((k : Int) + 1))).alloc (.cells #[.int .i64 (nn : Nat), .int .i64 (rr : Nat), .slice A N cap] 24)).alloc (.cells #[.int .i64 0, .int .i64 0] 28) = Z := ⟨_, rfl⟩
  rw [hW] at S1
  (try rw [hW])
  clear hW k0 k1 S0
  obtain ⟨c0, c1, c2⟩ := S1.out.f.cells
  go_wp2_with fail
  refine (CO _).out.mono ?_
  rintro e w4 ⟨rfl, rfl⟩
  go_wp2_with fail
  clear CO q2 q3 q3' q4 q5 c0 c1 c2 w1 w3 w3' hw1
  go_loopw [6, 7, 74] (fun lf la iv wr => ∃ (left : Nat) (last : Int) (i : Nat), lf = .int .i64 (left : Nat) ∧ la = .int .i64 last ∧ iv = .int .i64 (i : Nat) ∧ i ≤ N ∧ Hid (0 < left ∧ left ≤ 1000000000000000000 ∧ 1 ≤ last ∧ chkP left last (ns.drop i) = chkP E 1 ns) ∧ Hid (LSt w wr kb ((k : Int) + 1) (nn : Nat) (rr : Nat) (.slice A N cap))) (fun _ _ iv _ => N - (intOf iv).toNat)
  case atStart => exact ⟨E, 1, 0, rfl, rfl, rfl, by omega, hide ⟨HE.out.2.1, HE.out.1, by omega, rfl⟩, S1⟩
  case round =>
    clear S1
    obtain ⟨left, last, i, rfl, rfl, rfl, hi, HI, HS⟩ := hrel
    obtain ⟨wo, rfl⟩ : ∃ Z : World, Z = wr := ⟨_, rfl⟩
    obtain ⟨c0, c1, c2⟩ := HS.out.f.cells
    by_cases hin : i < N
    · as_aux_lemma =>
      obtain ⟨x, hx⟩ : ∃ x, t.l[i]? = some x := ⟨_, List.getElem?_eq_getElem (by rw [HN.out]; exact hin)⟩
      obtain ⟨a, A2, N2, u2, rfl, d0, d1, d2, d3, hq1, hq2⟩ := HC.out wo (HLB.out wo HS.out.g) i x hx
      have hnx := hide (HNS.out.1 i x hx)
      obtain ⟨q, hq⟩ : ∃ q, x.n = q := ⟨_, rfl⟩
      obtain ⟨xr, hxr⟩ : ∃ q, x.r = q := ⟨_, rfl⟩
      rw [hq] at d0 hnx hq1 hq2
      rw [hxr] at d1
      have b1 : (0 : Int) ≤ (i : Int) := by omega
      have b2 : (i : Int) < (N : Int) := by omega
      have hw2 := hide (show wrap64 ((i : Int) + 1) = (i : Int) + 1 by have := HNL.out; unfold wrap64; omega)
      have S2 := hide (HS.out.below (bel_o wo (.cells #[.int .i64 q, .int .i64 xr, .slice A2 N2 u2] 24)))
      have P2 := hide (CB.made wo q xr (.slice A2 N2 u2))
      clear hx d3 hq hxr
      go_upto_region 17 with (fail)
      obtain ⟨W2, hW2⟩ : ∃ Z, wo.alloc (.cells #[.int .i64 q, .int .i64 xr, .slice A2 N2 u2] 24) = Z := ⟨_, rfl⟩
      rw [hW2] at S2 P2
      (try rw [hW2])
      obtain ⟨g, hg⟩ : ∃ g, wo.heap.size = g := ⟨_, rfl⟩
      rw [hg] at P2
      (try rw [hg])
      clear hW2 hg d0 d1 d2 c0 c1 c2 HS
      obtain ⟨p0, p1, p2⟩ := P2.out.cells
      by_cases hc1 : q ≤ last
      · as_aux_lemma =>
        have r1 : decide (q ≤ last) = true := by rw [decide_eq_true_eq]; exact hc1
        have HR : Hid (lookT t k = ((6, (k : Int)), k + 1)) := hide (HM.out.1 (by rw [← HI.out.2.2.2]; exact chkP_bad hnx.out (.inl hc1)))
        clear hc1
        go_wp2_with fail
        refine (CF 6 _).out.mono ?_
        rintro e w7 ⟨rfl, hb⟩
        have S7 := hide (S2.out.below hb)
        clear hb
        obtain ⟨e0, e1, e2, e3⟩ := S7.out.e.cells
        go_wp2_with fail
        obtain ⟨F1, F2, F3⟩ := S7.out.fin 6 (k : Int)
        obtain ⟨G0, G1, _, _⟩ := F1.cells
        exact bodyPost_ret (v := .agg #[.int .i64 6, .int .i64 (k : Int)]) (by simp [results, Tryd.results11, go_sem, G0, G1]) rfl (by rw [HR.out]; exact ⟨rfl, F2, by simpa using F3⟩)
      · have hl1 := HI.out.2.2.1
        obtain ⟨qq, rfl⟩ : ∃ qq : Nat, q = (qq : Int) := ⟨q.toNat, by omega⟩
        have r1 : decide ((qq : Int) ≤ last) = false := by rw [decide_eq_false_iff_not]; exact hc1
        have z0 : ¬ (qq : Int) = 0 := by omega
        have z1 : ¬ qq = 0 := by omega
        have hq2' : 2 ≤ qq := by omega
        have HQ := hide hq2'
        have e1 : (left : Int).tmod (qq : Int) = ((left % qq : Nat) : Int) := by rw [Int.tmod_eq_emod_of_nonneg (by omega)]; simp
        have e2 : (left : Int) % (qq : Int) = ((left % qq : Nat) : Int) := by simp
        obtain ⟨m, hm⟩ : ∃ m, left % qq = m := ⟨_, rfl⟩
        rw [hm] at e1 e2
        clear hl1
        by_cases hc2 : m = 0
        · as_aux_lemma =>
          have r2 : ((m : Int) != 0) = false := by simp; exact hc2
          have hgo : ¬ ((qq : Int) ≤ last ∨ (left : Int) % (qq : Int) ≠ 0) := by rw [e2]; omega
          have HI2 := hide (And.intro HI.out ((chkP_go hnx.out hgo).symm.trans HI.out.2.2.2))
          clear hc2 hgo HI
          go_wp2_with fail
          clear e1 e2 r1 r2 hm hc1
          go_loopw [6] (fun lf wr => ∃ left2 : Nat, lf = .int .i64 (left2 : Nat) ∧ Hid (0 < left2 ∧ left2 ≤ left ∧ strip qq left2 = strip qq left) ∧ wr = W2) (fun lf _ => (intOf lf).toNat)
          case atStart => exact ⟨left, rfl, hide ⟨HI2.out.1.1, Nat.le_refl _, rfl⟩, rfl⟩
          case round =>
            obtain ⟨left2, rfl, HL, rfl⟩ := hrel
            have e1 : (left2 : Int).tmod (qq : Int) = ((left2 % qq : Nat) : Int) := by rw [Int.tmod_eq_emod_of_nonneg (by omega)]; simp
            have e2 : (left2 : Int) % (qq : Int) = ((left2 % qq : Nat) : Int) := by simp
            obtain ⟨m2, hm2⟩ : ∃ m, left2 % qq = m := ⟨_, rfl⟩
            rw [hm2] at e1 e2
            by_cases hc3 : m2 = 0
            · as_aux_lemma =>
              have e3 : (left2 : Int).tdiv (qq : Int) = ((left2 / qq : Nat) : Int) := by rw [Int.tdiv_eq_ediv_of_nonneg (by omega)]; simp
              have e4 : (left2 : Int) / (qq : Int) = ((left2 / qq : Nat) : Int) := by simp
              have hd : left2 / qq < left2 := Nat.div_lt_self HL.out.1 (by omega)
              have hd0 : 0 < left2 / qq := Nat.div_pos (Nat.le_of_dvd HL.out.1 (Nat.dvd_of_mod_eq_zero (by omega))) (by omega)
              have HST : Hid (strip qq (left2 / qq) = strip qq left) := hide (by rw [← HL.out.2.2, strip_step HQ.out HL.out.1 (by omega)])
              obtain ⟨d, hdd⟩ : ∃ d, left2 / qq = d := ⟨_, rfl⟩
              rw [hdd] at e3 e4 hd hd0 HST
              have hw5 := hide (show wrap64 (d : Int) = (d : Int) by have := HL.out.2.1; have := HI2.out.1.2.1; unfold wrap64; omega)
              have r3 : decide ((m2 : Int) = 0) = true := by simp; exact hc3
              have r3' : ((m2 : Int) == 0) = true := by simp; exact hc3
              have HL3 := hide (And.intro hd0 (And.intro (Nat.le_trans (Nat.le_of_lt hd) HL.out.2.1) HST.out))
              clear hdd hm2 hc3 hd0 HL HST
              have w5 := hw5.out
              go_wp2_with fail
              (try simp only [w5])
              clear w5
              exact ⟨⟨d, rfl, HL3, by first | rfl | trivial⟩, by simp [intOf]; omega⟩
            · as_aux_lemma =>
              have r3 : decide ((m2 : Int) = 0) = false := by simp; exact hc3
              have r3' : ((m2 : Int) == 0) = false := by simp; exact hc3
              have HST : Hid (left2 = strip qq left) := hide (by rw [← HL.out.2.2, strip_end (by omega)])
              have HI3 : Hid (0 < left2 ∧ left2 ≤ 1000000000000000000 ∧ 1 ≤ (qq : Int) ∧ chkP left2 (qq : Int) (ns.drop (i + 1)) = chkP E 1 ns) := hide ⟨HL.out.1, Nat.le_trans HL.out.2.1 HI2.out.1.2.1, by omega, by rw [HST.out]; exact HI2.out.2⟩
              clear hm2 hc3
              have w2 := hw2.out
              go_wp2_with fail
              (try simp only [w2])
              clear w2
              exact ⟨⟨left2, (qq : Int), i + 1, rfl, rfl, rfl, by omega, HI3, S2⟩, by simp [intOf]; omega⟩
        · as_aux_lemma =>
          have r2 : ((m : Int) != 0) = true := by simp; exact hc2
          have HR : Hid (lookT t k = ((6, (k : Int)), k + 1)) := hide (HM.out.1 (by rw [← HI.out.2.2.2]; exact chkP_bad hnx.out (.inr (by rw [e2]; omega))))
          clear hc2 hm
          go_wp2_with fail
          refine (CF 6 _).out.mono ?_
          rintro e w7 ⟨rfl, hb⟩
          have S7 := hide (S2.out.below hb)
          clear hb
          obtain ⟨e0, e1, e2, e3⟩ := S7.out.e.cells
          go_wp2_with fail
          obtain ⟨F1, F2, F3⟩ := S7.out.fin 6 (k : Int)
          obtain ⟨G0, G1, _, _⟩ := F1.cells
          exact bodyPost_ret (v := .agg #[.int .i64 6, .int .i64 (k : Int)]) (by simp [results, Tryd.results11, go_sem, G0, G1]) rfl (by rw [HR.out]; exact ⟨rfl, F2, by simpa using F3⟩)
    · as_aux_lemma =>
      have hiN : N = i := by omega
      subst hiN
      have hend := HI.out.2.2.2
      rw [← HNS.out.2, chkP_end] at hend
      by_cases hl1 : left = 1
      · as_aux_lemma =>
        have HCK : Hid (chkP E 1 ns = true) := hide (by rw [← hend]; simp; exact hl1)
        subst hl1
        have CR0 := CR E HE.out.1
        have HQS := hide ((chkP_spec ns E 1 HE.out.2.1 (by omega) HCK.out).1)
        have r1 : ((1 : Int) != 1) = false := rfl
        clear hend HI
        have w3 := hw3.out
        have w3' := hw3'.out
        go_wp2_with fail
        refine (CR0 _).out.mono ?_
        rintro e w5 ⟨rfl, j5, rfl⟩
        have S5 := hide (HS.out.below (below_drewN (Below.refl _ _) j5))
        obtain ⟨b0, hb0⟩ : ∃ b, decide (rr ^ E % nn = 1) = b := ⟨_, rfl⟩
        have HM2 := hide HM.out.2
        rw [hb0] at HM2
        obtain ⟨X, hX⟩ : ∃ X, rr ^ E % nn = X := ⟨_, rfl⟩
        rw [hX] at hb0
        have r2 : ((X : Int) == 1) = b0 := by rw [← hb0]; exact (natb X).1
        have r2' : decide ((X : Int) = 1) = b0 := by rw [← hb0]; exact (natb X).2.1
        rw [hX]
        obtain ⟨W5, hW5⟩ : ∃ Z, wo.drewN j5 = Z := ⟨_, rfl⟩
        rw [hW5] at S5
        rw [hW5]
        clear hW5 HS hb0 hX c0 c1 c2 CR0 HM w3 w3'
        obtain ⟨c0, c1, c2⟩ := S5.out.f.cells
        go_wp2_with fail
        clear r2 r2' c0 c1 c2
        go_loopw [10, 119] (fun ob iv wr => ∃ i : Nat, iv = .int .i64 (i : Nat) ∧ i ≤ N ∧ (∃ ok, ob = .bool ok ∧ Hid (ok = (b0 && (ns.take i).all (pwB E nn rr)))) ∧ Hid (LSt w wr kb ((k : Int) + 1) (nn : Nat) (rr : Nat) (.slice A N cap))) (fun _ iv _ => N - (intOf iv).toNat)
        case atStart => exact ⟨0, rfl, by omega, ⟨b0, rfl, hide (by simp)⟩, S5⟩
        case round =>
          clear S5
          obtain ⟨i, rfl, hi, ⟨ok, rfl, HOK⟩, HS⟩ := hrel
          obtain ⟨wo, rfl⟩ : ∃ Z : World, Z = wr := ⟨_, rfl⟩
          obtain ⟨c0, c1, c2⟩ := HS.out.f.cells
          by_cases hin : i < N
          · as_aux_lemma =>
            obtain ⟨x, hx⟩ : ∃ x, t.l[i]? = some x := ⟨_, List.getElem?_eq_getElem (by rw [HN.out]; exact hin)⟩
            obtain ⟨a, A2, N2, u2, rfl, d0, d1, d2, d3, hq1, hq2⟩ := HC.out wo (HLB.out wo HS.out.g) i x hx
            have hnx := hide (HNS.out.1 i x hx)
            obtain ⟨q, hq⟩ : ∃ q, x.n = q := ⟨_, rfl⟩
            obtain ⟨xr, hxr⟩ : ∃ q, x.r = q := ⟨_, rfl⟩
            rw [hq] at d0 hnx hq1 hq2
            rw [hxr] at d1
            have hqm := (HQS.out q (List.mem_of_getElem? hnx.out)).1
            obtain ⟨qq, rfl⟩ : ∃ qq : Nat, q = (qq : Int) := ⟨q.toNat, by omega⟩
            have b1 : (0 : Int) ≤ (i : Int) := by omega
            have b2 : (i : Int) < (N : Int) := by omega
            have hw2 := hide (show wrap64 ((i : Int) + 1) = (i : Int) + 1 by have := HNL.out; unfold wrap64; omega)
            have z0 : ¬ (qq : Int) = 0 := by omega
            have z1 : ¬ qq = 0 := by omega
            have e3 : (E : Int).tdiv (qq : Int) = ((E / qq : Nat) : Int) := by rw [Int.tdiv_eq_ediv_of_nonneg (by omega)]; simp
            have e4 : (E : Int) / (qq : Int) = ((E / qq : Nat) : Int) := by simp
            have hdE : E / qq ≤ E := Nat.div_le_self _ _
            have HAT := hide (all_take (f := pwB E nn rr) hnx.out)
            obtain ⟨d, hd⟩ : ∃ d, E / qq = d := ⟨_, rfl⟩
            have CP := CR d (by have := HE.out.1; omega)
            have hw5 := hide (show wrap64 (d : Int) = (d : Int) ∧ IntKind.i64.wrap (d : Int) = (d : Int) by have := HE.out.1; rw [IntKind.wrap_i64]; unfold wrap64; omega)
            obtain ⟨pb, hpb⟩ : ∃ pb, pwB E nn rr (qq : Int) = pb := ⟨_, rfl⟩
            have hpb2 := hpb
            unfold pwB at hpb2
            rw [Int.toNat_natCast, hd] at hpb2
            obtain ⟨X, hX⟩ : ∃ X, rr ^ d % nn = X := ⟨_, rfl⟩
            rw [hX] at hpb2 CP
            have r5 : ((X : Int) != 1) = pb := by rw [← hpb2]; exact (natb X).2.2
            rw [hpb] at HAT
            rw [hd] at e3 e4
            have S2 := hide (HS.out.below (bel_o wo (.cells #[.int .i64 (qq : Nat), .int .i64 xr, .slice A2 N2 u2] 24)))
            have P2 := hide (CB.made wo (qq : Nat) xr (.slice A2 N2 u2))
            clear hx d3 hq hxr hqm hq1 hq2 hdE hd hpb hpb2 hX hnx
            go_upto_region 29 with (fail)
            obtain ⟨W4, hW2⟩ : ∃ Z, wo.alloc (.cells #[.int .i64 (qq : Nat), .int .i64 xr, .slice A2 N2 u2] 24) = Z := ⟨_, rfl⟩
            rw [hW2] at S2 P2
            (try rw [hW2])
            obtain ⟨g, hg⟩ : ∃ g, wo.heap.size = g := ⟨_, rfl⟩
            rw [hg] at P2
            (try rw [hg])
            clear hW2 hg d0 d1 d2 c0 c1 c2 HS
            have KS := fun W (k : Below W4.heap.size W4 W) => hide (show ((W.cell? ⟨w.heap.size, 0, none⟩ = some (.int .i64 (nn : Nat)) ∧ W.cell? ⟨w.heap.size, 1, none⟩ = some (.int .i64 (rr : Nat))) ∧ (W.cell? ⟨g, 0, none⟩ = some (.int .i64 (qq : Nat)))) ∧ Hid (Below W4.heap.size W4 W) from ⟨⟨⟨(S2.out.f.below k).cells.1, (S2.out.f.below k).cells.2.1⟩, (P2.out.below k).cells.1⟩, hide k⟩)
            cases ok
            · as_aux_lemma =>
              have HOK2 : Hid (false = (b0 && (ns.take (i + 1)).all (pwB E nn rr))) := hide (by rw [HAT.out, ← Bool.and_assoc, ← HOK.out]; rfl)
              clear e3 e4 r5 CP HOK HAT
              refine wp_region_P (fun W => ((W.cell? ⟨w.heap.size, 0, none⟩ = some (.int .i64 (nn : Nat)) ∧ W.cell? ⟨w.heap.size, 1, none⟩ = some (.int .i64 (rr : Nat))) ∧ (W.cell? ⟨g, 0, none⟩ = some (.int .i64 (qq : Nat)))) ∧ Hid (Below W4.heap.size W4 W)) 15 (by rfl) ((KS _ (below_drewN (Below.refl _ _) 1)).out) ?_
              intro hS
              refine wpAnyP_take 0 123 [0, 15] (v := ?_) rfl (by kernel_rfl) (by kernel_rfl) (by kernel_rfl) (by kernel_rfl) (by kernel_rfl) (by kernel_rfl) (by rfl) (fun _ _ _ h => h) (Or.inl ⟨by rfl, ?_⟩) hS ?_; rotate_left
              · (intro w hSw; (try dsimp only at hSw); go_simp; (try with_reducible rfl))
              (try simp only [List.setIfInBounds_toArray, List.set_cons_zero, List.set_cons_succ])
              refine wpAnyP_take 1 124 [1, 15] (v := ?_) rfl (by kernel_rfl) (by kernel_rfl) (by kernel_rfl) (by kernel_rfl) (by kernel_rfl) (by kernel_rfl) (by rfl) (fun _ _ _ h => h) (Or.inl ⟨by rfl, ?_⟩) hS ?_; rotate_left
              · (intro w hSw; (try dsimp only at hSw); go_simp; (try with_reducible rfl))
              (try simp only [List.setIfInBounds_toArray, List.set_cons_zero, List.set_cons_succ])
              refine wpAnyP_take 2 125 [2, 15] (v := undef) rfl (by kernel_rfl) (by kernel_rfl) (by kernel_rfl) (by kernel_rfl) (by kernel_rfl) (by kernel_rfl) (by rfl) (fun _ _ _ h => h) (Or.inr ⟨by rfl, rfl⟩) hS ?_
              (try simp only [List.setIfInBounds_toArray, List.set_cons_zero, List.set_cons_succ])
              refine wpAnyP_take 3 126 [3, 15] (v := undef) rfl (by kernel_rfl) (by kernel_rfl) (by kernel_rfl) (by kernel_rfl) (by kernel_rfl) (by kernel_rfl) (by rfl) (fun _ _ _ h => h) (Or.inr ⟨by rfl, rfl⟩) hS ?_
              (try simp only [List.setIfInBounds_toArray, List.set_cons_zero, List.set_cons_succ])
              refine wpAnyP_take 4 127 [4, 15] (v := undef) rfl (by kernel_rfl) (by kernel_rfl) (by kernel_rfl) (by kernel_rfl) (by kernel_rfl) (by kernel_rfl) (by rfl) (fun _ _ _ h => h) (Or.inr ⟨by rfl, rfl⟩) hS ?_
              (try simp only [List.setIfInBounds_toArray, List.set_cons_zero, List.set_cons_succ])
              refine wpAnyP_take 5 128 [5, 15] (v := undef) rfl (by kernel_rfl) (by kernel_rfl) (by kernel_rfl) (by kernel_rfl) (by kernel_rfl) (by kernel_rfl) (by rfl) (fun _ _ _ h => h) (Or.inr ⟨by rfl, rfl⟩) hS ?_
              (try simp only [List.setIfInBounds_toArray, List.set_cons_zero, List.set_cons_succ])
              refine wpAnyP_take 6 129 [6, 15] (v := undef) rfl (by kernel_rfl) (by kernel_rfl) (by kernel_rfl) (by kernel_rfl) (by kernel_rfl) (by kernel_rfl) (by rfl) (fun _ _ _ h => h) (Or.inr ⟨by rfl, rfl⟩) hS ?_
              (try simp only [List.setIfInBounds_toArray, List.set_cons_zero, List.set_cons_succ])
              refine wpAnyP_take 7 130 [7, 15] (v := undef) rfl (by kernel_rfl) (by kernel_rfl) (by kernel_rfl) (by kernel_rfl) (by kernel_rfl) (by kernel_rfl) (by rfl) (fun _ _ _ h => h) (Or.inr ⟨by rfl, rfl⟩) hS ?_
              (try simp only [List.setIfInBounds_toArray, List.set_cons_zero, List.set_cons_succ])
              refine wpAnyP_take 8 131 [8, 15] (v := undef) rfl (by kernel_rfl) (by kernel_rfl) (by kernel_rfl) (by kernel_rfl) (by kernel_rfl) (by kernel_rfl) (by rfl) (fun _ _ _ h => h) (Or.inr ⟨by rfl, rfl⟩) hS ?_
              (try simp only [List.setIfInBounds_toArray, List.set_cons_zero, List.set_cons_succ])
              refine wpAnyP_take 9 132 [9, 15] (v := undef) rfl (by kernel_rfl) (by kernel_rfl) (by kernel_rfl) (by kernel_rfl) (by kernel_rfl) (by kernel_rfl) (by rfl) (fun _ _ _ h => h) (Or.inr ⟨by rfl, rfl⟩) hS ?_
              (try simp only [List.setIfInBounds_toArray, List.set_cons_zero, List.set_cons_succ])
              refine wpAnyP_take 10 133 [10, 15] (v := undef) rfl (by kernel_rfl) (by kernel_rfl) (by kernel_rfl) (by kernel_rfl) (by kernel_rfl) (by kernel_rfl) (by rfl) (fun _ _ _ h => h) (Or.inr ⟨by rfl, rfl⟩) hS ?_
              (try simp only [List.setIfInBounds_toArray, List.set_cons_zero, List.set_cons_succ])
              refine wpAnyP_take 11 134 [11, 15] (v := undef) rfl (by kernel_rfl) (by kernel_rfl) (by kernel_rfl) (by kernel_rfl) (by kernel_rfl) (by kernel_rfl) (by rfl) (fun _ _ _ h => h) (Or.inr ⟨by rfl, rfl⟩) hS ?_
              (try simp only [List.setIfInBounds_toArray, List.set_cons_zero, List.set_cons_succ])
              refine wpAnyP_take 12 135 [12, 15] (v := undef) rfl (by kernel_rfl) (by kernel_rfl) (by kernel_rfl) (by kernel_rfl) (by kernel_rfl) (by kernel_rfl) (by rfl) (fun _ _ _ h => h) (Or.inr ⟨by rfl, rfl⟩) hS ?_
              (try simp only [List.setIfInBounds_toArray, List.set_cons_zero, List.set_cons_succ])
              refine wpAnyP_take 13 136 [13, 15] (v := undef) rfl (by kernel_rfl) (by kernel_rfl) (by kernel_rfl) (by kernel_rfl) (by kernel_rfl) (by kernel_rfl) (by rfl) (fun _ _ _ h => h) (Or.inr ⟨by rfl, rfl⟩) hS ?_
              (try simp only [List.setIfInBounds_toArray, List.set_cons_zero, List.set_cons_succ])
              refine wpAnyP_take 14 137 [14, 15] (v := ?_) rfl (by kernel_rfl) (by kernel_rfl) (by kernel_rfl) (by kernel_rfl) (by kernel_rfl) (by kernel_rfl) (by rfl) (fun _ _ _ h => h) (Or.inl ⟨by rfl, ?_⟩) hS ?_; rotate_left
              · (intro w hSw; (try dsimp only at hSw); go_simp; (try with_reducible rfl))
              (try simp only [List.setIfInBounds_toArray, List.set_cons_zero, List.set_cons_succ])
              refine wpAnyP_one 15 rfl (by kernel_rfl) (fun K hK => ?_)
              go_simp
              refine hK.out _ _ (fun _ => hS) ?_
              clear hK K
              (try simp only [Act.put, List.setIfInBounds_toArray, List.set_cons_zero, List.set_cons_succ])
              refine wpAnyP_done (by kernel_rfl) ?_ _
              have S6 := hide (S2.out.below hS.2.out)
              clear hS
              have w2 := hw2.out
              go_wp2_with fail
              (try simp only [w2])
              clear w2
              exact ⟨⟨i + 1, rfl, by omega, ⟨false, rfl, HOK2⟩, S6⟩, by simp [intOf]; omega⟩
            · as_aux_lemma =>
              have HOK2 : Hid (pb = (b0 && (ns.take (i + 1)).all (pwB E nn rr))) := hide (by rw [HAT.out, ← Bool.and_assoc, ← HOK.out]; rfl)
              clear HOK HAT
              have w3 := hw3.out
              have w3' := hw3'.out
              have w5 := hw5.out.1
              have w5' := hw5.out.2
              refine wp_region_P (fun W => ((W.cell? ⟨w.heap.size, 0, none⟩ = some (.int .i64 (nn : Nat)) ∧ W.cell? ⟨w.heap.size, 1, none⟩ = some (.int .i64 (rr : Nat))) ∧ (W.cell? ⟨g, 0, none⟩ = some (.int .i64 (qq : Nat)))) ∧ Hid (Below W4.heap.size W4 W)) 15 (by rfl) ((KS _ (below_drewN (Below.refl _ _) 1)).out) ?_
              intro hS
              refine wpAnyP_take 0 123 [0, 15] (v := ?_) rfl (by kernel_rfl) (by kernel_rfl) (by kernel_rfl) (by kernel_rfl) (by kernel_rfl) (by kernel_rfl) (by rfl) (fun _ _ _ h => h) (Or.inl ⟨by rfl, ?_⟩) hS ?_; rotate_left
              · (intro w hSw; (try dsimp only at hSw); go_simp; (try with_reducible rfl))
              (try simp only [List.setIfInBounds_toArray, List.set_cons_zero, List.set_cons_succ])
              refine wpAnyP_take 1 124 [1, 15] (v := ?_) rfl (by kernel_rfl) (by kernel_rfl) (by kernel_rfl) (by kernel_rfl) (by kernel_rfl) (by kernel_rfl) (by rfl) (fun _ _ _ h => h) (Or.inl ⟨by rfl, ?_⟩) hS ?_; rotate_left
              · (intro w hSw; (try dsimp only at hSw); go_simp; (try with_reducible rfl))
              (try simp only [List.setIfInBounds_toArray, List.set_cons_zero, List.set_cons_succ])
              refine wpAnyP_take 2 125 [2, 15] (v := ?_) rfl (by kernel_rfl) (by kernel_rfl) (by kernel_rfl) (by kernel_rfl) (by kernel_rfl) (by kernel_rfl) (by rfl) (fun _ _ _ h => h) (Or.inl ⟨by rfl, ?_⟩) hS ?_; rotate_left
              · (intro w hSw; (try dsimp only at hSw); go_simp; (try with_reducible rfl))
              (try simp only [List.setIfInBounds_toArray, List.set_cons_zero, List.set_cons_succ])
              refine wpAnyP_take 3 126 [3, 15] (v := ?_) rfl (by kernel_rfl) (by kernel_rfl) (by kernel_rfl) (by kernel_rfl) (by kernel_rfl) (by kernel_rfl) (by rfl) (fun _ _ _ h => h) (Or.inl ⟨by rfl, ?_⟩) hS ?_; rotate_left
              · (intro w hSw; (try dsimp only at hSw); go_simp; (try with_reducible rfl))
              (try simp only [List.setIfInBounds_toArray, List.set_cons_zero, List.set_cons_succ])
              refine wpAnyP_take 4 127 [4, 15] (v := ?_) rfl (by kernel_rfl) (by kernel_rfl) (by kernel_rfl) (by kernel_rfl) (by kernel_rfl) (by kernel_rfl) (by rfl) (fun _ _ _ h => h) (Or.inl ⟨by rfl, ?_⟩) hS ?_; rotate_left
              · (intro w hSw; (try dsimp only at hSw); go_simp; (try with_reducible rfl))
              (try simp only [List.setIfInBounds_toArray, List.set_cons_zero, List.set_cons_succ])
              refine wpAnyP_take 5 128 [5, 15] (v := ?_) rfl (by kernel_rfl) (by kernel_rfl) (by kernel_rfl) (by kernel_rfl) (by kernel_rfl) (by kernel_rfl) (by rfl) (fun _ _ _ h => h) (Or.inl ⟨by rfl, ?_⟩) hS ?_; rotate_left
              · (intro w hSw; (try dsimp only at hSw); go_simp; (try with_reducible rfl))
              (try simp only [List.setIfInBounds_toArray, List.set_cons_zero, List.set_cons_succ])
              refine wpAnyP_take 6 129 [6, 15] (v := ?_) rfl (by kernel_rfl) (by kernel_rfl) (by kernel_rfl) (by kernel_rfl) (by kernel_rfl) (by kernel_rfl) (by rfl) (fun _ _ _ h => h) (Or.inl ⟨by rfl, ?_⟩) hS ?_; rotate_left
              · (intro w hSw; (try dsimp only at hSw); go_simp; (try with_reducible rfl))
              (try simp only [List.setIfInBounds_toArray, List.set_cons_zero, List.set_cons_succ])
              refine wpAnyP_take 7 130 [7, 15] (v := ?_) rfl (by kernel_rfl) (by kernel_rfl) (by kernel_rfl) (by kernel_rfl) (by kernel_rfl) (by kernel_rfl) (by rfl) (fun _ _ _ h => h) (Or.inl ⟨by rfl, ?_⟩) hS ?_; rotate_left
              · (intro w hSw; (try dsimp only at hSw); go_simp; (try with_reducible rfl))
              (try simp only [List.setIfInBounds_toArray, List.set_cons_zero, List.set_cons_succ])
              refine wpAnyP_take 8 131 [8, 15] (v := ?_) rfl (by kernel_rfl) (by kernel_rfl) (by kernel_rfl) (by kernel_rfl) (by kernel_rfl) (by kernel_rfl) (by rfl) (fun _ _ _ h => h) (Or.inl ⟨by rfl, ?_⟩) hS ?_; rotate_left
              · (intro w hSw; (try dsimp only at hSw); go_simp; (try with_reducible rfl))
              (try simp only [List.setIfInBounds_toArray, List.set_cons_zero, List.set_cons_succ])
              refine wpAnyP_take 9 132 [9, 15] (v := ?_) rfl (by kernel_rfl) (by kernel_rfl) (by kernel_rfl) (by kernel_rfl) (by kernel_rfl) (by kernel_rfl) (by rfl) (fun _ _ _ h => h) (Or.inl ⟨by rfl, ?_⟩) hS ?_; rotate_left
              · (intro w hSw; (try dsimp only at hSw); go_simp; (try with_reducible rfl))
              (try simp only [List.setIfInBounds_toArray, List.set_cons_zero, List.set_cons_succ])
              refine wpAnyP_take 10 133 [10, 15] (v := ?_) rfl (by kernel_rfl) (by kernel_rfl) (by kernel_rfl) (by kernel_rfl) (by kernel_rfl) (by kernel_rfl) (by rfl) (fun _ _ _ h => h) (Or.inl ⟨by rfl, ?_⟩) hS ?_; rotate_left
              · (intro w hSw; (try dsimp only at hSw); go_simp; (try with_reducible rfl))
              (try simp only [List.setIfInBounds_toArray, List.set_cons_zero, List.set_cons_succ])
              refine wpAnyP_take 11 134 [11, 15] (v := ?_) rfl (by kernel_rfl) (by kernel_rfl) (by kernel_rfl) (by kernel_rfl) (by kernel_rfl) (by kernel_rfl) (by rfl) (fun _ _ _ h => h) (Or.inl ⟨by rfl, ?_⟩) hS ?_; rotate_left
              · (intro w hSw; (try dsimp only at hSw); go_simp; (try with_reducible rfl))
              (try simp only [List.setIfInBounds_toArray, List.set_cons_zero, List.set_cons_succ])
              refine wpAnyP_one 12 rfl (by kernel_rfl) (fun K hK => ?_)
              go_simp
              refine (CP _).out.mono ?_
              rintro e w6 ⟨rfl, m6, rfl⟩
              have hb6 := below_drewN hS.2.out m6
              obtain ⟨W6, hW6⟩ : ∃ Z, W4.drew.drewN m6 = Z := ⟨_, rfl⟩
              rw [hW6] at hb6
              rw [hW6]
              clear hW6 hS
              have hS := (KS W6 hb6).out
              clear hb6
              refine hK.out _ _ (fun _ => hS) ?_
              clear hK K
              (try simp only [Act.put, List.setIfInBounds_toArray, List.set_cons_zero, List.set_cons_succ])
              refine wpAnyP_take 13 136 [13, 15] (v := ?_) rfl (by kernel_rfl) (by kernel_rfl) (by kernel_rfl) (by kernel_rfl) (by kernel_rfl) (by kernel_rfl) (by rfl) (fun _ _ _ h => h) (Or.inl ⟨by rfl, ?_⟩) hS ?_; rotate_left
              · (intro w hSw; (try dsimp only at hSw); go_simp; (try with_reducible rfl))
              (try simp only [List.setIfInBounds_toArray, List.set_cons_zero, List.set_cons_succ])
              refine wpAnyP_take 14 137 [14, 15] (v := ?_) rfl (by kernel_rfl) (by kernel_rfl) (by kernel_rfl) (by kernel_rfl) (by kernel_rfl) (by kernel_rfl) (by rfl) (fun _ _ _ h => h) (Or.inl ⟨by rfl, ?_⟩) hS ?_; rotate_left
              · (intro w hSw; (try dsimp only at hSw); go_simp; (try with_reducible rfl))
              (try simp only [List.setIfInBounds_toArray, List.set_cons_zero, List.set_cons_succ])
              refine wpAnyP_one 15 rfl (by kernel_rfl) (fun K hK => ?_)
              go_simp
              refine hK.out _ _ (fun _ => hS) ?_
              clear hK K
              (try simp only [Act.put, List.setIfInBounds_toArray, List.set_cons_zero, List.set_cons_succ])
              refine wpAnyP_done (by kernel_rfl) ?_ _
              have S6 := hide (S2.out.below hS.2.out)
              clear hS w3 w3' w5 w5'
              have w2 := hw2.out
              go_wp2_with fail
              (try simp only [w2])
              clear w2
              exact ⟨⟨i + 1, rfl, by omega, ⟨pb, rfl, HOK2⟩, S6⟩, by simp [intOf]; omega⟩
          · as_aux_lemma =>
            have hiN : N = i := by omega
            subst hiN
            have hok := HOK.out
            rw [← HNS.out.2, List.take_length] at hok
            cases ok
            · as_aux_lemma =>
              have HR : Hid (lookT t k = ((10, (k : Int)), k + 1)) := hide (HM2.out.1 HCK.out hok.symm)
              have S2 := HS
              clear hok HOK
              go_wp2_with fail
              refine (CF 10 _).out.mono ?_
              rintro e w7 ⟨rfl, hb⟩
              have S7 := hide (S2.out.below hb)
              clear hb
              obtain ⟨e0, e1, e2, e3⟩ := S7.out.e.cells
              go_wp2_with fail
              obtain ⟨F1, F2, F3⟩ := S7.out.fin 10 (k : Int)
              obtain ⟨G0, G1, _, _⟩ := F1.cells
              exact bodyPost_ret (v := .agg #[.int .i64 10, .int .i64 (k : Int)]) (by simp [results, Tryd.results11, go_sem, G0, G1]) rfl (by rw [HR.out]; exact ⟨rfl, F2, by simpa using F3⟩)
            · as_aux_lemma =>
              have HR : Hid (lookT t k = looksT t.l (k + 1)) := hide (HM2.out.2 HCK.out hok.symm)
              clear hok HOK HM2 HQS CR HNS CF HCK
              go_wp2_with fail
              clear c0 c1 c2
              go_loopw [146] (fun iv wr => ∃ i k2 : Nat, iv = .int .i64 (i : Nat) ∧ i ≤ N ∧ k2 ≤ 1000 ∧ Hid (looksT (t.l.drop i) k2 = looksT t.l (k + 1)) ∧ Hid (LSt w wr kb (k2 : Nat) (nn : Nat) (rr : Nat) (.slice A N cap))) (fun iv _ => N - (intOf iv).toNat)
              case atStart => exact ⟨0, k + 1, rfl, by omega, by have := HE.out.2.2; omega, hide (by simp), by simpa using HS⟩
              case round =>
                clear HS
                obtain ⟨i, k2, rfl, hi, hk2, HLS, HS⟩ := hrel
                obtain ⟨wo, rfl⟩ : ∃ Z : World, Z = wr := ⟨_, rfl⟩
                obtain ⟨c0, c1, c2⟩ := HS.out.f.cells
                by_cases hin : i < N
                · as_aux_lemma =>
                  obtain ⟨x, hx⟩ : ∃ x, t.l[i]? = some x := ⟨_, List.getElem?_eq_getElem (by rw [HN.out]; exact hin)⟩
                  obtain ⟨a, A2, N2, u2, rfl, d0, d1, d2, d3, hq1, hq2⟩ := HC.out wo (HLB.out wo HS.out.g) i x hx
                  have CI := hide (IH.out x (List.mem_of_getElem? hx) (.slice A2 N2 u2) d3 k2 hk2)
                  have HX := hide (looksT_at (k := k2) hx)
                  have HLE := hide (lookT_le x k2 hk2)
                  obtain ⟨⟨⟨fc, fa⟩, k3⟩, hF⟩ : ∃ F, lookT x k2 = F := ⟨_, rfl⟩
                  rw [hF] at CI HX HLE
                  obtain ⟨q, hq⟩ : ∃ q, x.n = q := ⟨_, rfl⟩
                  obtain ⟨xr, hxr⟩ : ∃ q, x.r = q := ⟨_, rfl⟩
                  rw [hq, hxr] at CI
                  rw [hq] at d0
                  rw [hxr] at d1
                  have b1 : (0 : Int) ≤ (i : Int) := by omega
                  have b2 : (i : Int) < (N : Int) := by omega
                  have hw2 := hide (show wrap64 ((i : Int) + 1) = (i : Int) + 1 by have := HNL.out; unfold wrap64; omega)
                  have S2 := hide (HS.out.below (bel_o wo (.cells #[.int .i64 q, .int .i64 xr, .slice A2 N2 u2] 24)))
                  have P2 := hide (CB.made wo q xr (.slice A2 N2 u2))
                  clear hx d3 hq hxr hq1 hq2 hF hk2
                  go_upto_region 36 with (fail)
                  obtain ⟨W2, hW2⟩ : ∃ Z, wo.alloc (.cells #[.int .i64 q, .int .i64 xr, .slice A2 N2 u2] 24) = Z := ⟨_, rfl⟩
                  rw [hW2] at S2 P2
                  (try rw [hW2])
                  obtain ⟨g, hg⟩ : ∃ g, wo.heap.size = g := ⟨_, rfl⟩
                  rw [hg] at P2
                  (try rw [hg])
                  clear hW2 hg d0 d1 d2 c0 c1 c2 HS
                  obtain ⟨p0, p1, p2⟩ := P2.out.cells
                  have C := hide (CI.out W2 kb HBK.out (HLB.out W2 S2.out.g) S2.out.k)
                  go_wp2_with fail
                  refine C.out.mono ?_
                  rintro e w6 ⟨rfl, hg6, hk6⟩
                  simp only [fv]
                  have S6 := hide (S2.out.grown hg6 hk6)
                  have S7 := hide (S6.out.below (bel_o w6 (.cells #[.int .i64 fc, .int .i64 fa] 28)))
                  have F7 := hide (FC.made w6 fc fa)
                  have lk6 : w.heap.size + 1 < w6.heap.size := S6.out.e.lt
                  clear hg6 hk6 C CI p0 p1 p2 S6 S2 P2
                  go_upto_region 37 with (fail)
                  obtain ⟨W7, hW7⟩ : ∃ Z, w6.alloc (.cells #[.int .i64 fc, .int .i64 fa] 28) = Z := ⟨_, rfl⟩
                  rw [hW7] at S7 F7
                  (try rw [hW7])
                  obtain ⟨g7, hg7⟩ : ∃ g, w6.heap.size = g := ⟨_, rfl⟩
                  rw [hg7] at F7 lk6
                  (try rw [hg7])
                  clear hW7 hg7
                  obtain ⟨f0, f1, _, _⟩ := F7.out.cells
                  by_cases hfc : fc = 0
                  · as_aux_lemma =>
                    have r1 : (fc != 0) = false := by simpa using hfc
                    have HL2 : Hid (looksT (t.l.drop (i + 1)) k3 = looksT t.l (k + 1)) := hide (by rw [← HLS.out, HX.out, if_neg (by simpa using hfc)])
                    have hk3 := HLE.out hfc
                    clear hfc HLS HX HLE
                    have w2 := hw2.out
                    go_wp2_with fail
                    (try simp only [w2])
                    clear w2
                    exact ⟨⟨i + 1, k3, rfl, by omega, hk3, HL2, S7⟩, by simp [intOf]; omega⟩
                  · as_aux_lemma =>
                    have r1 : (fc != 0) = true := by simpa using hfc
                    have HL2 : Hid (lookT t k = ((fc, fa), k3)) := hide (by rw [HR.out, ← HLS.out, HX.out, if_pos (by simpa using hfc)])
                    obtain ⟨e0, e1, e2, e3⟩ := S7.out.e.cells
                    clear hfc HLS HX HLE
                    go_wp2_with fail
                    obtain ⟨F1, F2, F3⟩ := S7.out.fin fc fa
                    obtain ⟨G0, G1, _, _⟩ := F1.cells
                    exact bodyPost_ret (v := .agg #[.int .i64 fc, .int .i64 fa]) (by simp [results, Tryd.results11, go_sem, G0, G1]) rfl (by rw [HL2.out]; exact ⟨rfl, F2, F3⟩)
                · as_aux_lemma =>
                  have hiN : N = i := by omega
                  subst hiN
                  have HL2 : Hid (lookT t k = ((0, 0), k2)) := hide (by rw [HR.out, ← HLS.out, ← HN.out, looksT_end])
                  obtain ⟨e0, e1, e2, e3⟩ := HS.out.e.cells
                  clear HLS
                  go_wp2_with fail
                  obtain ⟨F1, F2, F3⟩ := HS.out.fin 0 0
                  obtain ⟨G0, G1, _, _⟩ := F1.cells
                  exact bodyPost_ret (v := .agg #[.int .i64 0, .int .i64 0]) (by simp [results, Tryd.results11, go_sem, G0, G1]) rfl (by rw [HL2.out]; exact ⟨rfl, F2, F3⟩)
      · as_aux_lemma =>
        have r1 : ((left : Int) != 1) = true := by simp; omega
        have HR : Hid (lookT t k = ((6, (k : Int)), k + 1)) := hide (HM.out.1 (by rw [← hend]; simp; exact hl1))
        have S2 := HS
        clear hend hl1
        go_wp2_with fail
        refine (CF 6 _).out.mono ?_
        rintro e w7 ⟨rfl, hb⟩
        have S7 := hide (S2.out.below hb)
        clear hb
        obtain ⟨e0, e1, e2, e3⟩ := S7.out.e.cells
        go_wp2_with fail
        obtain ⟨F1, F2, F3⟩ := S7.out.fin 6 (k : Int)
        obtain ⟨G0, G1, _, _⟩ := F1.cells
        exact bodyPost_ret (v := .agg #[.int .i64 6, .int .i64 (k : Int)]) (by simp [results, Tryd.results11, go_sem, G0, G1]) rfl (by rw [HR.out]; exact ⟨rfl, F2, by simpa using F3⟩)

theorem certLook_any (W0 : World) (B : Nat) (t : Tree) : ∀ (s : Value), CAt W0 B t s → ∀ (k : Nat), k ≤ 1000 → ∀ (w : World) (kb : Nat), B ≤ kb → Below B W0 w → KAt w kb k →
      Calls Tryd.prog 11 #[.pointer (some ⟨kb, 0, none⟩), .agg #[.int .i64 t.n, .int .i64 t.r, s]] w (RetLk w kb (lookT t k)) := by
  induction t using Tree.ind with
  | h t ih =>
    intro s hs k hk w kb hB hW hK
    obtain ⟨A, cap, rfl, hn, hr, hl, hc⟩ := hs.open_
    have e := lookT_eq t k
    unfold i64ok at hn hr
    by_cases hk1 : k = 1000
    · rw [e, if_pos (by omega)]
      exact look_a t.n t.r A t.l.length cap k kb w hK hk1
    have hk2 : k < 1000 := by omega
    rw [if_neg (by omega)] at e
    by_cases h1 : t.n < 2
    · have e2 : nodeF t.n t.r (t.l.map Tree.n) = 3 := by unfold nodeF; rw [if_pos (.inl h1)]
      rw [e, e2, if_pos (by decide)]
      exact look_b1 t.n t.r A t.l.length cap k kb w hK hk2 h1
    by_cases h2 : 1000000000000000000 < t.n
    · have e2 : nodeF t.n t.r (t.l.map Tree.n) = 3 := by unfold nodeF; rw [if_pos (.inr h2)]
      rw [e, e2, if_pos (by decide)]
      exact look_b2 t.n t.r A t.l.length cap k kb w hK hk2 h2
    by_cases h3 : t.n = 2
    · by_cases h4 : t.r = 0
      · by_cases h5 : t.l = []
        · have e2 : nodeF t.n t.r (t.l.map Tree.n) = 0 := by unfold nodeF; rw [if_neg (by omega), if_pos h3, if_neg (by rw [h5]; simp [h4])]
          rw [e, e2, if_neg (by decide), h5, looksT, h3, h4]
          exact look_c3 A cap k kb w hK hk2
        · have e2 : nodeF t.n t.r (t.l.map Tree.n) = 6 := by unfold nodeF; rw [if_neg (by omega), if_pos h3, if_pos (.inr (by simpa using h5))]
          rw [e, e2, if_pos (by decide), h3, h4]
          exact look_c2 A t.l.length cap k kb w hK hk2 (List.length_pos_iff.2 h5)
      · have e2 : nodeF t.n t.r (t.l.map Tree.n) = 6 := by unfold nodeF; rw [if_neg (by omega), if_pos h3, if_pos (.inl h4)]
        rw [e, e2, if_pos (by decide), h3]
        exact look_c1 t.r A t.l.length cap k kb w hK hk2 h4
    by_cases h4 : t.r < 2
    · have e2 : nodeF t.n t.r (t.l.map Tree.n) = 6 := by unfold nodeF; rw [if_neg (by omega), if_neg h3, if_pos (.inl h4)]
      rw [e, e2, if_pos (by decide)]
      exact look_d1 t.n t.r A t.l.length cap k kb w hK hk2 (by omega) (by omega) h4
    by_cases h5 : t.n ≤ t.r
    · have e2 : nodeF t.n t.r (t.l.map Tree.n) = 6 := by unfold nodeF; rw [if_neg (by omega), if_neg h3, if_pos (.inr h5)]
      rw [e, e2, if_pos (by decide)]
      exact look_d2 t.n t.r A t.l.length cap k kb w hK hk2 (by omega) (by omega) (by omega) h5
    obtain ⟨nn, hnn⟩ : ∃ nn : Nat, t.n = nn := ⟨t.n.toNat, by omega⟩
    obtain ⟨rr, hrr⟩ : ∃ rr : Nat, t.r = rr := ⟨t.r.toNat, by omega⟩
    rw [hnn, hrr]
    exact look_main W0 B t ih A t.l.length cap k kb nn rr w rfl hB hW hK hk2 hnn hrr (by omega) (by omega) (by omega) (by omega) hl hc
end Go.Proofs.YtlchmaiflcnaoaaDoor
