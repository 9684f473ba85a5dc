/- The tail of the law FracRows: a Row that is given. (gen_farl.py prints this text.) -/
import Derived.Test.YtojehmmkdkfkjaaGreatDoorKFarU
namespace Go.Proofs.YtojehmmkdkfkjaaGreatDoor
open Go.RowKit
open FA

set_option maxRecDepth 100000 in
set_option maxHeartbeats 6400000 in
theorem tail_good (u v n : Int) (w W6 : World) (p5 p7 : Nat) (P Q k m : Int) (hn : ¬ (n < 1 ∨ 50 < n)) (HL0 : LS w W6 p5 (p5 + 1) p7 u v P Q k m k m) (x0 x2 x3 x4 x5 x7 x8 x9 x10 x11 x12 x13 x14 x15 x16 x17 x18 x19 x20 x21 x22 x23 x24 x25 x26 x27 x28 x29 x30 x31 x32 x33 x34 x35 x36 x37 x38 x39 x40 x41 x42 x43 x44 x45 x46 x47 x48 x49 x50 x51 x52 x53 x54 x55 x56 x57 x58 x59 x60 x61 x62 x63 x64 x65 x66 x67 x68 x69 x70 x71 x72 x73 x74 x75 x76 x77 x78 x79 x80 x81 x82 x83 x84 x85 x86 x87 x88 x89 x90 x91 x92 x93 x94 x95 x96 x97 x98 x99 x100 x101 x102 x103 x104 x105 x106 x107 x108 x109 x110 x111 x112 x113 x114 x115 x116 x117 x118 x119 x120 x121 x122 x123 x124 x125 x126 x127 x128 x129 x130 x131 x132 x133 x134 x135 x136 x137 x138 x139 x140 x141 x142 x143 x144 x145 x146 x147 x148 x149 x150 x151 x152 x153 x154 x155 x156 x157 x158 x159 x160 x161 x162 x163 x164 x165 x166 x167 x168 x169 x170 x171 x172 x173 x174 x175 x176 x177 x178 x179 x180 x181 x182 x183 x184 x185 x186 x187 x188 x189 x190 x191 x192 x193 x194 x195 x196 x197 x198 x199 x200 x201 x202 x203 x204 x205 x206 x207 x208 x209 x210 x211 x212 x213 x214 x215 x216 x217 x218 x219 x220 x221 x222 x223 x224 x225 x226 x227 x228 x229 x230 x231 x232 x233 x234 x235 x236 x237 x238 x239 x240 : Value) :
    tailC.wp Tryz.prog (bodyPost Tryz.prog Tryz.f3 fun e w' => e = .returned (.bool true) ∧ Below w.heap.size w w') { tmps := #[x0, .int .i64 n, x2, x3, x4, x5, .pointer (some ⟨p5 + 1, 0, none⟩), x7, x8, x9, x10, x11, x12, x13, x14, x15, x16, x17, x18, x19, x20, x21, x22, x23, x24, x25, x26, x27, x28, x29, x30, x31, x32, x33, x34, x35, x36, x37, x38, x39, x40, x41, x42, x43, x44, x45, x46, x47, x48, x49, x50, x51, x52, x53, x54, x55, x56, x57, x58, x59, x60, x61, x62, x63, x64, x65, x66, x67, x68, x69, x70, x71, x72, x73, x74, x75, x76, x77, x78, x79, x80, x81, x82, x83, x84, x85, x86, x87, x88, x89, x90, x91, x92, x93, x94, x95, x96, x97, x98, x99, x100, x101, x102, x103, x104, x105, x106, x107, x108, x109, x110, x111, x112, x113, x114, x115, x116, x117, x118, x119, x120, x121, x122, x123, x124, x125, x126, x127, x128, x129, x130, x131, x132, x133, x134, x135, x136, x137, x138, x139, x140, x141, x142, x143, x144, x145, x146, x147, x148, x149, x150, x151, x152, x153, x154, x155, x156, x157, x158, x159, x160, x161, x162, x163, x164, x165, x166, x167, x168, x169, x170, x171, x172, x173, x174, x175, x176, x177, x178, x179, x180, x181, x182, x183, x184, x185, x186, x187, x188, x189, x190, x191, x192, x193, x194, x195, x196, x197, x198, x199, x200, x201, x202, x203, x204, x205, x206, x207, x208, x209, x210, x211, x212, x213, x214, x215, x216, x217, x218, x219, x220, x221, x222, x223, x224, x225, x226, x227, x228, x229, x230, x231, x232, x233, x234, x235, x236, x237, x238, x239, x240], defers := [] } W6 := by
  have HL := hide HL0
  clear HL0
  have CE := fun c i W => hide (refF_any c i W)
  unfold tailC
  simp only [Tryz.f3, Option.getD, cR]
  obtain ⟨N, rfl⟩ : ∃ N : Nat, n = (N : Int) := ⟨n.toNat, by omega⟩
  have hN1 : 1 ≤ N := by omega
  have hN2 : N ≤ 50 := by omega
  obtain ⟨R1, R2, R3⟩ := rows hN1 hN2
  have HRW := hide (And.intro R1 (And.intro R2 R3))
  have CR := fun W => hide (row_ok N W hN1 hN2)
  unfold RetRow at CR
  have CPH := fun i W (h : i ≤ 50) => hide (phiOf_any i W (by omega))
  have h0 : decide ((N : Int) < 1) = false := by simp; omega
  have h1 : decide ((50 : Int) < (N : Int)) = false := by simp; omega
  have HN := hide (And.intro hN1 hN2)
  have hpp := phis_pos hN1
  have HPS := hide (show ∀ i, i ≤ 50 → phis i ≤ 2500 from by
    have h : ∀ m, phis m ≤ m * m := by
      intro m
      induction m with
      | zero => decide
      | succ m ih =>
        rw [phis]
        have : phiN (m + 1) ≤ m + 1 := by
          unfold phiN
          exact Nat.le_trans (List.length_filter_le _ _) (by rw [List.length_range]; exact Nat.le_refl _)
        have e : (m + 1) * (m + 1) = m * m + 2 * m + 1 := by grind
        omega
    intro i hi
    have := h i
    have := Nat.mul_le_mul hi hi
    omega)
  have HPP := hide hpp
  clear hn CE R1 R2 R3 hN1 hN2 hpp
  go_wp2_with fail
  refine (CR _).out.mono ?_
  rintro e w7 ⟨l, rfl, hrow, hb⟩
  have HL7 := hide ((HL.out.below hb).sete 0 0)
  obtain ⟨e0, e1, e2, e3⟩ := (HL.out.below hb).e.cells
  have hpl := HL.out.v.lt
  have hl7 := HL.out.l7
  have hoff : ∀ kk, l.ownBlock = some kk → kk ≠ p5 + 1 := fun kk hk => by have := (hrow.own kk hk).1; omega
  have HR7 := hide ((hrow.off hoff 0 (.int .i64 0)).off hoff 1 (.int .i64 0))
  clear hb HL CR hpl hl7 hoff hrow
  go_upto_region 15 with (fail)
  obtain ⟨W7, hW⟩ : ∃ Z, (w7.setCell ⟨p5 + 1, 0, none⟩ (.int .i64 0)).setCell ⟨p5 + 1, 1, none⟩ (.int .i64 0) = Z := ⟨_, rfl⟩
  rw [hW] at HL7 HR7
  (try rw [hW])
  clear hW e0 e1 e2 e3
  go_wp2_with fail
  go_loopw [9, 10] (fun mv iv wr => ∃ i : Nat, i ≤ N ∧ iv = .int .i64 ((i : Int) + 1) ∧ mv = .int .i64 ((1 + phis i : Nat) : Int) ∧ W7 = wr) (fun _ iv _ => N + 1 - (intOf iv).toNat)
  case atStart => exact ⟨0, by omega, rfl, rfl, rfl⟩
  case round =>
    obtain ⟨i, hi, rfl, rfl, rfl⟩ := hrel
    by_cases hin : i < N
    · as_aux_lemma =>
      have q1 : decide ((i : Int) + 1 ≤ (N : Int)) = true := by rw [decide_eq_true_eq]; omega
      have CP := fun W => (CPH (i + 1) W (by have := HN.out; omega)).out
      have ee : ((i + 1 : Nat) : Int) = (i : Int) + 1 := by omega
      rw [ee] at CP
      have hps : phis (i + 1) = phis i + phiN (i + 1) := rfl
      have hpb := HPS.out (i + 1) (by have := HN.out; omega)
      obtain ⟨J, I7⟩ := phi_facts (i := i) (by have := HN.out; omega) hps hpb
      obtain ⟨C, hC⟩ : ∃ C : Int, ((1 + phis i : Nat) : Int) = C := ⟨_, rfl⟩
      obtain ⟨D, hD⟩ : ∃ D : Int, ((phiN (i + 1) : Nat) : Int) = D := ⟨_, rfl⟩
      obtain ⟨E, hE⟩ : ∃ E : Int, ((1 + phis (i + 1) : Nat) : Int) = E := ⟨_, rfl⟩
      rw [hC, hD, hE] at J
      have HE := hide hE
      have HIN := hide hin
      rw [hD] at CP
      have CP := fun W => hide (CP W)
      rw [hC]
      clear hC hD hE hps hpb ee hin hi CPH HPS h0 h1
      go_wp2_with fail
      refine (CP _).out.mono ?_
      rintro e w8 ⟨rfl, rfl⟩
      go_wp2_with fail
      (try simp only [I7])
      exact ⟨⟨i + 1, HIN.out, rfl, by first | rw [HE.out, J] | rw [HE.out], trivial⟩, by have := HIN.out; simp only [intOf]; omega⟩
    obtain rfl : i = N := by omega
    obtain ⟨T, hT⟩ : ∃ T, phis i - 1 = T := ⟨_, rfl⟩
    rw [hT] at HR7 HRW
    obtain ⟨g, oc, rfl, hgl, a0, a1, cc, cd, hcell⟩ := row_cells HR7.out HRW.out.2.2
    obtain ⟨N0, hN0⟩ : ∃ N0, (rl i T).length = N0 := ⟨_, rfl⟩
    have hN0' : N0 = T + 2 := by rw [← hN0, rl_len]
    have hmany : ((1 + phis i : Nat) : Int) = (N0 : Int) := by have := HPP.out; omega
    have hNb : N0 ≤ 2502 := by have := HPS.out i (by have := HN.out; omega); omega
    rw [hN0, hmany]
    obtain ⟨K, hK⟩ : ∃ K, T + 1 = K := ⟨_, rfl⟩
    rw [hK] at cc cd
    have b0 : W7.cell? ⟨g, K * 2, none⟩ = some (.int .i64 1) := cc
    have b1 : W7.cell? ⟨g, K * 2 + 1, none⟩ = some (.int .i64 1) := cd
    obtain ⟨J0, J1, J2⟩ := pred_facts hN0' hK hNb
    have e0 := HL7.out.e.cells.1
    have HBB := hide HL7.out.b
    have HCL := hide (fun W (b : Below W7.heap.size W7 W) j t (ht : (rl i T)[j]? = some t) => show W.cell? ⟨g, j * 2, none⟩ = some (.int .i64 t.1) ∧ W.cell? ⟨g, j * 2 + 1, none⟩ = some (.int .i64 t.2) from by
      obtain ⟨c1, c2⟩ := hcell j t ht
      exact ⟨(b.cell (p := ⟨g, j * 2, none⟩) hgl).trans c1, (b.cell (p := ⟨g, j * 2 + 1, none⟩) hgl).trans c2⟩)
    have HTK := hide (And.intro hN0' hNb)
    clear hN0 hN0' hmany hNb cc cd hcell HL7 HR7 hT hK hgl CPH HPS HPP hi hin
    go_wp2_with fail
    clear a0 a1 b0 b1 J0 J1 J2 e0
    go_loopw [11] (fun iv wr => ∃ j : Nat, j ≤ N0 ∧ iv = .int .i64 j ∧ Hid (Below W7.heap.size W7 wr)) (fun iv _ => N0 - (intOf iv).toNat)
    case atStart => exact ⟨0, by omega, rfl, hide (Below.refl _ _)⟩
    case round =>
      obtain ⟨j, hj, rfl, HW⟩ := hrel
      obtain ⟨wo, rfl⟩ : ∃ Z, Z = wr := ⟨_, rfl⟩
      by_cases hjn : j < N0
      · cases j with
        | zero =>
          as_aux_lemma =>
          have K0 := fun W (b : Below W7.heap.size W7 W) => hide (show (W.cell? ⟨g, 0, none⟩ = some (.int .i64 0) ∧ W.cell? ⟨g, 1, none⟩ = some (.int .i64 1)) ∧ Hid (Below W7.heap.size W7 W) from ⟨by
            obtain ⟨c1, c2⟩ := HCL.out W b 0 _ (rl_get i T 0 (Nat.zero_le _)).1
            exact ⟨c1, c2⟩, hide b⟩)
          have q5 : decide ((0 : Int) < ((0 : Nat) : Int)) = false := by decide
          have q6 : decide ((i : Int) < 0) = false := by rw [decide_eq_false_iff_not]; omega
          have q7 : decide ((0 : Int) < (N0 : Int)) = true := by rw [decide_eq_true_eq]; omega
          have q8 : (0 : Int) < (N0 : Int) := by omega
          have HJN := hide hjn
          clear hjn hj HCL HRW
          go_upto_region 27 with (fail)
          obtain ⟨⟨x0, x1⟩, _⟩ := (K0 _ HW.out).out
          refine reg27z i N0 g oc wo x0 x1 h0 q6 q8 _ _ _ _ _ _ _ _ _ _ _ _ _ _ _ _ _ _ _ _ _ _ _ _ _ _ _ _ _ _ _ _ _ _ _ _ _ _ _ _ _ _ _ _ _ _ _ _ _ _ _ _ _ _ _ _ _ _ _ _ _ _ _ _ _ _ _ _ _ _ _ _ _ _ _ _ _ _ _ _ _ _ _ _ _ _ _ _ _ _ _ _ _ _ _ _ _ _ _ _ _ _ _ _ _ _ _ _ _ _ _ _ _ _ _ _ _ _ _ _ _ _ _ _ _ _ _ _ _ _ _ _ _ _ _ _ _ _ _ _ _ _ _ _ _ _ _ _ _ _ _ _ _ _ _ _ _ _ _ _ _ _ _ _ _ _ _ _ _ _ _ _ _ _ _ _ _ _ _ _ _ _ _ _ _ _ _ _ _ _ _ _ _ _ _ _ _ _ _ _ _ _ _ _ _ _ _ _ _ _ _ _ _ _ _ _ _ _ _ _ _ _ _ _ _ _ _ _ _ _ _ _ _ _ _ _ _ _ _ ?_
          intro y177 y178 y179 y180 y181 y182 y183 y184 y185 y186 y187 y188 y189 y190 y191 y192 y193 y194 y195 y196 y197 y198 y199 y200 y201 y202 y203 y204 y205 y206 y207 y208 y209 y210 y211 y212 y213 y214 y215 y216 y217 y218 y219 y220 y221 y222 y223 y224 y225 y226 y227 y228 y229 y230 y231 y232 y233 y234 y235 y236 y237 y238 y239 nq
          have HS2 := hide (below_drewN HW.out nq)
          clear x0 x1
          go_wp2_with fail
          exact ⟨⟨1, by have := HJN.out; omega, rfl, HS2⟩, by have := HJN.out; simp only [intOf]; (try omega)⟩
        | succ s =>
          as_aux_lemma =>
          have hs : s ≤ T := by have := HTK.out; omega
          have hfp := HRW.out.1 s hs
          have hlo := (rl_get i T s hs).1
          have hhi := (rl_get i T s hs).2
          obtain ⟨⟨a1, a2⟩, ha⟩ : ∃ a, (fs i s).1 = a := ⟨_, rfl⟩
          obtain ⟨⟨b1, b2⟩, hb⟩ : ∃ b, (fs i s).2 = b := ⟨_, rfl⟩
          rw [ha] at hfp hlo
          rw [hb] at hfp hhi
          have ha12 := fs_first HRW.out.1 HN.out.1 hs ha
          obtain ⟨X0, Y0, X, Y, M1, M2, hX0, hY0, hX, hY, ⟨J1, J2, J3, J4⟩, ⟨J5, J6, J7, _⟩, c1, c2, c3, c4⟩ := pair_facts hfp ha12 HN.out.2
          have KS := fun W (b : Below W7.heap.size W7 W) => hide (show ((W.cell? ⟨g, (s + 1) * 2, none⟩ = some (.int .i64 X) ∧ W.cell? ⟨g, (s + 1) * 2 + 1, none⟩ = some (.int .i64 Y)) ∧ (W.cell? ⟨g, s * 2, none⟩ = some (.int .i64 X0) ∧ W.cell? ⟨g, s * 2 + 1, none⟩ = some (.int .i64 Y0))) ∧ Hid (Below W7.heap.size W7 W) from ⟨by
            obtain ⟨x1, x2⟩ := HCL.out W b (s + 1) _ hhi
            obtain ⟨x3, x4⟩ := HCL.out W b s _ hlo
            unfold ci at x1 x2 x3 x4
            simp only at x1 x2 x3 x4
            rw [hX] at x1
            rw [hY] at x2
            rw [hX0] at x3
            rw [hY0] at x4
            exact ⟨⟨x1, x2⟩, x3, x4⟩, hide b⟩)
          obtain ⟨⟨q1, q2, q3, q4⟩, q5, q6, I5, I6, I7⟩ := idx_facts hjn HTK.out.2
          have HJN := hide hjn
          clear hjn hj hs hfp hlo hhi ha hb ha12 hX0 hY0 hX hY HCL HRW
          go_upto_region 27 with (fail)
          obtain ⟨⟨⟨x0, x1⟩, x2, x3⟩, _⟩ := (KS _ HW.out).out
          refine reg27s i s N0 g oc X Y X0 Y0 M1 M2 wo x0 x1 x2 x3 J1 J2 J3 J4 c1 c2 c3 c4 HJN.out HTK.out.2 _ _ _ _ _ _ _ _ _ _ _ _ _ _ _ _ _ _ _ _ _ _ _ _ _ _ _ _ _ _ _ _ _ _ _ _ _ _ _ _ _ _ _ _ _ _ _ _ _ _ _ _ _ _ _ _ _ _ _ _ _ _ _ _ _ _ _ _ _ _ _ _ _ _ _ _ _ _ _ _ _ _ _ _ _ _ _ _ _ _ _ _ _ _ _ _ _ _ _ _ _ _ _ _ _ _ _ _ _ _ _ _ _ _ _ _ _ _ _ _ _ _ _ _ _ _ _ _ _ _ _ _ _ _ _ _ _ _ _ _ _ _ _ _ _ _ _ _ _ _ _ _ _ _ _ _ _ _ _ _ _ _ _ _ _ _ _ _ _ _ _ _ _ _ _ _ _ _ _ _ _ _ _ _ _ _ _ _ _ _ _ _ _ _ _ _ _ _ _ _ _ _ _ _ _ _ _ _ _ _ _ _ _ _ _ _ _ _ _ _ _ _ _ _ _ _ _ _ _ _ _ _ _ _ _ _ _ _ _ ?_
          intro y177 y178 y179 y180 y181 y182 y183 y184 y185 y186 y187 y188 y189 y190 y191 y192 y193 y194 y195 y196 y197 y198 y199 y200 y201 y202 y203 y204 y205 y206 y207 y208 y209 y210 y211 y212 y213 y214 y215 y216 y217 y218 y219 y220 y221 y222 y223 y224 y225 y226 y227 y228 y229 y230 y231 y232 y233 y234 y235 y236 y237 y238 y239 nq
          have HS2 := hide (below_drewN HW.out nq)
          clear x0 x1 x2 x3
          go_wp2_with fail
          (try simp only [I7])
          exact ⟨⟨s + 1 + 1, HJN.out, rfl, HS2⟩, meas_facts HJN.out⟩
      · obtain rfl : j = N0 := by omega
        have q1 : decide ((j : Int) < (j : Int)) = false := by simp
        clear hjn hj
        go_wp2_with fail
        go_ret
        exact ⟨rfl, HBB.out.trans (HW.out.mono HBB.out.size)⟩
end Go.Proofs.YtojehmmkdkfkjaaGreatDoor
