/- The tail of the law FracRows: a Row that is refused. (gen_farl.py prints this text.) -/
import Derived.Test.YtojehmmkdkfkjaaGreatDoorKFarU
namespace Go.Proofs.YtojehmmkdkfkjaaGreatDoor
open Go.RowKit
open FA

set_option maxRecDepth 100000 in
set_option maxHeartbeats 6400000 in
theorem tail_bad (u v n : Int) (w W6 : World) (p5 p7 : Nat) (P Q k m : Int) (hn : n < 1 ∨ 50 < n) (HL0 : LS w W6 p5 (p5 + 1) p7 u v P Q k m k m) (x0 x2 x3 x4 x5 x7 x8 x9 x10 x11 x12 x13 x14 x15 x16 x17 x18 x19 x20 x21 x22 x23 x24 x25 x26 x27 x28 x29 x30 x31 x32 x33 x34 x35 x36 x37 x38 x39 x40 x41 x42 x43 x44 x45 x46 x47 x48 x49 x50 x51 x52 x53 x54 x55 x56 x57 x58 x59 x60 x61 x62 x63 x64 x65 x66 x67 x68 x69 x70 x71 x72 x73 x74 x75 x76 x77 x78 x79 x80 x81 x82 x83 x84 x85 x86 x87 x88 x89 x90 x91 x92 x93 x94 x95 x96 x97 x98 x99 x100 x101 x102 x103 x104 x105 x106 x107 x108 x109 x110 x111 x112 x113 x114 x115 x116 x117 x118 x119 x120 x121 x122 x123 x124 x125 x126 x127 x128 x129 x130 x131 x132 x133 x134 x135 x136 x137 x138 x139 x140 x141 x142 x143 x144 x145 x146 x147 x148 x149 x150 x151 x152 x153 x154 x155 x156 x157 x158 x159 x160 x161 x162 x163 x164 x165 x166 x167 x168 x169 x170 x171 x172 x173 x174 x175 x176 x177 x178 x179 x180 x181 x182 x183 x184 x185 x186 x187 x188 x189 x190 x191 x192 x193 x194 x195 x196 x197 x198 x199 x200 x201 x202 x203 x204 x205 x206 x207 x208 x209 x210 x211 x212 x213 x214 x215 x216 x217 x218 x219 x220 x221 x222 x223 x224 x225 x226 x227 x228 x229 x230 x231 x232 x233 x234 x235 x236 x237 x238 x239 x240 : Value) :
    tailC.wp Tryz.prog (bodyPost Tryz.prog Tryz.f3 fun e w' => e = .returned (.bool true) ∧ Below w.heap.size w w') { tmps := #[x0, .int .i64 n, x2, x3, x4, x5, .pointer (some ⟨p5 + 1, 0, none⟩), x7, x8, x9, x10, x11, x12, x13, x14, x15, x16, x17, x18, x19, x20, x21, x22, x23, x24, x25, x26, x27, x28, x29, x30, x31, x32, x33, x34, x35, x36, x37, x38, x39, x40, x41, x42, x43, x44, x45, x46, x47, x48, x49, x50, x51, x52, x53, x54, x55, x56, x57, x58, x59, x60, x61, x62, x63, x64, x65, x66, x67, x68, x69, x70, x71, x72, x73, x74, x75, x76, x77, x78, x79, x80, x81, x82, x83, x84, x85, x86, x87, x88, x89, x90, x91, x92, x93, x94, x95, x96, x97, x98, x99, x100, x101, x102, x103, x104, x105, x106, x107, x108, x109, x110, x111, x112, x113, x114, x115, x116, x117, x118, x119, x120, x121, x122, x123, x124, x125, x126, x127, x128, x129, x130, x131, x132, x133, x134, x135, x136, x137, x138, x139, x140, x141, x142, x143, x144, x145, x146, x147, x148, x149, x150, x151, x152, x153, x154, x155, x156, x157, x158, x159, x160, x161, x162, x163, x164, x165, x166, x167, x168, x169, x170, x171, x172, x173, x174, x175, x176, x177, x178, x179, x180, x181, x182, x183, x184, x185, x186, x187, x188, x189, x190, x191, x192, x193, x194, x195, x196, x197, x198, x199, x200, x201, x202, x203, x204, x205, x206, x207, x208, x209, x210, x211, x212, x213, x214, x215, x216, x217, x218, x219, x220, x221, x222, x223, x224, x225, x226, x227, x228, x229, x230, x231, x232, x233, x234, x235, x236, x237, x238, x239, x240], defers := [] } W6 := by
  have HL := hide HL0
  clear HL0
  have CE := fun c i W => hide (refF_any c i W)
  unfold tailC
  simp only [Tryz.f3, Option.getD, cR]
  have CR := fun W => hide (row_bad n W hn)
  have CE3 := fun W => hide (refF_any 3 0 W)
  have hc : decide (n < 1) = true ∨ (decide (n < 1) = false ∧ decide (50 < n) = true) := by
    by_cases h0 : n < 1
    · left; simpa using h0
    · right
      refine ⟨by simpa using h0, ?_⟩
      simp; omega
  clear hn CE
  go_wp2_with fail
  refine (CR _).out.mono ?_
  rintro e w7 ⟨rfl, hb⟩
  have HL7 := hide ((HL.out.below hb).sete 3 0)
  obtain ⟨e0, e1, e2, e3⟩ := (HL.out.below hb).e.cells
  clear hb HL CR
  go_upto_region 15 with (fail)
  obtain ⟨W7, hW⟩ : ∃ Z, (w7.setCell ⟨p5 + 1, 0, none⟩ (.int .i64 3)).setCell ⟨p5 + 1, 1, none⟩ (.int .i64 0) = Z := ⟨_, rfl⟩
  rw [hW] at HL7
  (try rw [hW])
  clear hW e0 e1 e2 e3
  have KS := fun W (b : Below W7.heap.size W7 W) => hide (show (W.cell? ⟨p5 + 1, 0, none⟩ = some (.int .i64 3) ∧ W.cell? ⟨p5 + 1, 1, none⟩ = some (.int .i64 0)) ∧ Hid (Below W7.heap.size W7 W) from ⟨⟨(HL7.out.below b).e.cells.1, (HL7.out.below b).e.cells.2.1⟩, hide b⟩)
  have HBB := hide HL7.out.b
  clear HL7
  rcases hc with h0 | ⟨h0, h1⟩
  all_goals
    go_upto_region 16 with (fail)
    go_region_held3 (fun W => (W.cell? ⟨p5 + 1, 0, none⟩ = some (.int .i64 3) ∧ W.cell? ⟨p5 + 1, 1, none⟩ = some (.int .i64 0)) ∧ Hid (Below W7.heap.size W7 W)) (first | exact (KS _ (below_drewN (Below.refl _ _) 1)).out | (have hx := ‹(_ ∧ _) ∧ Hid (Below W7.heap.size W7 _)›; exact (KS _ (hx.2.out.trans (hb.mono hx.2.out.size))).out)) (first | (go_at_call 6; refine (CE3 _).out.mono ?_; rintro e w8 ⟨rfl, hb⟩))
    all_goals
      rename_i hS
      have HB8 := hide (HBB.out.trans (hS.2.out.mono HBB.out.size))
      clear hS
      go_wp2_with fail
      go_ret
      exact ⟨rfl, HB8.out⟩
end Go.Proofs.YtojehmmkdkfkjaaGreatDoor
