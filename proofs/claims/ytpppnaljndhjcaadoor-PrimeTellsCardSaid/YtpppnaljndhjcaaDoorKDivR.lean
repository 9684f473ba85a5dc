/- The round of arithmeticabig's long division, walked by itself: one digit. Under the set-up's facts. (Printed by gen_divround.py.) -/
import Derived.Test.YtpppnaljndhjcaaDoorK0
namespace Go.Proofs.YtpppnaljndhjcaaDoor
open Go.RowKit

/-- what the division knows from its set-up on -/
structure DvSet (x y s n c : Nat) (v : List Nat) (N : Nat) (top next : Nat) : Prop where
  s32 : s < 32
  len : v.length = n
  val : wv v = y * 2 ^ s
  small : ∀ (j d : Nat), v[j]? = some d → d < 4294967296
  attop : v[n - 1]? = some top
  atnext : v[n - 2]? = some next
  topge : 2147483648 ≤ top
  n2 : 2 ≤ n
  nN : n + 2 ≤ N
  N1 : N ≤ 1002
  y0 : 0 < y

def loopOf : Code → Option Code
  | .loop c => some c
  | .seq a b => match loopOf a with
    | some c => some c
    | none => loopOf b
  | .block _ c => loopOf c
  | .scope c => loopOf c
  | .cond _ a b => match loopOf a with
    | some c => some c
    | none => loopOf b
  | _ => none
noncomputable def divBody : Code := ((Tryd.f76.body.bind loopOf).getD .skip)

theorem ms_form1 {o c T b d : Nat} (ho : o < 4294967296) (hd : d ≤ 1) :
    IntKind.u64.wrap (IntKind.u64.wrap ((o : Int) - ((c : Int) + (T : Int) * (b : Int)) % 4294967296) - (d : Int)) % 4294967296 = (((o + 8589934592 - (c + T * b) % 4294967296 - d) % 4294967296 : Nat) : Int) := by
  rw [← Int.natCast_mul]
  generalize T * b = z
  rw [IntKind.wrap_u64, IntKind.wrap_u64]; omega
theorem ms_form2 {o c T b d : Nat} (ho : o < 4294967296) (hd : d ≤ 1) :
    IntKind.u64.wrap (IntKind.u64.wrap ((o : Int) - ((c : Int) + (T : Int) * (b : Int)) % 4294967296) - (d : Int)) / 9223372036854775808 = ((if o < (c + T * b) % 4294967296 + d then 1 else 0 : Nat) : Int) := by
  rw [← Int.natCast_mul]
  generalize T * b = z
  rw [IntKind.wrap_u64, IntKind.wrap_u64]; split <;> omega
theorem ms_form3 (c T b : Nat) : ((c : Int) + (T : Int) * (b : Int)) / 4294967296 = (((c + T * b) / 4294967296 : Nat) : Int) := by
  rw [← Int.natCast_mul]; omega
theorem ms_form4 {o c d : Nat} (ho : o < 4294967296) (hc : c < 4294967296) (hd : d ≤ 1) :
    IntKind.u64.wrap (IntKind.u64.wrap ((o : Int) - (c : Int)) - (d : Int)) % 4294967296 = (((o + 8589934592 - c - d) % 4294967296 : Nat) : Int) := by
  rw [IntKind.wrap_u64, IntKind.wrap_u64]; omega
theorem ms_form5 {o c d : Nat} (ho : o < 4294967296) (hc : c < 4294967296) (hd : d ≤ 1) (h : ¬ o < c + d) :
    IntKind.u64.wrap (IntKind.u64.wrap ((o : Int) - (c : Int)) - (d : Int)) / 9223372036854775808 = 0 := by
  rw [IntKind.wrap_u64, IntKind.wrap_u64]; omega
theorem ms_form6 {o c d : Nat} (ho : o < 4294967296) (hc : c < 4294967296) (hd : d ≤ 1) (h : o < c + d) :
    IntKind.u64.wrap (IntKind.u64.wrap ((o : Int) - (c : Int)) - (d : Int)) / 9223372036854775808 = 1 := by
  rw [IntKind.wrap_u64, IntKind.wrap_u64]; omega

theorem ab_form1 (c o b : Nat) : ((c : Int) + ((o : Int) + (b : Int))) % 4294967296 = (((c + (o + b)) % 4294967296 : Nat) : Int) := by omega
theorem ab_form2 (c o b : Nat) : ((c : Int) + ((o : Int) + (b : Int))) / 4294967296 = (((c + (o + b)) / 4294967296 : Nat) : Int) := by omega
theorem ab_form3 (c o : Nat) : ((o : Int) + (c : Int)) % 4294967296 = (((o + c) % 4294967296 : Nat) : Int) := by omega

set_option maxRecDepth 1000000 in
set_option maxHeartbeats 40000000 in
theorem div_round (x y s vn vc N M top next gu gq j X : Nat) (v U Q : List Nat) (Va : Addr) (w wr : World) (Qp : Exit → Act → World → Prop)
    (c0 c1 c2 c3 c4 c5 c6 c7 c8 c9 c28 c29 c30 c31 c32 c33 c34 c35 c36 c37 c38 c39 c40 c41 c42 c43 c44 c45 c46 c47 c48 c49 c50 c51 c52 c53 c54 c55 c56 c57 c58 c59 c60 c61 c62 c63 c64 c65 c66 c67 c68 c69 c70 c71 c72 c73 c74 c75 c76 c77 c78 c79 c80 c81 c82 c83 c84 c85 c86 c87 c88 c89 c90 c91 c92 c93 c94 c95 c96 c97 c98 c99 c100 c101 c102 c103 c104 c105 c106 c107 c108 c267 c268 c269 c270 c271 c272 u19 u20 u21 u22 u23 u24 u25 u26 u27 u109 u110 u111 u112 u113 u114 u115 u116 u117 u118 u119 u120 u121 u122 u123 u124 u125 u126 u127 u128 u129 u130 u131 u132 u133 u134 u135 u136 u137 u138 u139 u140 u141 u142 u143 u144 u145 u146 u147 u148 u149 u150 u151 u152 u153 u154 u155 u156 u157 u158 u159 u160 u161 u162 u163 u164 u165 u166 u167 u168 u169 u170 u171 u172 u173 u174 u175 u176 u177 u178 u179 u180 u181 u182 u183 u184 u185 u186 u187 u188 u189 u190 u191 u192 u193 u194 u195 u196 u197 u198 u199 u200 u201 u202 u203 u204 u205 u206 u207 u208 u209 u210 u211 u212 u213 u214 u215 u216 u217 u218 u219 u220 u221 u222 u223 u224 u225 u226 u227 u228 u229 u230 u231 u232 u233 u234 u235 u236 u237 u238 u239 u240 u241 u242 u243 u244 u245 u246 u247 u248 u249 u250 u251 u252 u253 u254 u255 u256 u257 u258 u259 u260 u261 u262 u263 u264 u265 u266 : Value)
    (HS : Hid (DvSet x y s vn vc v N top next)) (HM2 : Hid (M + vn = N)) (HD : Hid (DW w wr gu gq U Q Va vn vc v)) (HK : Hid (Kn U Q N M vn (wv v) X (j + 1))) (hjM : j < M)
    (hQ : ∀ (t19 t20 t21 t22 t23 t24 t25 t26 t27 t109 t110 t111 t112 t113 t114 t115 t116 t117 t118 t119 t120 t121 t122 t123 t124 t125 t126 t127 t128 t129 t130 t131 t132 t133 t134 t135 t136 t137 t138 t139 t140 t141 t142 t143 t144 t145 t146 t147 t148 t149 t150 t151 t152 t153 t154 t155 t156 t157 t158 t159 t160 t161 t162 t163 t164 t165 t166 t167 t168 t169 t170 t171 t172 t173 t174 t175 t176 t177 t178 t179 t180 t181 t182 t183 t184 t185 t186 t187 t188 t189 t190 t191 t192 t193 t194 t195 t196 t197 t198 t199 t200 t201 t202 t203 t204 t205 t206 t207 t208 t209 t210 t211 t212 t213 t214 t215 t216 t217 t218 t219 t220 t221 t222 t223 t224 t225 t226 t227 t228 t229 t230 t231 t232 t233 t234 t235 t236 t237 t238 t239 t240 t241 t242 t243 t244 t245 t246 t247 t248 t249 t250 t251 t252 t253 t254 t255 t256 t257 t258 t259 t260 t261 t262 t263 t264 t265 t266 : Value) (U' Q' : List Nat) (w' : World), DW w w' gu gq U' Q' Va vn vc v → Kn U' Q' N M vn (wv v) X j → Qp .normal ⟨#[c0, c1, c2, c3, c4, c5, c6, c7, c8, c9, .int .u64 s, .slice (some Va) vn vc, .slice (some ⟨gu, 0, none⟩) N N, .int .i64 vn, .int .i64 ((M : Int) - 1), .slice (some ⟨gq, 0, none⟩) M M, .int .u64 top, .int .u64 next, .int .i64 ((j : Int) - 1), t19, t20, t21, t22, t23, t24, t25, t26, t27, c28, c29, c30, c31, c32, c33, c34, c35, c36, c37, c38, c39, c40, c41, c42, c43, c44, c45, c46, c47, c48, c49, c50, c51, c52, c53, c54, c55, c56, c57, c58, c59, c60, c61, c62, c63, c64, c65, c66, c67, c68, c69, c70, c71, c72, c73, c74, c75, c76, c77, c78, c79, c80, c81, c82, c83, c84, c85, c86, c87, c88, c89, c90, c91, c92, c93, c94, c95, c96, c97, c98, c99, c100, c101, c102, c103, c104, c105, c106, c107, c108, t109, t110, t111, t112, t113, t114, t115, t116, t117, t118, t119, t120, t121, t122, t123, t124, t125, t126, t127, t128, t129, t130, t131, t132, t133, t134, t135, t136, t137, t138, t139, t140, t141, t142, t143, t144, t145, t146, t147, t148, t149, t150, t151, t152, t153, t154, t155, t156, t157, t158, t159, t160, t161, t162, t163, t164, t165, t166, t167, t168, t169, t170, t171, t172, t173, t174, t175, t176, t177, t178, t179, t180, t181, t182, t183, t184, t185, t186, t187, t188, t189, t190, t191, t192, t193, t194, t195, t196, t197, t198, t199, t200, t201, t202, t203, t204, t205, t206, t207, t208, t209, t210, t211, t212, t213, t214, t215, t216, t217, t218, t219, t220, t221, t222, t223, t224, t225, t226, t227, t228, t229, t230, t231, t232, t233, t234, t235, t236, t237, t238, t239, t240, t241, t242, t243, t244, t245, t246, t247, t248, t249, t250, t251, t252, t253, t254, t255, t256, t257, t258, t259, t260, t261, t262, t263, t264, t265, t266, c267, c268, c269, c270, c271, c272], []⟩ w') :
    Code.wp Tryd.prog divBody Qp ⟨#[c0, c1, c2, c3, c4, c5, c6, c7, c8, c9, .int .u64 s, .slice (some Va) vn vc, .slice (some ⟨gu, 0, none⟩) N N, .int .i64 vn, .int .i64 ((M : Int) - 1), .slice (some ⟨gq, 0, none⟩) M M, .int .u64 top, .int .u64 next, .int .i64 (j : Int), u19, u20, u21, u22, u23, u24, u25, u26, u27, c28, c29, c30, c31, c32, c33, c34, c35, c36, c37, c38, c39, c40, c41, c42, c43, c44, c45, c46, c47, c48, c49, c50, c51, c52, c53, c54, c55, c56, c57, c58, c59, c60, c61, c62, c63, c64, c65, c66, c67, c68, c69, c70, c71, c72, c73, c74, c75, c76, c77, c78, c79, c80, c81, c82, c83, c84, c85, c86, c87, c88, c89, c90, c91, c92, c93, c94, c95, c96, c97, c98, c99, c100, c101, c102, c103, c104, c105, c106, c107, c108, u109, u110, u111, u112, u113, u114, u115, u116, u117, u118, u119, u120, u121, u122, u123, u124, u125, u126, u127, u128, u129, u130, u131, u132, u133, u134, u135, u136, u137, u138, u139, u140, u141, u142, u143, u144, u145, u146, u147, u148, u149, u150, u151, u152, u153, u154, u155, u156, u157, u158, u159, u160, u161, u162, u163, u164, u165, u166, u167, u168, u169, u170, u171, u172, u173, u174, u175, u176, u177, u178, u179, u180, u181, u182, u183, u184, u185, u186, u187, u188, u189, u190, u191, u192, u193, u194, u195, u196, u197, u198, u199, u200, u201, u202, u203, u204, u205, u206, u207, u208, u209, u210, u211, u212, u213, u214, u215, u216, u217, u218, u219, u220, u221, u222, u223, u224, u225, u226, u227, u228, u229, u230, u231, u232, u233, u234, u235, u236, u237, u238, u239, u240, u241, u242, u243, u244, u245, u246, u247, u248, u249, u250, u251, u252, u253, u254, u255, u256, u257, u258, u259, u260, u261, u262, u263, u264, u265, u266, c267, c268, c269, c270, c271, c272], []⟩ wr := by
  have HQ := hide hQ
  clear hQ
  have hjn : j + vn < N := by have := HM2.out; omega
  have hN1 : N ≤ 1002 := HS.out.N1
  have hvn : 2 ≤ vn := HS.out.n2
  have htop : 2147483648 ≤ top := HS.out.topge
  have htop32 := HS.out.small _ _ HS.out.attop
  have hnext32 := HS.out.small _ _ HS.out.atnext
  obtain ⟨w0, hw0⟩ : ∃ o, U[j + vn]? = some o := ⟨_, List.getElem?_eq_getElem (by rw [HK.out.len]; omega)⟩
  obtain ⟨w1', hw1'⟩ : ∃ o, U[j + vn - 1]? = some o := ⟨_, List.getElem?_eq_getElem (by rw [HK.out.len]; omega)⟩
  obtain ⟨w2', hw2'⟩ : ∃ o, U[j + vn - 2]? = some o := ⟨_, List.getElem?_eq_getElem (by rw [HK.out.len]; omega)⟩
  have b0 := HK.out.small _ _ hw0
  have b1 := HK.out.small _ _ hw1'
  have b2 := HK.out.small _ _ hw2'
  have d0 := HD.out.cellU hw0
  have d1 := HD.out.cellU hw1'
  have d2 := HD.out.cellU hw2'
  obtain ⟨H, hH⟩ : ∃ H, H = w0 * 4294967296 + w1' := ⟨_, rfl⟩
  have hor := small_or b0 b1
  rw [← hH] at hor
  have hH64 : H < 18446744073709551616 := by omega
  have HH := hide hH
  have G0 := hide hw0
  have G1 := hide hw1'
  have G2 := hide hw2'
  clear hH hw0 hw1' hw2'
  obtain ⟨g0, hg0⟩ : ∃ g, g = H / top := ⟨_, rfl⟩
  obtain ⟨r0, hr0⟩ : ∃ r, r = H % top := ⟨_, rfl⟩
  have x1 : (H : Int).tdiv (top : Int) = (g0 : Int) := by rw [hg0, Int.natCast_ediv, Int.tdiv_eq_ediv_of_nonneg (by omega)]
  have x2 : (H : Int).tmod (top : Int) = (r0 : Int) := by rw [hr0, Int.natCast_emod, Int.tmod_eq_emod_of_nonneg (by omega)]
  have x3 : (H : Int) / (top : Int) = (g0 : Int) := by rw [hg0, Int.natCast_ediv]
  have x4 : (H : Int) % (top : Int) = (r0 : Int) := by rw [hr0, Int.natCast_emod]
  have x6 : g0 < 18446744073709551616 := by rw [hg0]; exact Nat.lt_of_le_of_lt (Nat.div_le_self _ _) hH64
  have x5 : IntKind.u64.wrap (g0 : Int) = (g0 : Int) := wrap_u64_nat _ x6
  have hr0t : r0 < top := by rw [hr0]; exact Nat.mod_lt _ (by omega)
  have HG0 := hide hg0
  have HR0 := hide hr0
  have hd0 : (top : Int) ≠ 0 := by omega
  clear hg0 hr0
  have HW := hide (Kn.window HK.out (v := v) (n := vn) HS.out.len rfl HS.out.small hvn (by omega) HS.out.attop HS.out.atnext G0.out G1.out G2.out htop)
  obtain ⟨T, hT⟩ : ∃ T, T = min (((w0 * 4294967296 + w1') * 4294967296 + w2') / (top * 4294967296 + next)) 4294967295 := ⟨_, rfl⟩
  have HT := hide hT
  clear hT
  conv => arg 2; whnf
  go_wp2_with fail
  go_quiet (fail)
  go_wp2_with fail
  go_quiet (fail)
  clear x1 x2 x3 x4 x5
  go_upto_block 2 with (fail)
  go_cut [20, 21] from 136 to 161 (fun aq _ wx => aq = .int .u64 (T : Int) ∧ ∃ k, wx = wr.drewN k)
  case first =>
    go_wp2_with fail
    go_loop [20, 21] (fun aq ar => ∃ q r : Nat, Gs (top * 4294967296 + next) top next H w2' T q r ∧ r < 4294967296 ∧ q ≤ 4294967297 ∧ aq = .int .u64 q ∧ ar = .int .u64 r) (fun aq _ => (intOf aq).toNat)
    case atStart =>
      have hs := Gs.start (n := w2') (u := H) (y0 := next) (y1 := top) rfl hnext32 htop (by rw [HH.out]; exact HW.out.2.2) b2
      rw [← HG0.out, ← HR0.out, HH.out, ← HT.out, ← HH.out] at hs
      exact ⟨g0, r0, hs, by omega, hs.le, rfl, rfl⟩
    case round =>
      obtain ⟨q, r, hg, hr, hqle, rfl, rfl⟩ := hrel
      have G := Lib.hid hg
      obtain ⟨Z, hZ⟩ : ∃ Z, Z = r * 4294967296 + w2' := ⟨_, rfl⟩
      have hor2 := small_or hr b2
      rw [← hZ] at hor2
      have hZ64 : Z < 18446744073709551616 := by omega
      have HZZ := hide hZ
      clear hg hZ
      have p1 : 0 ≤ (q : Int) * (next : Int) := Int.mul_nonneg (by omega) (by omega)
      have p2 : (q : Int) * (next : Int) ≤ 18446744073709551615 := Int.le_trans (Int.mul_le_mul (c := 4294967297) (d := 4294967295) (by omega) (by omega) (by omega) (by omega)) (by omega)
      have hz0 : ∀ b, b = decide ((4294967295 : Int) < (r : Int) + (top : Int)) → (b = true → 4294967296 ≤ r + top) ∧ (b = false → r + top < 4294967296) := by
        intro b e; subst e; rw [decide_eq_true_eq, decide_eq_false_iff_not]; omega
      have hb0 : ∀ b, b = decide ((4294967295 : Int) < (q : Int)) → (b = true → 4294967296 ≤ q) ∧ (b = false → q < 4294967296) := by
        intro b e; subst e; rw [decide_eq_true_eq, decide_eq_false_iff_not]; omega
      have ht0 : ∀ b, b = decide ((Z : Int) < (q : Int) * (next : Int)) → (b = true → 4294967296 * r + w2' < q * next) ∧ (b = false → ¬ 4294967296 * r + w2' < q * next) := by
        intro b e; subst e
        have := HZZ.out
        rw [decide_eq_true_eq, decide_eq_false_iff_not, ← Int.natCast_mul]; omega
      have HZ := hide (hz0 _ rfl)
      have HB := hide (hb0 _ rfl)
      have HTT := hide (ht0 _ rfl)
      clear hz0 hb0 ht0
      cases hb : decide ((4294967295 : Int) < (q : Int))
      · cases ht : decide ((Z : Int) < (q : Int) * (next : Int))
        · have HSS := hide (G.out.out (HB.out.2 hb) (HTT.out.2 ht))
          go_wp2_with fail
          go_meet
          exact ⟨congrArg (Value.int .u64) (by have := HSS.out; omega), _, rfl⟩
        · have hl := G.out.lt_of (.inr (HTT.out.1 ht))
          have hq1 : 1 ≤ q := by omega
          have HDD := hide (G.out.down (.inr (HTT.out.1 ht)))
          clear hl
          cases hz : decide ((4294967295 : Int) < (r : Int) + (top : Int))
          · go_wp2_with fail
            go_round
            case rel => exact ⟨q - 1, r + top, HDD.out, HZ.out.2 hz, by omega, by go_num, by go_num⟩
            case measure => simp [intOf]; omega
          · have HSS := hide (G.out.stop (.inr (HTT.out.1 ht)) (HZ.out.1 hz))
            go_wp2_with fail
            go_meet
            exact ⟨congrArg (Value.int .u64) (by have := HSS.out; omega), _, rfl⟩
      · have hl := G.out.lt_of (.inl (HB.out.1 hb))
        have hq1 : 1 ≤ q := by omega
        have HDD := hide (G.out.down (.inl (HB.out.1 hb)))
        clear hl
        cases hz : decide ((4294967295 : Int) < (r : Int) + (top : Int))
        · go_wp2_with fail
          go_round
          case rel => exact ⟨q - 1, r + top, HDD.out, HZ.out.2 hz, by omega, by go_num, by go_num⟩
          case measure => simp [intOf]; omega
        · have HSS := hide (G.out.stop (.inl (HB.out.1 hb)) (HZ.out.1 hz))
          go_wp2_with fail
          go_meet
          exact ⟨congrArg (Value.int .u64) (by have := HSS.out; omega), _, rfl⟩
  case rest =>
    obtain ⟨rfl, kk, hww⟩ := hcut
    have hNr := HW.out.2.1 T HT.out
    have HNr := hide hNr
    have hTB : T ≤ 4294967295 := by rw [HT.out]; exact Nat.min_le_right _ _
    have hDc : DW w wc gu gq U Q Va vn vc v := by rw [hww]; exact HD.out.drewN kk
    have HDc := hide hDc
    clear hww hDc hor d0 d1 d2 b1 b2 HG0 HR0 HH hNr HD hr0t x6 hd0
    go_upto_block 4 with (fail)
    go_cut [22, 23, 24, 25] from 162 to 199 (fun ac ad _ _ wx => ∃ (c d : Nat) (U1 : List Nat), Hid (DW w wx gu gq U1 Q Va vn vc v) ∧ Hid (Ms U U1 v j T vn c d) ∧ c < 4294967296 ∧ d ≤ 1 ∧ ac = .int .u64 c ∧ ad = .int .u64 d)
    case first =>
      go_wp2_with fail
      go_loopw [22, 23, 24] (fun ac ad ai wx => ∃ (i c d : Nat) (U1 : List Nat), i ≤ vn ∧ Hid (DW w wx gu gq U1 Q Va vn vc v) ∧ Hid (Ms U U1 v j T i c d) ∧ c < 4294967296 ∧ d ≤ 1 ∧ ac = .int .u64 c ∧ ad = .int .u64 d ∧ ai = .int .i64 i) (fun _ _ ai _ => vn - (intOf ai).toNat)
      case atStart => exact ⟨0, 0, 0, U, by omega, HDc, Ms.start v j T HK.out.small, by omega, by omega, rfl, rfl, rfl⟩
      case round =>
        obtain ⟨i, c, d, U1, hi, HD1, HM1, hc, hd, rfl, rfl, rfl⟩ := hrel
        by_cases hin : i < vn
        · obtain ⟨b, hb⟩ : ∃ o, v[i]? = some o := ⟨_, List.getElem?_eq_getElem (by rw [HS.out.len]; omega)⟩
          obtain ⟨o, ho⟩ : ∃ o, U1[i + j]? = some o := ⟨_, List.getElem?_eq_getElem (by rw [HM1.out.len, HK.out.len]; omega)⟩
          have hb2 := HS.out.small _ _ hb
          have ho2 := HM1.out.small _ _ ho
          have e1 := HD1.out.cellV hb
          have e2 := HD1.out.cellU ho
          have e3 := HD1.out.frozU (i + j)
          obtain ⟨p1, p2⟩ := mul_bound (a := T) (b := b) (by omega) hb2
          have hlo : (c + T * b) % 4294967296 < 4294967296 := Nat.mod_lt _ (by omega)
          have HN := hide (HM1.out.next (D := (o + 8589934592 - (c + T * b) % 4294967296 - d) % 4294967296) (e := if o < (c + T * b) % 4294967296 + d then 1 else 0) ho hb (Nat.mod_lt _ (by omega)) (by split <;> omega))
          have HDn := hide (HD1.out.setU (i + j) ((o + 8589934592 - (c + T * b) % 4294967296 - d) % 4294967296))
          have hcar := mul_carry (o := 0) hc (show T < 4294967296 by omega) hb2 (by omega)
          have HCR := hide hcar
          clear hb ho hlo hcar
          go_wp2_with fail
          refine ⟨⟨i + 1, _, _, _, by omega, ?_, HN, ?_, ?_, ?_, ?_, by go_num⟩, by simp [intOf]; omega⟩
          · rw [ms_form1 ho2 hd]; exact HDn
          · exact HCR.out
          · split <;> omega
          · exact congrArg (Value.int .u64) (ms_form3 _ _ _)
          · exact congrArg (Value.int .u64) (ms_form2 ho2 hd)
        · obtain rfl : i = vn := by omega
          go_wp2_with fail
          go_meet
          exact ⟨c, d, U1, HD1, HM1, hc, hd, rfl, rfl⟩
    case rest =>
      obtain ⟨c, d, U1, HD1, HM1, hc, hd, rfl, rfl⟩ := hcut
      obtain ⟨o, ho⟩ : ∃ o, U1[j + vn]? = some o := ⟨_, List.getElem?_eq_getElem (by rw [HM1.out.len, HK.out.len]; omega)⟩
      have ho2 := HM1.out.small _ _ ho
      have e2 := HD1.out.cellU ho
      have e3 := HD1.out.frozU (j + vn)
      have HO := hide ho
      clear ho HDc
      obtain ⟨qo, hqo⟩ : ∃ o, Q[j]? = some o := ⟨_, List.getElem?_eq_getElem (by rw [HK.out.qlen]; exact hjM)⟩
      have e4 := HD1.out.cellQ hqo
      have e5 := HD1.out.frozQ j
      have hne : gu < gq := HD1.out.lt
      obtain ⟨D, hDD⟩ : ∃ D, D = (o + 8589934592 - c - d) % 4294967296 := ⟨_, rfl⟩
      have f2 := ms_form4 ho2 hc hd
      rw [← hDD] at f2
      have hD32 : D < 4294967296 := by rw [hDD]; exact Nat.mod_lt _ (by omega)
      have HDD := hide hDD
      have HD2 := hide (HD1.out.setU (j + vn) D)
      have hVp : Hid (0 < wv v) := Nat.lt_of_le_of_lt (Nat.zero_le _) HK.out.lt
      have hVn : wv v < 4294967296 ^ vn := by
        have := wv_lt v HS.out.small
        rw [HS.out.len] at this; exact this
      have hzz : ∀ t x : Nat, j + vn + 1 ≤ t → U[t]? = some x → x = 0 := fun t x ht hx => HK.out.zeros hVn t x (by omega) hx
      have HZ := hide hzz
      clear hDD hqo hzz hVn
      by_cases hbor : o < c + d
      · -- one too much
        have f1 := ms_form6 ho2 hc hd hbor
        have hS := HM1.out.last (D := D) (e := 1) HS.out.len HO.out hD32 (by have := HDD.out; omega)
        have hfl := hS.flag HZ.out (by rw [HK.out.len]; omega) hVp.out (by have := HNr.out; omega) (by omega)
        have hn2 := HNr.out
        obtain ⟨q, hqd⟩ : ∃ q, wv (U.drop j) / wv v = q := ⟨_, rfl⟩
        rw [hqd] at hfl hn2
        have hne2 : q ≠ T := fun hh => by have := hfl.2 hh; omega
        obtain rfl : T = q + 1 := by omega
        have HSub := hide hS
        have HQD := hide hqd
        have hU1s := hS.small
        have hU1l : (U1.set (j + vn) D).length = N := by rw [hS.len, HK.out.len]
        clear hS hfl hqd hbor hn2 hne2
        go_upto_block 6 with (fail)
        go_cut [22, 27] from 223 to 251 (fun ac _ wx => ∃ (c : Nat) (U2 : List Nat), Hid (DW w wx gu gq U2 Q Va vn vc v) ∧ Hid (Ab (U1.set (j + vn) D) U2 v j vn c) ∧ c ≤ 1 ∧ ac = .int .u64 c)
        case first =>
          go_wp2_with fail
          go_loopw [22, 27] (fun ac ai wx => ∃ (i c : Nat) (U2 : List Nat), i ≤ vn ∧ Hid (DW w wx gu gq U2 Q Va vn vc v) ∧ Hid (Ab (U1.set (j + vn) D) U2 v j i c) ∧ c ≤ 1 ∧ ac = .int .u64 c ∧ ai = .int .i64 i) (fun _ ai _ => vn - (intOf ai).toNat)
          case atStart => exact ⟨0, 0, _, by omega, HD2, Ab.start v j hU1s, by omega, rfl, rfl⟩
          case round =>
            obtain ⟨i, c, U2, hi, HD4, HA4, hc4, rfl, rfl⟩ := hrel
            by_cases hin : i < vn
            · obtain ⟨b, hb⟩ : ∃ o, v[i]? = some o := ⟨_, List.getElem?_eq_getElem (by rw [HS.out.len]; omega)⟩
              obtain ⟨o, ho⟩ : ∃ o, U2[i + j]? = some o := ⟨_, List.getElem?_eq_getElem (by rw [HA4.out.len, hU1l]; omega)⟩
              have hb2 := HS.out.small _ _ hb
              have ho2 := HA4.out.small _ _ ho
              have y1 := HD4.out.cellV hb
              have y2 := HD4.out.cellU ho
              have y3 := HD4.out.frozU (i + j)
              have HN4 := hide (HA4.out.next ho hb)
              have HD5 := hide (HD4.out.setU (i + j) ((c + (o + b)) % 4294967296))
              clear hb ho hU1s hU1l
              go_wp2_with fail
              go_quiet (fail)
              go_wp2_with fail
              refine ⟨⟨i + 1, _, _, by omega, ?_, HN4, ?_, ?_, by go_num⟩, by simp [intOf]; omega⟩
              · rw [ab_form1]; exact HD5.out.drewN _
              · omega
              · exact congrArg (Value.int .u64) (ab_form2 _ _ _)
            · obtain rfl : i = vn := by omega
              go_wp2_with fail
              go_meet
              exact ⟨c, U2, HD4, HA4, hc4, rfl⟩
        case rest =>
          obtain ⟨c4, U2, HD4, HA4, hc4, rfl⟩ := hcut
          obtain ⟨o2, ho2'⟩ : ∃ o, U2[j + vn]? = some o := ⟨_, List.getElem?_eq_getElem (by rw [HA4.out.len, hU1l]; omega)⟩
          have ho22 := HA4.out.small _ _ ho2'
          have y2 := HD4.out.cellU ho2'
          have y3 := HD4.out.frozU (j + vn)
          obtain ⟨qo2, hqo2⟩ : ∃ o, Q[j]? = some o := ⟨_, List.getElem?_eq_getElem (by rw [HK.out.qlen]; exact hjM)⟩
          have y4 := HD4.out.cellQ hqo2
          have y5 := HD4.out.frozQ j
          have hSb := HSub.out.back HA4.out HS.out.len ho2' ho22 (by omega) HZ.out (by rw [HK.out.len]; omega) hVp.out HQD.out
          have HKn := hide (HK.out.step hSb.len hSb.small hSb.below (q := q) (by have := hSb.val; rw [Nat.mul_zero, Nat.add_zero] at this; exact this) HQD.out.symm (by omega) hjM (by omega))
          have HD6 := hide ((HD4.out.setU (j + vn) ((o2 + c4) % 4294967296)).setQ j q)
          clear hSb ho2' hqo2 hU1s hU1l e2 e3 e4 e5 f1 f2
          go_wp2_with fail
          refine HQ.out _ _ _ _ _ _ _ _ _ _ _ _ _ _ _ _ _ _ _ _ _ _ _ _ _ _ _ _ _ _ _ _ _ _ _ _ _ _ _ _ _ _ _ _ _ _ _ _ _ _ _ _ _ _ _ _ _ _ _ _ _ _ _ _ _ _ _ _ _ _ _ _ _ _ _ _ _ _ _ _ _ _ _ _ _ _ _ _ _ _ _ _ _ _ _ _ _ _ _ _ _ _ _ _ _ _ _ _ _ _ _ _ _ _ _ _ _ _ _ _ _ _ _ _ _ _ _ _ _ _ _ _ _ _ _ _ _ _ _ _ _ _ _ _ _ _ _ _ _ _ _ _ _ _ _ _ _ _ _ _ _ _ _ _ _ _ _ _ _ _ ?_ HKn.out
          rw [ab_form3]
          exact HD6.out
      · have f1 := ms_form5 ho2 hc hd hbor
        have hS := HM1.out.last (D := D) (e := 0) HS.out.len HO.out hD32 (by have := HDD.out; omega)
        have hfl := hS.flag HZ.out (by rw [HK.out.len]; omega) hVp.out (by have := HNr.out; omega) (by omega)
        have hqd := hfl.1 rfl
        have HKn := hide (HK.out.step hS.len hS.small hS.below (q := T) (by have := hS.val; rw [Nat.mul_zero, Nat.add_zero] at this; exact this) hqd.symm (by omega) hjM (by omega))
        have HD3 := hide (HD2.out.setQ j T)
        clear hS hfl hqd hbor
        go_wp2_with fail
        refine HQ.out _ _ _ _ _ _ _ _ _ _ _ _ _ _ _ _ _ _ _ _ _ _ _ _ _ _ _ _ _ _ _ _ _ _ _ _ _ _ _ _ _ _ _ _ _ _ _ _ _ _ _ _ _ _ _ _ _ _ _ _ _ _ _ _ _ _ _ _ _ _ _ _ _ _ _ _ _ _ _ _ _ _ _ _ _ _ _ _ _ _ _ _ _ _ _ _ _ _ _ _ _ _ _ _ _ _ _ _ _ _ _ _ _ _ _ _ _ _ _ _ _ _ _ _ _ _ _ _ _ _ _ _ _ _ _ _ _ _ _ _ _ _ _ _ _ _ _ _ _ _ _ _ _ _ _ _ _ _ _ _ _ _ _ _ _ _ _ _ _ _ ?_ HKn.out
        exact HD3.out
end Go.Proofs.YtpppnaljndhjcaaDoor

