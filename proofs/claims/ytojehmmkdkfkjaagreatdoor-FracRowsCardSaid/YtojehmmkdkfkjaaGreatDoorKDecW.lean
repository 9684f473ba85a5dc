/- The walk of frac.Decimal: a fraction's decimal digits, as text; or its fault. -/
import Derived.Test.YtojehmmkdkfkjaaGreatDoorKPathW
import Derived.Test.YtojehmmkdkfkjaaGreatDoorK0
import Derived.Test.YtojehmmkdkfkjaaGreatDoorKOrdW
import Derived.Lib.JoinLaws
import Derived.Laws.IdiomStrings
import Derived.Lib.LaidTab
import Derived.Deep.DeepCutAuto
namespace Go.Proofs.YtojehmmkdkfkjaaGreatDoor
open Go.RowKit

/-- the table of powers of ten lies in its variable -/
def PowW (w : World) : Prop := Lib.TabIs Tryz.prog w "internal/strconv.uint64pow10" .u64 Lib.pow10Tab ∧ 1 < w.heap.size
theorem pow_named : Tryz.prog.globalNamed "internal/strconv.uint64pow10" = some 1 := by kernel_rfl
theorem PowW.below {w w' : World} (h : PowW w) (k : Below w.heap.size w w') : PowW w' := by
  refine ⟨?_, Nat.lt_of_lt_of_le h.2 k.size⟩
  have h1 := h.1
  unfold Lib.TabIs World.var? at h1 ⊢
  rw [pow_named] at h1 ⊢
  simp only [Option.bind_some] at h1 ⊢
  rw [k.block _ h.2]
  exact h1

/-- the digits' bytes -/
def dgs (D r0 n : Nat) : List UInt8 := (List.range n).map fun i => UInt8.ofNat (48 + dig D r0 i)
theorem dgs_len (D r0 n : Nat) : (dgs D r0 n).length = n := by simp [dgs]
theorem dgs_succ (D r0 n : Nat) : dgs D r0 (n + 1) = dgs D r0 n ++ [UInt8.ofNat (48 + dig D r0 n)] := by simp [dgs, List.range_succ]
theorem dgs_take {D r0 n k : Nat} (h : k ≤ n) : (dgs D r0 n).take k = dgs D r0 k := by
  unfold dgs
  rw [← List.map_take, List.take_range, Nat.min_eq_left h]
theorem small_dig {n : Nat} (h : n < 10) : (UInt8.ofNat (48 + n)).toNat = 48 + n := by
  rw [UInt8.toNat_ofNat']
  omega
/-- a number's sign, as text -/
def sgn (a : Int) : List UInt8 := if a < 0 then [45] else []
/-- the decimal text of a fraction -/
def DecText (a b : Int) (s : List UInt8) : Prop := (a.natAbs % b.toNat = 0 → s = sgn a ++ Lib.decDigits (a.natAbs / b.toNat)) ∧ (a.natAbs % b.toNat ≠ 0 → ∃ A K, DecOk b.toNat (a.natAbs % b.toNat) A K ∧ A + K ≤ 20000 ∧ s = sgn a ++ Lib.decDigits (a.natAbs / b.toNat) ++ ([46] ++ dgs b.toNat (a.natAbs % b.toNat) A) ++ if K = 0 then [] else [40] ++ (dgs b.toNat (a.natAbs % b.toNat) (A + K)).drop A ++ [41])
/-- the fault of Decimal -/
def decF (a b : Int) : Int × Int := if (fracF a b).1 ≠ 0 then fracF a b else if 5000 < b then (2, 0) else (0, 0)
def RetDec (w : World) (a b : Int) : Ending → World → Prop := fun e w' => ∃ s : List UInt8, e = .returned (.tuple #[.string ⟨s.toArray⟩, fv (decF a b)]) ∧ ((decF a b).1 ≠ 0 → s = []) ∧ ((decF a b).1 = 0 → DecText a b s) ∧ Below w.heap.size w w'

theorem nDigits_le : ∀ (k u : Nat), u < 10 ^ (k + 1) → Lib.nDigits u ≤ k + 1 := by
  intro k
  induction k with
  | zero => intro u h; rw [Lib.nDigits_small (by simpa using h)]; omega
  | succ k ih =>
    intro u h
    by_cases h1 : u < 10
    · rw [Lib.nDigits_small h1]; omega
    · rw [Lib.nDigits_big h1]
      have := ih (u / 10) (by rw [Nat.div_lt_iff_lt_mul (by omega)]; rw [Nat.pow_succ] at h; exact h)
      omega
theorem below_grow {a w : World} (h : Below a.heap.size a w) (os : Array Obj) : Below a.heap.size a (Sort.grow w os) :=
  ⟨h.os, h.tape, h.output, by unfold Sort.grow; simp only [Array.size_append]; have := h.size; omega, fun i hi => by
    unfold Sort.grow
    show (w.heap ++ os)[i]? = _
    rw [Array.getElem?_append_left (by have := h.size; omega)]
    exact h.block i hi⟩
theorem itoa_nat {Q : Nat} (hQ : Q ≤ 1000000000000000000) (W : World) (hW : PowW W) :
    Calls Tryz.prog 36 #[.int .i64 Q] W fun e w' => ∃ T : ByteArray, e = .returned (.string T) ∧ T = ⟨(Lib.decDigits Q).toArray⟩ ∧ T.size ≤ 19 ∧ Below W.heap.size W w' := by
  refine (Tryz.strconv_Itoa (Q : Int) (by omega) (by omega) W hW.1).mono ?_
  rintro e w' ⟨rfl, k, os, rfl⟩
  have e1 : Lib.itoa (Q : Int) = Lib.decDigits Q := by
    unfold Lib.itoa
    rw [if_neg (by omega)]; rfl
  rw [e1]
  refine ⟨_, rfl, rfl, ?_, ?_⟩
  · show (Lib.decDigits Q).toArray.size ≤ 19
    rw [List.size_toArray, Lib.decDigits_length]
    exact nDigits_le 18 Q (by have : (10 : Nat) ^ (18 + 1) = 10000000000000000000 := by decide
                              omega)
  · exact below_grow (below_drewN (Below.refl _ _) k) _

set_option maxRecDepth 100000 in
set_option maxHeartbeats 12800000 in
theorem decimal_any (a b : Int) (w : World) (hT : TabW w) (hP : PowW w) : Calls Tryz.prog 17 #[.agg #[.int .i64 a, .int .i64 b]] w (RetDec w a b) := by
  have S0 := FrSt.start w a b
  by_cases hF : (fracF a b).1 = 0
  · obtain ⟨hF0, hoa, hob, hb1, hg⟩ := fracF_ok hF
    have CL := hide (flook_st hF0 S0)
    have la := ok_lims hoa
    have lb := ok_lims hob
    by_cases hbig : 5000 < b
    · have HR : Hid (decF a b = (2, 0)) := by unfold Hid decF; rw [if_neg (by rw [hF]; simp), if_pos hbig]
      have C := fun W => hide (ffault_any 2 0 W)
      have q1 : decide (5000 < b) = true := by simpa using hbig
      clear S0 hF hF0 hoa hob hb1 hg la lb hbig hT hP
      go_enter Tryz.func17, Tryz.ntmps17
      go_wp2_with fail
      refine CL.out.mono ?_
      rintro e w1 ⟨rfl, hS⟩
      have S1 := hide (hS.below (bel_f w1 (.cells #[.int .i64 0, .int .i64 0] 25)))
      obtain ⟨c0, c1, hlt⟩ := S1.out.cells
      have hlt1 := hS.f.lt
      clear hS
      go_wp2_with fail
      refine (C _).out.mono ?_
      rintro e w2 ⟨rfl, hb⟩
      have S2 := hide (S1.out.below hb)
      obtain ⟨d0, d1, f0, f1⟩ := S2.out.f.cells
      obtain ⟨p0, p1, p2⟩ := S2.out.put 2 0
      have HP := hide p2
      clear hb p2
      go_wp2_with fail
      exact bodyPost_ret (v := .tuple #[.string ⟨#[]⟩, fv (2, 0)]) (by simp [results, Tryz.results17, go_sem, fv, p0, p1]) rfl ⟨[], by rw [HR.out], fun _ => rfl, fun h => by rw [HR.out] at h; simp at h, HP.out⟩
    · have HR : Hid (decF a b = (0, 0)) := by unfold Hid decF; rw [if_neg (by rw [hF]; simp), if_neg hbig]
      obtain ⟨D, rfl⟩ : ∃ D : Nat, b = D := ⟨b.toNat, by omega⟩
      have q1 : decide (5000 < (D : Int)) = false := by simpa using hbig
      obtain ⟨U, hU⟩ : ∃ U, a.natAbs = U := ⟨_, rfl⟩
      have HG : Hid (Nat.gcd U D = 1) := by rw [← hU]; exact hg
      have hU18 : U ≤ 1000000000000000000 := by omega
      have hD1 : 1 ≤ D := by omega
      have hD5 : D ≤ 5000 := by omega
      have HT := hide hT
      have HPW := hide hP
      have HUU := hide hU
      have HAL := hide la
      clear hF hF0 hoa hob hb1 hg lb hbig hT hP
      go_enter Tryz.func17, Tryz.ntmps17
      go_wp2_with fail
      refine CL.out.mono ?_
      rintro e w1 ⟨rfl, hS⟩
      have S1 := hide (hS.below (bel_f w1 (.cells #[.int .i64 0, .int .i64 0] 25)))
      obtain ⟨k0, k1, hlt⟩ := S1.out.cells
      have hlt1 := hS.f.lt
      clear hS CL S0
      go_wp2_with fail
      go_quiet (fail)
      obtain ⟨W1, hW1⟩ : ∃ W, (w1.alloc (.cells #[.int .i64 0, .int .i64 0] 25)).drewN nq = W := ⟨_, rfl⟩
      have S2 : Hid (FrSt w W1 a D) := by rw [← hW1]; exact S1.out.below (below_drewN (Below.refl _ _) _)
      rw [hW1]
      clear hW1 S1 k0 k1 hlt
      go_upto_if 26 with (fail)
      go_cut [5, 6] (fun s u wx => ∃ sg : ByteArray, s = .string sg ∧ u = .int .i64 U ∧ sg.size ≤ 1 ∧ Hid (sg = ⟨(sgn a).toArray⟩) ∧ wx = W1)
      case first => as_aux_lemma =>
        by_cases ha : a < 0
        · have q2 : decide (a < 0) = true := by simpa using ha
          have V : IntKind.i64.wrap (-a) = (U : Int) := by rw [IntKind.wrap_i64]; omega
          have hs : sgn a = [45] := by unfold sgn; rw [if_pos ha]
          go_wp2_with fail
          go_meet
          exact ⟨⟨#[45]⟩, rfl, rfl, by decide, by unfold Hid; rw [hs], rfl⟩
        · have q2 : decide (a < 0) = false := by simpa using ha
          have hs : sgn a = [] := by unfold sgn; rw [if_neg ha]
          have hs2 : (U : Int) = a := by omega
          have HE := hide hs2
          clear hs2
          go_wp2_with fail
          go_meet
          exact ⟨⟨#[]⟩, rfl, by rw [HE.out], by decide, by unfold Hid; rw [hs], rfl⟩
      case rest => as_aux_lemma =>
        obtain ⟨sg, rfl, rfl, hsg, HSG, hww⟩ := hcut
        subst hww
        obtain ⟨k0, k1, hlt⟩ := S2.out.cells
        obtain ⟨Q, hQ⟩ : ∃ Q, U / D = Q := ⟨_, rfl⟩
        obtain ⟨r0, hr0⟩ : ∃ r0, U % D = r0 := ⟨_, rfl⟩
        have hQ18 : Q ≤ 1000000000000000000 := by rw [← hQ]; exact Nat.le_trans (Nat.div_le_self _ _) hU18
        have hrD : r0 < D := by rw [← hr0]; exact Nat.mod_lt _ hD1
        have e1 : (U : Int).tdiv (D : Int) = (Q : Int) := by rw [Int.tdiv_eq_ediv_of_nonneg (by omega), ← hQ, Int.natCast_ediv]
        have e2 : (U : Int) / (D : Int) = (Q : Int) := by rw [← hQ, Int.natCast_ediv]
        have e3 : (U : Int).tmod (D : Int) = (r0 : Int) := by rw [Int.tmod_eq_emod_of_nonneg (by omega), ← hr0, Int.natCast_emod]
        have e4 : (U : Int) % (D : Int) = (r0 : Int) := by rw [← hr0, Int.natCast_emod]
        have V1 : IntKind.i64.wrap (Q : Int) = (Q : Int) := by rw [IntKind.wrap_i64]; omega
        have V2 : IntKind.i64.wrap (r0 : Int) = (r0 : Int) := by rw [IntKind.wrap_i64]; omega
        have HQQ := hide hQ
        have HRR := hide hr0
        have hD0 : ¬ (D : Int) = 0 := by omega
        have HI := fun W (hW : PowW W) => hide (itoa_nat hQ18 W hW)
        have HG2 : Hid (Nat.gcd r0 D = 1) := by unfold Hid; rw [← hr0, ← Nat.gcd_rec, Nat.gcd_comm]; exact HG.out
        clear hQ hr0
        go_wp2_with fail
        refine (HI _ (HPW.out.below S2.out.b)).out.mono ?_
        rintro e w2 ⟨T, rfl, hTT, hTs, hb⟩
        have HTT := hide hTT
        have S3 := hide (S2.out.below hb)
        obtain ⟨i0, i1, _⟩ := S3.out.cells
        clear hb hTT S2 HI e1 e2
        by_cases hz : r0 = 0
        · subst hz
          obtain ⟨d0, d1, f0, f1⟩ := S3.out.f.cells
          obtain ⟨p0, p1, p2⟩ := S3.out.put 0 0
          have HP := hide p2
          have HX : Hid (DecText a (D : Int) (sgn a ++ Lib.decDigits Q)) := by
            unfold Hid DecText
            rw [HUU.out, show ((D : Int)).toNat = D from rfl, HQQ.out, HRR.out]
            exact ⟨fun _ => rfl, fun h => absurd rfl h⟩
          clear p2
          go_wp2_with fail
          refine bodyPost_ret (v := .tuple #[.string ⟨(sgn a ++ Lib.decDigits Q).toArray⟩, fv (0, 0)]) ?_ rfl ⟨_, by rw [HR.out], fun h => by rw [HR.out] at h; exact absurd rfl h, fun _ => HX.out, HP.out⟩
          rw [← ByteArray.mk_append_mk, ← HSG.out, ← HTT.out]
          simp [results, Tryz.results17, go_sem, fv, p0, p1]
        · have q3 : ((r0 : Int) == 0) = false := by rw [beq_eq_false_iff_ne]; omega
          go_wp2_with fail
          obtain ⟨P, hPP⟩ : ∃ P, sg ++ T = P := ⟨_, rfl⟩
          rw [hPP]
          have hPs : P.size ≤ 20 := by rw [← hPP, ByteArray.size_append]; omega
          have HPR : Hid (P = ⟨(sgn a ++ Lib.decDigits Q).toArray⟩) := by unfold Hid; rw [← hPP, HSG.out, HTT.out, ByteArray.mk_append_mk]
          clear hPP hsg hTs HSG HTT
          go_quiet (fail)
          go_wp2_with fail
          go_loopg [9, 10] D (fun J tv dv wr => ∃ A d n : Nat, J = d ∧ tv = .int .i64 A ∧ dv = .int .i64 d ∧ 1 ≤ d ∧ d ≤ D ∧ A ≤ D ∧ Hid (Ahead D A d) ∧ wr = w2.drewN n)
          case atStart => exact ⟨0, D, _, rfl, rfl, rfl, hD1, Nat.le_refl _, by omega, Ahead.start hD1, rfl⟩
          case round =>
            obtain ⟨A, d, n, hJ, rfl, rfl, hd1, hdD, hAD, HA, rfl⟩ := hrel
            have CD := fun W => hide (divisor_any (d : Int) 10 W (by omega) (by omega) (by omega) (by omega))
            obtain ⟨G, hG⟩ : ∃ G, Nat.gcd d 10 = G := ⟨_, rfl⟩
            rw [show Int.gcd (d : Int) 10 = G from hG] at CD
            have HGG := hide hG
            have hG1 : 1 ≤ G := by rw [← hG]; exact Nat.gcd_pos_of_pos_left _ (by omega)
            have hG10 : G ≤ 10 := by rw [← hG]; exact Nat.gcd_le_right _ (by omega)
            clear hG
            by_cases hbg : 1 < G
            · as_aux_lemma =>
              have HS2 := HA.out.step hD1 (by rw [HGG.out]; exact hbg)
              rw [HGG.out] at HS2
              obtain ⟨d2, hd2⟩ : ∃ d2, d / G = d2 := ⟨_, rfl⟩
              rw [hd2] at HS2
              have hlt2 := HS2.2
              have hp2 := HS2.1.pos
              have hlo := HS2.1.lo
              have HA2 := hide HS2.1
              have e1 : (d : Int).tdiv (G : Int) = (d2 : Int) := by rw [Int.tdiv_eq_ediv_of_nonneg (by omega), ← hd2, Int.natCast_ediv]
              have e2 : (d : Int) / (G : Int) = (d2 : Int) := by rw [← hd2, Int.natCast_ediv]
              have V1 : IntKind.i64.wrap (d2 : Int) = (d2 : Int) := by rw [IntKind.wrap_i64]; omega
              have hG0 : ¬ (G : Int) = 0 := by omega
              have q4 : decide (1 < (G : Int)) = true := by rw [decide_eq_true_eq]; omega
              clear HS2 HA hd2
              go_wp2_with fail
              refine (CD _).out.mono ?_
              rintro e w3 ⟨rfl, n2, rfl⟩
              go_wp2_with fail
              refine (CD _).out.mono ?_
              rintro e w3 ⟨rfl, n3, rfl⟩
              go_wp2_with fail
              go_roundg d2
              case measure => omega
              case rel => exact ⟨A + 1, d2, _, rfl, by simp, rfl, hp2, by omega, by omega, HA2, by first | rfl | (rw [World.drewN_drewN]) | (rw [World.drewN_drewN, World.drewN_drewN])⟩
            · have hGe : G = 1 := by omega
              have HGO : Hid (Nat.gcd d 10 = 1) := by unfold Hid; rw [HGG.out, hGe]
              subst hGe
              clear hbg hG1 hG10 HGG
              go_wp2_with fail
              refine (CD _).out.mono ?_
              rintro e w3 ⟨rfl, n2, rfl⟩
              have S4 : Hid (FrSt w (w2.drewN (n + n2)) a D) := S3.out.below (below_drewN (Below.refl _ _) _)
              go_upto_if 56 with (fail)
              go_cut [11] (fun kv wx => ∃ K : Nat, kv = .int .i64 K ∧ K ≤ D ∧ Hid (DecOk D r0 A K) ∧ 1 ≤ A + K ∧ Hid (FrSt w wx a D))
              case first => as_aux_lemma =>
                by_cases hd : 1 < d
                · have q5 : decide (1 < (d : Int)) = true := by rw [decide_eq_true_eq]; omega
                  have CO := hide (order_any 10 d (w2.drewN (n + n2)) (HT.out.below S4.out.b) (by omega) (by omega) (by omega) (by omega) (by rw [Nat.gcd_comm]; exact HGO.out))
                  go_wp2_with fail
                  refine CO.out.mono ?_
                  rintro e w4 ⟨K, rfl, hK, hKd, hb⟩
                  simp only [fv]
                  have S5 := hide (S4.out.below hb)
                  have HK : Hid (DecOk D r0 A K) := dec_inf hD1 HG2.out HA.out HGO.out hd hK
                  have hK1 := hK.1
                  clear hb hK
                  go_wp2_with fail
                  go_meet
                  exact ⟨K, rfl, by omega, HK, by omega, S5⟩
                · have hd1' : d = 1 := by omega
                  subst hd1'
                  have HK : Hid (DecOk D r0 A 0) := dec_fin hD1 HG2.out HA.out
                  have hA1 : 1 ≤ A := by
                    rcases Nat.eq_zero_or_pos A with h0 | h0
                    · have h1 := HA.out.eq
                      rw [h0] at h1
                      simp at h1
                      omega
                    · exact h0
                  go_wp2_with fail
                  go_meet
                  exact ⟨0, rfl, by omega, HK, by omega, S4⟩
              case rest => as_aux_lemma =>
                obtain ⟨K, rfl, hKD, HK, hAK, HS5⟩ := hcut
                clear CD HA HGO S3 S4 hJ
                have U8 := Tryz.underlying60
                obtain ⟨i0, hi, hz0, hz1, hz2⟩ := info_parts binfo
                have HO := hide (And.intro hi (And.intro hz0 (And.intro hz1 hz2)))
                clear hi hz0 hz1 hz2
                have hmk := run_make_room (P := Tryz.prog) 60 5 (.int .u8 0) 1 Tryz.underlying60 binfo rfl .i64 .i64 (A + K) (by omega) (by omega)
                rw [show ((A + K : Nat) : Int) = (A : Int) + (K : Int) from by omega] at hmk
                have V1 : IntKind.i64.wrap ((A : Int) + (K : Int)) = (A : Int) + (K : Int) := by rw [IntKind.wrap_i64]; omega
                have hbase := HS5.out.f.lt
                have HOW := hide (World.ownsRow_made (base := wc.heap.size) (e := 5) (size := 1) wc (madeCells #[.int .u8 0] (A + K)) (A + K) (Nat.le_refl _) (by simp only [maxLen]; omega) (by rw [size_madeCells]; simp))
                have S6 := hide (HS5.out.below (bel_f wc (.cells (madeCells #[.int .u8 0] (A + K)) 5)))
                go_wp2_with fail
                clear hmk
                go_loopg [8, 12, 69] (A + K) (fun J rv dv iv wr => ∃ i : Nat, J = A + K - i ∧ iv = .int .i64 i ∧ i ≤ A + K ∧ rv = .int .i64 (rst D r0 i) ∧ Hid (wr.ownsRow wc.heap.size 5 1 dv i (Lib.byteCells (dgs D r0 i))) ∧ wc.heap.size ≤ wr.heap.size ∧ Hid (FrSt w wr a D))
                case atStart => exact ⟨0, by omega, rfl, by omega, by rw [rst_zero hrD], HOW.out, by simp, S6⟩
                case round =>
                  clear HOW S6
                  obtain ⟨i, hJ, rfl, hi, rfl, HOW, hsz, HS6⟩ := hrel
                  obtain ⟨k0, k1, _⟩ := HS6.out.cells
                  by_cases hiN : i < A + K
                  · as_aux_lemma =>
                    have hR := rst_lt (r0 := r0) hD1 i
                    have hR2 := rst_lt (r0 := r0) hD1 (i + 1)
                    have hdl := dig_lt (r0 := r0) hD1 i
                    have HR2 := hide (rst_succ D r0 i)
                    have HDG : Hid (dig D r0 i = rst D r0 i * 10 / D) := rfl
                    have HDS := hide (dgs_succ D r0 i)
                    obtain ⟨R, hRe⟩ : ∃ R, rst D r0 i = R := ⟨_, rfl⟩
                    obtain ⟨R2, hR2e⟩ : ∃ R2, rst D r0 (i + 1) = R2 := ⟨_, rfl⟩
                    obtain ⟨g, hge⟩ : ∃ g, dig D r0 i = g := ⟨_, rfl⟩
                    rw [hRe] at hR HR2 HDG ⊢
                    rw [hR2e] at hR2 HR2
                    rw [hge] at hdl HDG HDS
                    obtain ⟨X, hX⟩ : ∃ X, R * 10 = X := ⟨_, rfl⟩
                    rw [hX] at HR2 HDG
                    have hXi : (R : Int) * 10 = (X : Int) := by omega
                    have V2 : IntKind.i64.wrap ((R : Int) * 10) = (X : Int) := by rw [hXi, IntKind.wrap_i64]; omega
                    have e1 : (X : Int).tdiv (D : Int) = (g : Int) := by rw [Int.tdiv_eq_ediv_of_nonneg (by omega), HDG.out, Int.natCast_ediv]
                    have e2 : (X : Int) / (D : Int) = (g : Int) := by rw [HDG.out, Int.natCast_ediv]
                    have e3 : (X : Int).tmod (D : Int) = (R2 : Int) := by rw [Int.tmod_eq_emod_of_nonneg (by omega), HR2.out, Int.natCast_emod]
                    have e4 : (X : Int) % (D : Int) = (R2 : Int) := by rw [HR2.out, Int.natCast_emod]
                    have V3 : IntKind.i64.wrap (g : Int) = (g : Int) := by rw [IntKind.wrap_i64]; omega
                    have V4 : IntKind.i64.wrap (48 + (g : Int)) = 48 + (g : Int) := by rw [IntKind.wrap_i64]; omega
                    have V5 : IntKind.u8.wrap (48 + (g : Int)) = 48 + (g : Int) := by rw [IntKind.wrap_u8]; omega
                    have V6 : IntKind.i64.wrap (R2 : Int) = (R2 : Int) := by rw [IntKind.wrap_i64]; omega
                    have HGB : Hid (((UInt8.ofNat (48 + g)).toNat : Int) = 48 + (g : Int)) := by unfold Hid; rw [small_dig hdl]; omega
                    have qi : decide ((i : Int) < (A : Int) + (K : Int)) = true := by rw [decide_eq_true_eq]; omega
                    have HN2 : Hid (R2 = rst D r0 (i + 1)) := hR2e.symm
                    clear hRe hR2e hge hX hXi
                    have HRA := hide (own_bel HOW.out (bel_f wr (.cells #[.int .u8 (48 + (g : Int))] 5)))
                    have HBA : Hid (Below wc.heap.size wr (wr.alloc (.cells #[.int .u8 (48 + (g : Int))] 5))) := (Below.refl _ _).alloc hsz _
                    go_wp2_with (at_builtin; refine wpList_append_own _ rfl _ _ 60 rfl wc.heap.size 5 i0 (.int .u8 0) 1 1 U8 HO.out.1 HO.out.2.1 HO.out.2.2.1 HO.out.2.2.2 rfl (by decide) _ _ _ rfl HRA.out ⟨wr.heap.size, 0, none⟩ 1 1 [.int .u8 (48 + (g : Int))] rfl rfl (one_new wr _ _) ?c2 ?c3 ?c4 ?c5 ?_)
                    case c2 => intro u hu; simp at hu; subst hu; rfl
                    case c3 => simp only [maxLen]; omega
                    case c4 => omega
                    case c5 => simp; omega
                    intro v' w5 hown hg5 _
                    have HF5 : Hid (w5.ownsRow wc.heap.size 5 1 v' (i + 1) (Lib.byteCells (dgs D r0 (i + 1)))) := by
                      unfold Hid
                      rw [HDS.out, Lib.byteCells_append]
                      have : Lib.byteCells [UInt8.ofNat (48 + g)] = [.int .u8 (48 + (g : Int))] := by
                        unfold Lib.byteCells
                        simp only [List.map_cons, List.map_nil]
                        rw [HGB.out]
                      rw [this]
                      exact hown
                    have B5 : Hid (Below wc.heap.size wr w5) := HBA.out.grown hg5 (by simp; omega) (fun k hk => (HRA.out.lt k hk).1)
                    have S7 := hide (HS6.out.base B5.out (by omega))
                    have hsz5 : wc.heap.size ≤ w5.heap.size := Nat.le_trans hsz B5.out.size
                    obtain ⟨j0, j1, _⟩ := S7.out.cells
                    clear hown hg5 HRA HBA B5
                    go_wp2_with fail
                    go_roundg (A + K - (i + 1))
                    case measure => omega
                    case rel => exact ⟨i + 1, rfl, by simp, by omega, by rw [HN2.out], HF5, hsz5, S7⟩
                  · as_aux_lemma =>
                    obtain rfl : i = A + K := by omega
                    have qi : decide (((A + K : Nat) : Int) < (A : Int) + (K : Int)) = false := by rw [decide_eq_false_iff_not]; omega
                    obtain ⟨g, cap, rfl, hgl, hgh⟩ := HOW.out.form hAK
                    have hcap : A + K ≤ cap := by
                      rcases HOW.out.2 with ⟨h1, h2⟩ | ⟨g', cap', cur, h1, _, _, h2, _⟩
                      · omega
                      · injection h1 with _ _ h3
                        omega
                    have hcells := HOW.out.cells (g := g) rfl
                    have hget : ∀ j, j < A + K → wr.cell? ((⟨g, 0, none⟩ : Addr).add j) = some (.int .u8 ((UInt8.ofNat (48 + dig D r0 j)).toNat : Int)) := fun j hj => by
                      refine hcells j _ ?_
                      unfold Lib.byteCells dgs
                      simp [hj]
                    have HGET := hide hget
                    obtain ⟨TA, hTA⟩ : ∃ TA : ByteArray, TA = ⟨(dgs D r0 A).toArray⟩ := ⟨_, rfl⟩
                    have hTAs : TA.size = A := by rw [hTA]; show (dgs D r0 A).toArray.size = A; rw [List.size_toArray, dgs_len]
                    have hcv1 : (convert 60 9 (.slice (some ⟨g, 0, none⟩) A cap)).run Tryz.prog wr = .ok (.string TA) wr := by
                      have h := run_convert_bytes_back (P := Tryz.prog) wr 60 9 5 ⟨g, 0, none⟩ cap (dgs D r0 A) Tryz.underlying60 Tryz.underlying5 Tryz.underlying9 (fun j hj => by
                        have hj2 : j < A := by rwa [dgs_len] at hj
                        rw [HGET.out j (by omega)]
                        simp [dgs])
                      rw [dgs_len, ← hTA] at h
                      exact h
                    obtain ⟨TB, hTB⟩ : ∃ TB : ByteArray, TB = ⟨((dgs D r0 (A + K)).drop A).toArray⟩ := ⟨_, rfl⟩
                    have hdl : ((dgs D r0 (A + K)).drop A).length = K := by rw [List.length_drop, dgs_len]; omega
                    have hTBs : TB.size = K := by rw [hTB]; show ((dgs D r0 (A + K)).drop A).toArray.size = K; rw [List.size_toArray, hdl]
                    have hcv2 : (convert 60 9 (.slice (some ⟨g, A, none⟩) K (cap - A))).run Tryz.prog wr = .ok (.string TB) wr := by
                      have h := run_convert_bytes_back (P := Tryz.prog) wr 60 9 5 ⟨g, A, none⟩ (cap - A) ((dgs D r0 (A + K)).drop A) Tryz.underlying60 Tryz.underlying5 Tryz.underlying9 (fun j hj => by
                        have hj2 : j < K := by rwa [hdl] at hj
                        have e : (⟨g, A, none⟩ : Addr).add j = (⟨g, 0, none⟩ : Addr).add (A + j) := by
                          unfold Addr.add
                          by_cases h1 : j = 0
                          · by_cases h2 : A = 0
                            · subst h1 h2; rfl
                            · simp [h1, h2]
                          · simp [h1]
                        rw [e, HGET.out (A + j) (by omega)]
                        simp [dgs])
                      rw [hdl, ← hTB] at h
                      exact h
                    have HTA := hide hTA
                    have HTB := hide hTB
                    obtain ⟨d0, d1, f0, f1⟩ := HS6.out.f.cells
                    obtain ⟨p0, p1, p2⟩ := HS6.out.put 0 0
                    have HP := hide p2
                    have hrz : r0 ≠ 0 := hz
                    have HZ := hide hrz
                    clear hcells hget hTA hTB p2 hdl hrz
                    by_cases hK0 : K = 0
                    · subst hK0
                      have HX : Hid (DecText a (D : Int) (sgn a ++ Lib.decDigits Q ++ ([46] ++ dgs D r0 A))) := by
                        unfold Hid DecText
                        rw [HUU.out, show ((D : Int)).toNat = D from rfl, HQQ.out, HRR.out]
                        refine ⟨fun h => absurd h HZ.out, fun _ => ⟨A, 0, HK.out, by omega, ?_⟩⟩
                        rw [if_pos rfl, List.append_nil]
                      go_wp2_with fail
                      refine bodyPost_ret (v := .tuple #[.string ⟨(sgn a ++ Lib.decDigits Q ++ ([46] ++ dgs D r0 A)).toArray⟩, fv (0, 0)]) ?_ rfl ⟨_, by rw [HR.out], fun h => by rw [HR.out] at h; exact absurd rfl h, fun _ => HX.out, HP.out⟩
                      rw [← ByteArray.mk_append_mk, ← ByteArray.mk_append_mk [46], ← HPR.out, ← HTA.out]
                      simp [results, Tryz.results17, go_sem, fv, p0, p1]
                    · have q6 : decide (0 < (K : Int)) = true := by rw [decide_eq_true_eq]; omega
                      have HX : Hid (DecText a (D : Int) (sgn a ++ Lib.decDigits Q ++ ([46] ++ dgs D r0 A) ++ ([40] ++ (dgs D r0 (A + K)).drop A ++ [41]))) := by
                        unfold Hid DecText
                        rw [HUU.out, show ((D : Int)).toNat = D from rfl, HQQ.out, HRR.out]
                        refine ⟨fun h => absurd h HZ.out, fun _ => ⟨A, K, HK.out, by omega, ?_⟩⟩
                        rw [if_neg hK0]
                      go_wp2_with fail
                      refine bodyPost_ret (v := .tuple #[.string ⟨(sgn a ++ Lib.decDigits Q ++ ([46] ++ dgs D r0 A) ++ ([40] ++ (dgs D r0 (A + K)).drop A ++ [41])).toArray⟩, fv (0, 0)]) ?_ rfl ⟨_, by rw [HR.out], fun h => by rw [HR.out] at h; exact absurd rfl h, fun _ => HX.out, HP.out⟩
                      rw [← ByteArray.mk_append_mk, ← ByteArray.mk_append_mk, ← ByteArray.mk_append_mk [46], ← ByteArray.mk_append_mk _ [41], ← ByteArray.mk_append_mk [40], ← HPR.out, ← HTA.out, ← HTB.out]
                      simp [results, Tryz.results17, go_sem, fv, p0, p1]
  · obtain ⟨⟨u, v⟩, hf⟩ : ∃ f, fracF a b = f := ⟨_, rfl⟩
    have HR : Hid (decF a b = (u, v)) := by unfold Hid decF; rw [if_pos (by simpa using hF), hf]
    have HU : Hid (u ≠ 0) := by rw [hf] at hF; exact hF
    have qx : (u != 0) = true := by rw [hf] at hF; simpa using hF
    have CL := hide (flook_st hf S0)
    clear hf hF S0
    go_enter Tryz.func17, Tryz.ntmps17
    go_wp2_with fail
    refine CL.out.mono ?_
    rintro e w1 ⟨rfl, hS⟩
    have F1 := hide (FC.made w1 u v)
    obtain ⟨d0, d1, f0, f1⟩ := F1.out.cells
    have S1 := hide (hS.below (bel_f w1 (.cells #[.int .i64 u, .int .i64 v] 25)))
    obtain ⟨e0, e1, g0, g1⟩ := S1.out.f.cells
    clear hS
    go_wp2_with fail
    go_region
    obtain ⟨p0, p1, p2⟩ := S1.out.put u v
    have HP := hide (below_drewN p2 1)
    clear p2
    go_wp2_with fail
    exact bodyPost_ret (v := .tuple #[.string ⟨#[]⟩, fv (u, v)]) (by simp [results, Tryz.results17, go_sem, fv, p0, p1]) rfl ⟨[], by rw [HR.out], fun _ => rfl, fun h => by rw [HR.out] at h; exact absurd h HU.out, HP.out⟩
end Go.Proofs.YtojehmmkdkfkjaaGreatDoor
