/- The walks of hang.phi and hang.Order: under the bounds that each names. -/
import Derived.Test.YtojehmmkdkfkjaaGreatDoorK0
import Derived.Test.YtojehmmkdkfkjaaGreatDoorKPRead
namespace Go.Proofs.YtojehmmkdkfkjaaGreatDoor
open Go.RowKit

theorem bel_h (w : World) (o : Obj) : Below w.heap.size w (w.alloc o) := (Below.refl _ _).alloc (Nat.le_refl _) _
/-- a power's block -/
def PB (w : World) (g : Nat) (p t : Int) : Prop := w.heap[g]? = some (.cells #[.int .i64 p, .int .i64 t] 94 (0, 0))
theorem PB.made (w : World) (p t : Int) : PB (w.alloc (.cells #[.int .i64 p, .int .i64 t] 94)) w.heap.size p t := heap_alloc_new w _
theorem PB.below {w w' : World} {g : Nat} {p t : Int} (h : PB w g p t) (k : Below w.heap.size w w') : PB w' g p t := (k.block g (heap_lt h)).trans h
theorem PB.cells {w : World} {g : Nat} {p t : Int} (h : PB w g p t) : w.cell? ⟨g, 0, none⟩ = some (.int .i64 p) ∧ w.cell? ⟨g, 1, none⟩ = some (.int .i64 t) := by
  unfold PB at h
  exact ⟨by simp [World.cell?, h], by simp [World.cell?, h]⟩

set_option maxRecDepth 100000 in
set_option maxHeartbeats 3200000 in
theorem phi_any (v : Value) (l : List (Nat × Nat)) (w : World) (hv : PRead w v l) (hl : ∀ x ∈ l, 2 ≤ x.1 ∧ 1 ≤ x.2) (hn : pprod l ≤ 1000000000000000000) (hlen : l.length ≤ 1000) :
    Calls Tryz.prog 55 #[v] w fun e w' => e = .returned (.int .i64 (phiL l : Nat)) ∧ Below w.heap.size w w' := by
  have HV := hide hv
  obtain ⟨A, c, rfl⟩ := hv.form
  have HL := hide hl
  have HTop : Hid (phiL l ≤ 1000000000000000000) := Nat.le_trans (phiL_le l hl).1 hn
  clear hv hl hn
  go_enter Tryz.func55, Tryz.ntmps55
  go_wp2_with fail
  go_loopg [3, 8] l.length (fun J o iv wr => ∃ i : Nat, J = l.length - i ∧ iv = .int .i64 i ∧ i ≤ l.length ∧ o = .int .i64 (phiL (l.take i) : Nat) ∧ Hid (Below w.heap.size w wr))
  case atStart => exact ⟨0, by omega, rfl, by omega, rfl, Below.refl _ _⟩
  case round =>
    obtain ⟨i, hJ, rfl, hi, rfl, HB⟩ := hrel
    by_cases hil : i < l.length
    · obtain ⟨g, c2, ⟨p, t⟩, e1, hg, hx, c1, c3⟩ := (HV.out.below HB.out).at_ hil
      injection e1 with e1 _ e3
      subst e1
      clear e3
      have hpt := HL.out (p, t) (List.mem_of_getElem? hx)
      have hp2 : 2 ≤ p := hpt.1
      have ht1 : 1 ≤ t := hpt.2
      have HTK := hide (phiL_take hx)
      have hle := Nat.le_trans (phiL_pre (i := i + 1) HL.out) HTop.out
      rw [HTK.out] at hle
      obtain ⟨F, hF⟩ : ∃ F, phiL (l.take i) = F := ⟨_, rfl⟩
      rw [hF] at hle HTK ⊢
      have hF1 : 1 ≤ F := by rw [← hF]; exact (phiL_le _ fun x hx => HL.out x (List.mem_of_mem_take hx)).2
      have hpp : ∀ j, j ≤ t - 1 → F * ((p - 1) * p ^ j) ≤ 1000000000000000000 := fun j hj => Nat.le_trans (Nat.mul_le_mul_left _ (Nat.mul_le_mul_left _ (Nat.pow_le_pow_right (by omega) hj))) hle
      have HPP := hide hpp
      have hp18 : p ≤ 1000000000000000001 := by
        have h0 := hpp 0 (by omega)
        rw [Nat.pow_zero, Nat.mul_one] at h0
        have := Nat.le_mul_of_pos_left (p - 1) hF1
        omega
      have ht60 : t - 1 ≤ 1000000000000000000 := by
        have h1 := hpp (t - 1) (Nat.le_refl _)
        have h2 : p ^ (t - 1) ≤ F * ((p - 1) * p ^ (t - 1)) := Nat.le_trans (Nat.le_mul_of_pos_left _ (by omega)) (Nat.le_mul_of_pos_left _ hF1)
        have h3 : t - 1 < p ^ (t - 1) := Nat.lt_pow_self (by omega)
        omega
      have V0 : IntKind.i64.wrap ((p : Int) - 1) = ((p - 1 : Nat) : Int) := by rw [IntKind.wrap_i64]; omega
      have h0 := hpp 0 (by omega)
      rw [Nat.pow_zero, Nat.mul_one] at h0
      obtain ⟨G, hG⟩ : ∃ G, F * (p - 1) = G := ⟨_, rfl⟩
      rw [hG] at h0
      have hGi : (F : Int) * ((p - 1 : Nat) : Int) = (G : Int) := by rw [← Int.natCast_mul, hG]
      have V1 : IntKind.i64.wrap ((F : Int) * ((p - 1 : Nat) : Int)) = (G : Int) := by rw [hGi, IntKind.wrap_i64]; omega
      have V2 : IntKind.i64.wrap ((t : Int) - 1) = ((t - 1 : Nat) : Int) := by rw [IntKind.wrap_i64]; omega
      have HGG := hide hG
      have HB2 := hide (HB.out.alloc HB.out.size (.cells #[.int .i64 p, .int .i64 t] 94))
      have HPB := hide (PB.made wr p t)
      obtain ⟨k0, k1⟩ := HPB.out.cells
      clear hx hF hG hGi hpp hle h0 hpt
      go_wp2_with fail
      go_loopg [3, 20] (t - 1) (fun K o jv wq => ∃ j : Nat, K = t - 1 - j ∧ jv = .int .i64 j ∧ j ≤ t - 1 ∧ o = .int .i64 (G * p ^ j : Nat) ∧ wq = wr.alloc (.cells #[.int .i64 p, .int .i64 t] 94))
      case atStart => exact ⟨0, by omega, rfl, by omega, by simp, rfl⟩
      case round =>
        obtain ⟨j, hK, rfl, hj, rfl, rfl⟩ := hrel
        by_cases hjt : j < t - 1
        · have h1 := HPP.out (j + 1) (by omega)
          have e : F * ((p - 1) * p ^ (j + 1)) = G * p ^ j * p := by rw [← HGG.out, Nat.pow_succ]; simp only [Nat.mul_assoc]
          rw [e] at h1
          obtain ⟨X, hX⟩ : ∃ X, G * p ^ j = X := ⟨_, rfl⟩
          rw [hX] at h1 ⊢
          obtain ⟨Y, hY⟩ : ∃ Y, X * p = Y := ⟨_, rfl⟩
          rw [hY] at h1
          have hYi : (X : Int) * (p : Int) = (Y : Int) := by rw [← Int.natCast_mul, hY]
          have V3 : IntKind.i64.wrap ((X : Int) * (p : Int)) = (Y : Int) := by rw [hYi, IntKind.wrap_i64]; omega
          have HY : Hid (Y = G * p ^ (j + 1)) := by unfold Hid; rw [← hY, ← hX, Nat.pow_succ, Nat.mul_assoc]
          have qj : decide ((j : Int) < ((t - 1 : Nat) : Int)) = true := by rw [decide_eq_true_eq]; omega
          clear hX hY hYi e
          go_wp2_with fail
          go_roundg (t - 1 - (j + 1))
          case measure => omega
          case rel => exact ⟨j + 1, rfl, by simp, by omega, by rw [HY.out], rfl⟩
        · obtain rfl : j = t - 1 := by omega
          have HY : Hid (G * p ^ (t - 1) = phiL (l.take (i + 1))) := by unfold Hid; rw [HTK.out, ← HGG.out, Nat.mul_assoc]
          have qj : decide (((t - 1 : Nat) : Int) < ((t - 1 : Nat) : Int)) = false := by simp
          go_wp2_with fail
          go_roundg (l.length - (i + 1))
          case measure => omega
          case rel => exact ⟨i + 1, rfl, by simp, by omega, by rw [HY.out], HB2⟩
    · obtain rfl : i = l.length := by omega
      rw [List.take_length]
      go_wp2_with fail
      go_ret
      exact ⟨rfl, HB.out⟩

/-- hang.fault -/
theorem hfault_any (c n : Int) (w : World) :
    Calls Tryz.prog 54 #[.int .i64 c, .int .i64 n] w fun e w' => e = .returned (.agg #[.int .i64 c, .int .i64 n]) ∧ Below w.heap.size w w' := by
  go_enter Tryz.func54, Tryz.ntmps54
  go_wp2
  exact bodyPost_ret (v := .agg #[.int .i64 c, .int .i64 n]) (by simp [results, Tryz.results54, go_sem]) rfl ⟨rfl, (Below.refl _ _).alloc (Nat.le_refl _) _⟩

theorem rising {l : List (Nat × Nat)} (h : ∀ i a b, l[i]? = some a → l[i + 1]? = some b → a.1 < b.1) : ∀ (d i : Nat) (a b : Nat × Nat), l[i]? = some a → l[i + d + 1]? = some b → a.1 < b.1 := by
  intro d
  induction d with
  | zero => intro i a b h1 h2; exact h i a b h1 h2
  | succ d ih =>
    intro i a b h1 h2
    have hlt : i + d + 1 < l.length := by have := (List.getElem?_eq_some_iff.1 h2).1; omega
    have h3 := ih i a l[i + d + 1] h1 (List.getElem?_eq_getElem hlt)
    have h4 := h (i + d + 1) l[i + d + 1] b (List.getElem?_eq_getElem hlt) h2
    omega
theorem told_grp {n : Nat} {S : List Nat} (hn : n ≤ 100000000) (h1 : 1 ≤ n) (hS : Rise S) (h : Told0 n S) : (∀ x ∈ grp S, Pr x.1 ∧ 2 ≤ x.1 ∧ 1 ≤ x.2) ∧ Diff (grp S) ∧ pprod (grp S) = n ∧ (grp S).length ≤ 60 := by
  have hp := told_pr hn h1 h
  have h2 := grp_ok (P := Pr) hS (fun p hp2 => ⟨hp p hp2, (hp p hp2).1⟩) S.length (Nat.le_refl _)
  rw [List.take_length] at h2
  have h3 := grp_small (L := S) S.length (Nat.le_refl _)
  rw [List.take_length] at h3
  refine ⟨h2.1.1, ?_, by rw [h2.2.2.1]; exact h.1, ?_⟩
  · unfold Diff
    rw [List.pairwise_iff_getElem]
    intro i j hi hj hij
    have := rising h2.1.2 (j - i - 1) i _ _ (List.getElem?_eq_getElem hi) (by rw [show i + (j - i - 1) + 1 = j from by omega]; exact List.getElem?_eq_getElem hj)
    omega
  · have h4 := told_len h
    have h5 : S.length ≤ 60 := by
      rcases Nat.lt_or_ge 60 S.length with h6 | h6
      · have h7 : 2 ^ 61 ≤ 2 ^ S.length := Nat.pow_le_pow_right (by omega) h6
        have h8 : (2 : Nat) ^ 61 = 2305843009213693952 := by decide
        omega
      · exact h6
    omega

theorem mem_pprod {l : List (Nat × Nat)} {p t : Nat} (h : (p, t) ∈ l) (ht : 1 ≤ t) : p ∣ pprod l := by
  induction l with
  | nil => cases h
  | cons x r ih =>
    obtain ⟨q, s⟩ := x
    rw [pprod]
    rcases List.mem_cons.1 h with h1 | h1
    · injection h1 with e1 e2
      subst e1 e2
      exact Nat.dvd_trans (by rw [show t = (t - 1) + 1 from by omega, Nat.pow_succ]; exact Nat.dvd_mul_left ..) (Nat.dvd_mul_right ..)
    · exact Nat.dvd_trans (ih h1) (Nat.dvd_mul_left ..)
/-- what stands in memory while Order looks for the power -/
structure OrSt (w W : World) (v : Value) (l : List (Nat × Nat)) : Prop where
  f : FC W w.heap.size 0 0
  r : PRead W v l
  b : Below w.heap.size w W
theorem OrSt.below {w W W' : World} {v : Value} {l : List (Nat × Nat)} (h : OrSt w W v l) (k : Below W.heap.size W W') : OrSt w W' v l := ⟨h.f.below k, h.r.below k, h.b.trans (k.mono h.b.size)⟩

set_option maxRecDepth 100000 in
set_option maxHeartbeats 6400000 in
theorem order_any (a m : Nat) (w : World) (hT : TabW w) (h2 : 2 ≤ m) (hm : m ≤ 100000000) (ha1 : 1 ≤ a) (ha : a ≤ 1000000000000000000) (hg : Nat.gcd a m = 1) :
    Calls Tryz.prog 37 #[.int .i64 a, .int .i64 m] w fun e w' => ∃ k : Nat, e = .returned (.tuple #[.int .i64 k, fv (0, 0)]) ∧ OrdOk a m k ∧ k ≤ m ∧ Below w.heap.size w w' := by
  have L : ∀ (W : World) (g : Nat), g = W.heap.size → Hid (Calls Tryz.prog 27 #[.slice (some ⟨g, 0, none⟩) 2 2] (W.alloc (.cells #[.int .i64 a, .int .i64 m] 3)) (RetFault (W.alloc (.cells #[.int .i64 a, .int .i64 m] 3)) (lookK 0 [(a : Int), (m : Int)]))) := fun W g hg => hg ▸ look_any _ 2 2 [(a : Int), (m : Int)] _ rfl (by omega) (ints_new W [(a : Int), (m : Int)] _)
  have e0 : lookK 0 [(a : Int), (m : Int)] = (0, 0) := by
    rw [lookK, if_pos (by unfold okB; simp; omega), lookK, if_pos (by unfold okB; simp; omega), lookK]
  rw [e0] at L
  unfold RetFault at L
  have CD := fun W => hide (divisor_any a m W (by omega) (by omega) (by omega) (by omega))
  rw [show Int.gcd (a : Int) (m : Int) = 1 from hg] at CD
  have HT := hide hT
  have CP1 := fun W (hW : TabW W) => hide (parts_any m W (by omega) (by omega) hW)
  have q1 : decide ((m : Int) < 1) = false := by rw [decide_eq_false_iff_not]; omega
  have HA := hide (And.intro ha1 hg)
  clear e0 hT ha1 hg
  go_enter Tryz.func37, Tryz.ntmps37
  go_wp2_with fail
  refine (L _ _ (by simp)).out.mono ?_
  rintro e w1 ⟨rfl, hb⟩
  simp only [fv]
  have F1 := hide ((((FC.fresh w).below (bel_h _ (.cells #[.int .i64 a, .int .i64 m] 3))).below hb).below (bel_h w1 (.cells #[.int .i64 0, .int .i64 0] 25)))
  have HB := hide (below_new (below_new2 hb))
  have HB1 := hide (HB.out.alloc HB.out.size (.cells #[.int .i64 0, .int .i64 0] 25))
  clear hb
  go_wp2_with fail
  refine (CD _).out.mono ?_
  rintro e w2 ⟨rfl, k1, rfl⟩
  have HB2 := hide (below_drewN HB1.out k1)
  have F2 := hide (F1.out.below (below_drewN (Below.refl _ _) k1))
  go_wp2_with fail
  refine (CP1 _ (HT.out.below HB2.out)).out.mono ?_
  rintro e w2 ⟨v1, S1, rfl, hS1, hTold1, hP1, hb⟩
  have HB3 := hide (HB2.out.trans (hb.mono HB2.out.size))
  have F3 := hide (F2.out.below hb)
  obtain ⟨g1, g2, g3, g4⟩ := told_grp hm (by omega) hS1 hTold1
  have CPh := hide (phi_any v1 (grp S1) w2 hP1.read (fun x hx => (g1 x hx).2) (by rw [g3]; omega) (by omega))
  have hphi := phiL_le (grp S1) (fun x hx => (g1 x hx).2)
  rw [g3] at hphi
  have HE : Hid (a ^ phiL (grp S1) % m = 1) := by
    have h := euler HA.out.1 (grp S1) (fun x hx => ⟨(g1 x hx).1, (g1 x hx).2.2⟩) g2 (by rw [g3]; exact HA.out.2)
    rw [g3] at h
    unfold Hid
    rw [mod_of_dvd (Nat.pow_pos HA.out.1) h]
    exact Nat.mod_eq_of_lt h2
  obtain ⟨n0, hn0⟩ : ∃ n0, phiL (grp S1) = n0 := ⟨_, rfl⟩
  rw [hn0] at hphi CPh HE
  have CP2 := fun W (hW : TabW W) => hide (parts_any n0 W (by omega) (by omega) hW)
  clear hb hS1 hTold1 hP1 g1 g2 g3 g4 CP1 CD L hn0
  go_wp2_with fail
  refine CPh.out.mono ?_
  rintro e w3 ⟨rfl, hb⟩
  have HB4 := hide (HB3.out.trans (hb.mono HB3.out.size))
  have F4 := hide (F3.out.below hb)
  clear hb
  go_wp2_with fail
  refine (CP2 _ (HT.out.below HB4.out)).out.mono ?_
  rintro e w4 ⟨v2, S2, rfl, hS2, hTold2, hP2, hb⟩
  obtain ⟨g1, g2, g3, g4⟩ := told_grp (by omega) (by omega) hS2 hTold2
  have HSt := hide (OrSt.mk (F4.out.below hb) hP2.read (HB4.out.trans (hb.mono HB4.out.size)))
  obtain ⟨A, c, hform⟩ := hP2.read.form
  subst hform
  obtain ⟨l, hl⟩ : ∃ l, grp S2 = l := ⟨_, rfl⟩
  rw [hl] at g1 g2 g3 g4 HSt ⊢
  have G1 := hide g1
  have G3 := hide g3
  clear hb hS2 hTold2 hP2 g1 g2 g3 CP2 HT HB HB1 HB2 HB3 HB4 F1 F2 F3 F4 CPh hl
  go_wp2_with fail
  go_loopg [7, 32] l.length (fun J nv iv wr => ∃ i n : Nat, J = l.length - i ∧ iv = .int .i64 i ∧ i ≤ l.length ∧ nv = .int .i64 n ∧ n ≤ m ∧ 1 ≤ n ∧ Hid (OrdAt a m n0 l i n) ∧ Hid (OrSt w wr (.slice A l.length c) l))
  case atStart => exact ⟨0, n0, by omega, rfl, by omega, rfl, hphi.1, hphi.2, ⟨hphi.2, Nat.dvd_refl _, HE.out, fun j p t h => by omega⟩, HSt⟩
  case round =>
    clear HSt HE
    obtain ⟨i, n, hJ, rfl, hi, rfl, hnm, hn1, HO, HS⟩ := hrel
    by_cases hil : i < l.length
    · obtain ⟨g, c2, ⟨p, t⟩, e1, hg, hx, c1, c3⟩ := HS.out.r.at_ hil
      injection e1 with e1 _ e3
      subst e1
      clear e3
      have hp2 : 2 ≤ p := (G1.out (p, t) (List.mem_of_getElem? hx)).2.1
      have hpn : p ≤ 100000000 := by
        have h1 : p ∣ pprod l := mem_pprod (List.mem_of_getElem? hx) (G1.out (p, t) (List.mem_of_getElem? hx)).2.2
        have := Nat.le_of_dvd (by rw [G3.out]; omega) h1
        rw [G3.out] at this
        omega
      have HX := hide hx
      have HS2 := hide (HS.out.below (bel_h wr (.cells #[.int .i64 p, .int .i64 t] 94)))
      have HPB := PB.made wr p t
      obtain ⟨k0, k1'⟩ := HPB.cells
      have HPB2 := hide HPB
      clear HPB hx HS
      go_wp2_with fail
      go_loopg [7] n (fun K nv wq => ∃ n : Nat, K = n ∧ nv = .int .i64 n ∧ n ≤ m ∧ 1 ≤ n ∧ Hid (OrdAt a m n0 l i n) ∧ Hid (OrSt w wq (.slice (some ⟨g, 0, none⟩) l.length c) l) ∧ Hid (PB wq wr.heap.size p t))
      case atStart => exact ⟨n, rfl, rfl, hnm, hn1, HO, HS2, HPB2⟩
      case round =>
        clear HS2 HPB2 HO hnm hn1 k0 k1'
        obtain ⟨n, hK, rfl, hnm, hn1, HO, HS, HPB⟩ := hrel
        obtain ⟨k0, k1'⟩ := HPB.out.cells
        have e1 : (n : Int).tmod (p : Int) = ((n % p : Nat) : Int) := by rw [Int.tmod_eq_emod_of_nonneg (by omega), Int.natCast_emod]
        have e2 : (n : Int) % (p : Int) = ((n % p : Nat) : Int) := (Int.natCast_emod n p).symm
        by_cases hd : n % p = 0
        · obtain ⟨q, hq⟩ : ∃ q, n / p = q := ⟨_, rfl⟩
          have hqn : q ≤ n := by rw [← hq]; exact Nat.div_le_self _ _
          have e3 : (n : Int).tdiv (p : Int) = (q : Int) := by rw [Int.tdiv_eq_ediv_of_nonneg (by omega), ← hq, Int.natCast_ediv]
          have e4 : (n : Int) / (p : Int) = (q : Int) := by rw [← hq, Int.natCast_ediv]
          have e5 : (1 : Int).tmod (m : Int) = 1 := by rw [Int.tmod_eq_emod_of_nonneg (by omega)]; exact Int.emod_eq_of_lt (by omega) (by omega)
          have e6 : (1 : Int) % (m : Int) = 1 := Int.emod_eq_of_lt (by omega) (by omega)
          have V1 : IntKind.i64.wrap (q : Int) = (q : Int) := by rw [IntKind.wrap_i64]; omega
          have CR := fun W => hide (raise_any (a : Int) (m : Int) q W (by omega) (by omega) (by omega) (by omega) (by omega))
          have e7 : (a : Int) ^ q % (m : Int) = ((a ^ q % m : Nat) : Int) := by rw [Int.natCast_emod, Int.natCast_pow]
          rw [e7] at CR
          rw [hd] at e1 e2
          have HD := hide (Nat.dvd_of_mod_eq_zero hd)
          have HQ := hide hq
          obtain ⟨R, hR⟩ : ∃ R, a ^ q % m = R := ⟨_, rfl⟩
          rw [hR] at CR
          have HR := hide hR
          by_cases h1 : R = 1
          · as_aux_lemma =>
            subst h1
            have HN := HO.out.step h2 HX.out hp2 HD.out (by rw [HQ.out]; exact HR.out)
            rw [HQ.out] at HN
            have hlt := HN.2
            have hq1 := HN.1.pos
            have HO2 := hide HN.1
            clear HN HO hd hq hR e7
            go_wp2_with fail
            go_quiet (first | (go_at_call 57; with_reducible refine Calls.quiet_of (CR _).out))
            go_wp2_with fail
            go_roundg q
            case measure => omega
            case rel => exact ⟨q, rfl, rfl, by omega, hq1, HO2, HS.out.below (below_drewN (Below.refl _ _) _), HPB.out.below (below_drewN (Below.refl _ _) _)⟩
          · as_aux_lemma =>
            have q3 : ((R : Int) == 1) = false := by rw [beq_eq_false_iff_ne]; omega
            have HO2 := hide (HO.out.next HX.out (fun h => by rw [HQ.out, HR.out] at h; exact h1 h.2))
            clear HO hd hq hR e7 h1
            go_wp2_with fail
            go_quiet (first | (go_at_call 57; with_reducible refine Calls.quiet_of (CR _).out))
            go_wp2_with fail
            go_roundg (l.length - (i + 1))
            case measure => omega
            case rel => exact ⟨i + 1, n, rfl, by simp, by omega, rfl, hnm, hn1, HO2, HS.out.below (below_drewN (Below.refl _ _) _)⟩
        · as_aux_lemma =>
          have q3 : (((n % p : Nat) : Int) == 0) = false := by rw [beq_eq_false_iff_ne]; omega
          have HO2 := hide (HO.out.next HX.out (fun h => hd (Nat.mod_eq_zero_of_dvd h.1)))
          obtain ⟨R, hR⟩ : ∃ R, n % p = R := ⟨_, rfl⟩
          rw [hR] at e1 e2 q3
          clear HO hd hR
          go_wp2_with fail
          go_quiet (fail)
          go_wp2_with fail
          go_roundg (l.length - (i + 1))
          case measure => omega
          case rel => exact ⟨i + 1, n, rfl, by simp, by omega, rfl, hnm, hn1, HO2, HS.out.below (below_drewN (Below.refl _ _) _)⟩
    · obtain rfl : i = l.length := by omega
      have HK := hide (HO.out.last h2 (fun x hx => (G1.out x hx).1) G3.out)
      obtain ⟨d0, d1, f0, f1⟩ := HS.out.f.cells
      obtain ⟨p0, p1⟩ := HS.out.f.put 0 0
      have HB5 := hide (below_fault (u := .int .i64 0) (v := .int .i64 0) HS.out.b (Nat.le_refl _))
      go_wp2_with fail
      exact bodyPost_ret (v := .tuple #[.int .i64 n, fv (0, 0)]) (by simp [results, Tryz.results37, go_sem, fv, p0, p1]) rfl ⟨n, rfl, HK.out, hnm, HB5.out⟩
end Go.Proofs.YtojehmmkdkfkjaaGreatDoor
