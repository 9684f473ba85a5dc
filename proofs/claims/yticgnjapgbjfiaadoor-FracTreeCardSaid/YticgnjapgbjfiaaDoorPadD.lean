/- The walks of padic.value, derive and poly. Under the bounds that each names. -/
import Derived.Test.YticgnjapgbjfiaaDoorPadA
import Derived.Test.YticgnjapgbjfiaaDoorPolyLaw
import Derived.Test.YticgnjapgbjfiaaDoorSlices
import Derived.BigQuiet
import Derived.Handy
namespace Go.Proofs.YticgnjapgbjfiaaDoor
open Go.RowKit

theorem quietd_of {P : Program} {f : FuncId} {args : Array Value} {w : World} {k n : Nat} {v : Value}
    (h : Calls P f args (w.drewN (k + n)) fun e w' => e = .returned v ∧ ∃ m, w' = (w.drewN (k + n)).drewN m) : Calls P f args (w.drewN (k + n)) fun e w'' => e = .returned v ∧ ∃ m, w'' = w.drewN (k + m) :=
  h.mono fun _ _ ⟨he, m, hm⟩ => ⟨he, n + m, by rw [hm, World.drewN_drewN, Nat.add_assoc]⟩
theorem quietd_same {P : Program} {f : FuncId} {args : Array Value} {w : World} {k n : Nat} {v : Value}
    (h : Calls P f args (w.drewN (k + n)) fun e w' => e = .returned v ∧ w' = w.drewN (k + n)) : Calls P f args (w.drewN (k + n)) fun e w'' => e = .returned v ∧ ∃ m, w'' = w.drewN (k + m) :=
  h.mono fun _ _ ⟨he, hm⟩ => ⟨he, n, hm⟩
/-- every number is an int -/
def fits (l : List Int) : Prop := ∀ c ∈ l, -9223372036854775808 ≤ c ∧ c ≤ 9223372036854775807

set_option maxRecDepth 100000 in
set_option maxHeartbeats 3200000 in
theorem value_any (A : Option Addr) (n c : Nat) (l : List Int) (x m : Int) (w : World) (hl : l.length = n) (hn : n ≤ 1000000) (hI : Ints w w.heap.size A l) (hf : fits l) (hm : 0 < m) (hm2 : m ≤ 1000000000000000000) (hx : -1000000000000000000 ≤ x) (hx2 : x ≤ 1000000000000000000) :
    Calls Tryd.prog 47 #[.slice A n c, .int .i64 x, .int .i64 m] w fun e w' => e = .returned (.int .i64 (pv l x % m)) ∧ ∃ k, w' = w.drewN k := by
  have HI := hide hI
  have HF := hide hf
  have HL := hide hl
  clear hI hf hl
  go_enter Tryd.func47, Tryd.ntmps47
  go_wp2_with fail
  go_loopw [7, 8] (fun o i wr => ∃ (j k : Nat) (O : Int), i = .int .i64 ((j : Int) - 1) ∧ j ≤ n ∧ o = .int .i64 O ∧ 0 ≤ O ∧ O < m ∧ Hid (O = pv (l.drop j) x % m) ∧ wr = w.drewN k) (fun _ i _ => (intOf i + 1).toNat)
  case atStart => exact ⟨n, 0, 0, rfl, by omega, rfl, by omega, hm, by unfold Hid; rw [← HL.out, List.drop_length]; rfl, rfl⟩
  case round =>
    obtain ⟨j, k, O, rfl, hj, rfl, hO0, hO1, HO, rfl⟩ := hrel
    by_cases hj0 : 0 < j
    · obtain ⟨i, rfl⟩ : ∃ i, j = i + 1 := ⟨j - 1, by omega⟩
      obtain ⟨ad, v, rfl, hv, hab, hac⟩ := HI.out.at_ (k := i) (by rw [HL.out]; omega)
      have hvb := HF.out v (List.mem_of_getElem? hv)
      have C1 := fun W => hide (times_any O x m W hm (by omega) (by omega) (by omega) (by omega) (by omega))
      have C2 := fun W => hide (mod_any v m W hm (by omega) hvb.1 hvb.2)
      have y0 := Int.emod_nonneg (O * x) (b := m) (by omega)
      have y1 := Int.emod_lt_of_pos (O * x) hm
      have z0 := Int.emod_nonneg v (b := m) (by omega)
      have z1 := Int.emod_lt_of_pos v hm
      have HS := hide (horner_step (x := x) (m := m) hv)
      have C3 := fun W => hide (mod_any (O * x % m + v % m) m W hm (by omega) (by omega) (by omega))
      have u0 := Int.emod_nonneg (O * x % m + v % m) (b := m) (by omega)
      have u1 := Int.emod_lt_of_pos (O * x % m + v % m) hm
      have HO2 : Hid ((O * x % m + v % m) % m = pv (l.drop i) x % m) := by unfold Hid; rw [HO.out]; exact HS.out
      obtain ⟨Y, hY⟩ : ∃ Y, O * x % m = Y := ⟨_, rfl⟩
      obtain ⟨Z, hZ⟩ : ∃ Z, v % m = Z := ⟨_, rfl⟩
      rw [hY] at C1 C3 y0 y1 u0 u1 HO2
      rw [hZ] at C2 C3 z0 z1 u0 u1 HO2
      obtain ⟨U, hU⟩ : ∃ U, (Y + Z) % m = U := ⟨_, rfl⟩
      rw [hU] at C3 u0 u1 HO2
      have W1 : IntKind.i64.wrap (Y + Z) = Y + Z := by rw [IntKind.wrap_i64]; omega
      have e1 : ((i + 1 : Nat) : Int) - 1 = (i : Int) := by omega
      have hcell : w.cell? (ad.add i) = some (.int .i64 v) := hac
      have q1 : decide ((0 : Int) ≤ (i : Int)) = true := by rw [decide_eq_true_eq]; omega
      clear hY hZ hU hv HS hac
      rw [e1]
      go_wp2_with fail
      go_quiet (first | (go_at_call 51; with_reducible refine quietd_of (C1 _).out) | (go_at_call 50; first | (with_reducible refine quietd_same ((C2 _).out.mono fun _ _ h => ⟨h.1, h.2.symm⟩)) | (with_reducible refine quietd_same ((C3 _).out.mono fun _ _ h => ⟨h.1, h.2.symm⟩))))
      go_wp2_with fail
      exact ⟨⟨i, _, U, rfl, by omega, rfl, u0, u1, HO2, rfl⟩, by simp [intOf]⟩
    · obtain rfl : j = 0 := by omega
      have HE : Hid (O = pv l x % m) := by have := HO.out; rw [List.drop_zero] at this; exact this
      go_wp2_with fail
      go_ret
      exact ⟨ret_int HE.out, k, rfl⟩

/-- the derivative's numbers, left by m -/
def derM (l : List Int) (m : Int) : List Int := (derF 1 (l.drop 1)).map (· % m)
theorem derM_len (l : List Int) (m : Int) : (derM l m).length = l.length - 1 := by unfold derM; rw [List.length_map, derF_len, List.length_drop]
theorem derM_get {l : List Int} {m : Int} {i : Nat} {c : Int} (h : l[i + 1]? = some c) : (derM l m)[i]? = some (((i : Int) + 1) * c % m) := by
  unfold derM
  rw [List.getElem?_map, derF_get (l.drop 1) 1 i c (by rw [List.getElem?_drop, Nat.add_comm]; exact h)]
  simp [Int.add_comm]
theorem derM_fits {l : List Int} {m : Int} (hm : 0 < m) (hm2 : m ≤ 1000000000000000000) : fits (derM l m) := by
  intro c hc
  unfold derM at hc
  obtain ⟨d, _, rfl⟩ := List.mem_map.1 hc
  have h1 := Int.emod_nonneg d (b := m) (by omega)
  have h2 := Int.emod_lt_of_pos d hm
  show -9223372036854775808 ≤ d % m ∧ d % m ≤ 9223372036854775807
  omega
theorem one_new (W : World) (a : Value) (T : TypeId) : ∀ (j : Nat) (u : Value), [a][j]? = some u → (W.alloc (.cells #[a] T)).cell? ((⟨W.heap.size, 0, none⟩ : Addr).add j) = some u := by
  intro j u hu
  have hb : (W.alloc (.cells #[a] T)).heap[W.heap.size]? = some (.cells #[a] T (0, 0)) := by
    show (W.heap.push _)[W.heap.size]? = _
    simp
  generalize W.alloc (.cells #[a] T) = W2 at hb
  generalize W.heap.size = g at hb
  match j, hu with
  | 0, hu => simp at hu; subst hu; simp [World.cell?, Addr.add, hb]
theorem own_below {w w' : World} {base n : Nat} {v : Value} {xs : List Value} (h : w.ownsRow base 3 1 v n xs) (k : Below w.heap.size w w') : w'.ownsRow base 3 1 v n xs := by
  obtain ⟨h1, h2⟩ := h
  refine ⟨h1, ?_⟩
  rcases h2 with h2 | ⟨g, cap, cur, hv, hg, hh, r⟩
  · exact .inl h2
  · exact .inr ⟨g, cap, cur, hv, hg, (k.block g (heap_lt hh)).trans hh, r⟩
theorem own_base {w : World} {base n : Nat} {v : Value} {xs : List Value} (h : w.ownsRow base 3 1 v n xs) : ∀ k, v.ownBlock = some k → base ≤ k := fun k hk => (h.lt k hk).1
theorem take_more {l : List Int} {i : Nat} {c : Int} (h : l[i]? = some c) : l.take (i + 1) = l.take i ++ [c] := by
  obtain ⟨hi, rfl⟩ := List.getElem?_eq_some_iff.1 h
  exact List.take_succ_eq_append_getElem hi

def RetInts (w : World) (L : List Int) : Ending → World → Prop := fun e w' => ∃ (A : Option Addr) (c : Nat), e = .returned (.slice A L.length c) ∧ Ints w' w'.heap.size A L ∧ Below w.heap.size w w'

set_option maxRecDepth 100000 in
set_option maxHeartbeats 3200000 in
theorem derive_any (A : Option Addr) (n c : Nat) (l : List Int) (m : Int) (w : World) (hl : l.length = n) (hn : n ≤ 1000000) (hI : Ints w w.heap.size A l) (hf : fits l) (hm : 0 < m) (hm2 : m ≤ 1000000000000000000) :
    Calls Tryd.prog 48 #[.slice A n c, .int .i64 m] w (RetInts w (derM l m)) := by
  have HI := hide hI
  have HF := hide hf
  have HL := hide hl
  obtain ⟨i0, hi, hz0, hz1, hz2⟩ := info_parts iinfo
  have HO := hide (And.intro hi (And.intro hz0 (And.intro hz1 hz2)))
  have HDL := hide (derM_len l m)
  clear hI hf hl hi hz0 hz1 hz2
  go_enter Tryd.func48, Tryd.ntmps48
  go_wp2_with fail
  go_loopw [5, 6] (fun v i wr => ∃ j : Nat, i = .int .i64 ((j : Int) + 1) ∧ (j = 0 ∨ j + 1 ≤ n) ∧ Hid (wr.ownsRow w.heap.size 3 1 v j (((derM l m).take j).map (Value.int .i64))) ∧ Hid (Below w.heap.size w wr)) (fun _ i _ => n - (intOf i).toNat)
  case atStart => exact ⟨0, rfl, .inl rfl, ⟨rfl, .inl ⟨rfl, rfl⟩⟩, Below.refl _ _⟩
  case round =>
    obtain ⟨j, rfl, hj, HR, HB⟩ := hrel
    by_cases hjn : j + 1 < n
    · obtain ⟨ad, x, rfl, hx, hab, hac⟩ := HI.out.at_ (k := j + 1) (by rw [HL.out]; exact hjn)
      have hxb := HF.out x (List.mem_of_getElem? hx)
      have C1 := fun W => hide (times_any ((j : Int) + 1) x m W hm (by omega) (by omega) (by omega) (by omega) (by omega))
      have HG := hide (derM_get (m := m) hx)
      have hcell : wr.cell? ⟨ad.block, ad.off + (j + 1), none⟩ = some (.int .i64 x) := by
        rw [← addr_pos ad (j + 1) (by omega)]
        exact (HB.out.cell (p := ad.add (j + 1)) (by rw [add_block]; exact hab)).trans hac
      obtain ⟨Y, hY⟩ : ∃ Y, ((j : Int) + 1) * x % m = Y := ⟨_, rfl⟩
      rw [hY] at C1 HG
      have HT := hide (take_more HG.out)
      have q1 : decide ((j : Int) + 1 < (n : Int)) = true := by rw [decide_eq_true_eq]; omega
      clear hY hx hac
      go_wp2_with fail
      refine (C1 _).out.mono ?_
      rintro e w1 ⟨rfl, k1, rfl⟩
      have HB2 := hide (below_drewN HB.out k1)
      have HR2 := hide (own_below HR.out (below_drewN (Below.refl _ _) k1))
      have HB3 := hide (HB2.out.alloc HB2.out.size (.cells #[.int .i64 Y] 3))
      have HR3 := hide (own_below HR2.out ((Below.refl _ _).alloc (Nat.le_refl _) (.cells #[.int .i64 Y] 3)))
      go_wp2_with (at_builtin; refine wpList_append_own _ rfl _ _ 22 rfl w.heap.size 3 i0 (.int .i64 0) 1 8 Tryd.underlying22 HO.out.1 HO.out.2.1 HO.out.2.2.1 HO.out.2.2.2 rfl (by decide) u5 _ _ rfl HR3.out ⟨wr.heap.size, 0, none⟩ 1 1 [.int .i64 Y] rfl rfl (one_new (wr.drewN k1) _ _) ?c2 ?c3 ?c4 ?c5 ?_)
      case c2 => intro u hu; simp at hu; subst hu; rfl
      case c3 => simp only [maxLen]; omega
      case c4 => omega
      case c5 => have := HB3.out.size; simp at this ⊢; omega
      intro v' w3 hown hg _
      have HR4 : Hid (w3.ownsRow w.heap.size 3 1 v' (j + 1) (((derM l m).take (j + 1)).map (Value.int .i64))) := by
        unfold Hid
        rw [HT.out, List.map_append, List.map_take]
        exact hown
      have HB4 : Hid (Below w.heap.size w w3) := HB3.out.grown hg HB3.out.size (own_base HR3.out)
      clear hown hg
      go_wp2_with fail
      exact ⟨⟨j + 1, by simp, .inr (by omega), HR4, HB4⟩, by simp [intOf]; omega⟩
    · have q1 : decide ((j : Int) + 1 < (n : Int)) = false := by rw [decide_eq_false_iff_not]; omega
      have HD : Hid ((derM l m).take j = derM l m ∧ j = (derM l m).length) := by
        have h1 := HDL.out
        rw [HL.out] at h1
        exact ⟨List.take_of_length_le (by omega), by omega⟩
      obtain ⟨A2, c2, rfl, hi2⟩ := Ints.of_own (by have := HR.out; rw [HD.out.1] at this; exact this) HD.out.2.symm
      have HI2 := hide hi2
      clear hi2
      go_wp2_with fail
      go_ret
      exact ⟨A2, c2, by rw [← HD.out.2]; rfl, HI2.out, HB.out⟩

/-- poly's word -/
def polF (l : List Int) : Int × Int := if 13 < l.length then (2, 2) else if l.all okB = true then (0, 0) else (3, 2)
theorem polF_many {l : List Int} (h : 13 < l.length) : polF l = (2, 2) := by unfold polF; rw [if_pos h]
theorem polF_ok {l : List Int} (h : ¬ 13 < l.length) (h2 : l.all okB = true) : polF l = (0, 0) := by unfold polF; rw [if_neg h, if_pos h2]
theorem polF_bad {l : List Int} (h : ¬ 13 < l.length) (h2 : l.all okB = false) : polF l = (3, 2) := by unfold polF; rw [if_neg h, if_neg (by rw [h2]; simp)]
theorem all_false {l : List Int} {x : Int} (h : x ∈ l) (hx : okB x = false) : l.all okB = false := by
  rw [List.all_eq_false]; exact ⟨x, h, by rw [hx]; simp⟩

set_option maxRecDepth 100000 in
set_option maxHeartbeats 3200000 in
theorem poly_any (A : Option Addr) (n c : Nat) (l : List Int) (w : World) (hl : l.length = n) (hn : n ≤ 140737488351232) (hI : Ints w w.heap.size A l) :
    Calls Tryd.prog 45 #[.slice A n c] w (RetFault w (polF l)) := by
  have HL := hide hl
  by_cases h : 13 < n
  · have HE := hide (polF_many (l := l) (by rw [hl]; exact h))
    have C := fun W => hide (pfault_any 2 2 W)
    have q1 : decide ((13 : Int) < (n : Int)) = true := by rw [decide_eq_true_eq]; omega
    clear hI hl h
    go_enter Tryd.func45, Tryd.ntmps45
    go_wp2_with fail
    refine (C _).out.mono ?_
    rintro e w1 ⟨rfl, hb⟩
    have F1 := (FC.fresh w).below hb
    obtain ⟨d0, d1, f0, f1⟩ := F1.cells
    obtain ⟨p0, p1⟩ := F1.put 2 2
    have HB2 := hide (below_fault (u := .int .i64 2) (v := .int .i64 2) (below_new hb) (Nat.le_refl w.heap.size))
    clear hb F1
    go_wp2_with fail
    exact bodyPost_ret (v := fv (2, 2)) (by simp [results, Tryd.results45, go_sem, fv, p0, p1]) rfl ⟨by rw [HE.out], HB2.out⟩
  · have HI := hide (hI.below (bel_fz w) (Nat.le_refl _))
    have HN := hide (show ¬ 13 < l.length from by rw [hl]; exact h)
    have q1 : decide ((13 : Int) < (n : Int)) = false := by rw [decide_eq_false_iff_not]; omega
    have hn13 : n ≤ 13 := by omega
    clear hI hl h hn
    go_enter Tryd.func45, Tryd.ntmps45
    go_wp2_with fail
    go_loopw [4, 11] (fun _ i wr => ∃ j : Nat, i = .int .i64 j ∧ j ≤ n ∧ Hid ((l.take j).all okB = true) ∧ wr = w.alloc (.cells #[.int .i64 0, .int .i64 0] 24)) (fun _ i _ => n - (intOf i).toNat)
    case atStart => exact ⟨0, rfl, by omega, rfl, rfl⟩
    case round =>
      obtain ⟨j, rfl, hj, HA, rfl⟩ := hrel
      by_cases hjn : j < n
      · obtain ⟨ad, x, rfl, hx, hab, hac⟩ := HI.out.at_ (k := j) (by rw [HL.out]; exact hjn)
        have CO := fun W => hide (ok_any x W)
        have HX := hide hx
        clear hx
        cases ho : okB x
        · rw [ho] at CO
          have HE := hide (polF_bad HN.out (all_false (List.mem_of_getElem? HX.out) ho))
          have C := fun W => hide (pfault_any 3 2 W)
          clear ho
          go_wp2_with fail
          refine (CO _).out.mono ?_
          rintro e w1 ⟨rfl, rfl⟩
          go_wp2_with fail
          refine (C _).out.mono ?_
          rintro e w1 ⟨rfl, hb⟩
          have F1 := (FC.fresh w).below hb
          obtain ⟨d0, d1, f0, f1⟩ := F1.cells
          obtain ⟨p0, p1⟩ := F1.put 3 2
          have HB2 := hide (below_fault (u := .int .i64 3) (v := .int .i64 2) (below_new hb) (Nat.le_refl w.heap.size))
          clear hb F1
          go_wp2_with fail
          exact bodyPost_ret (v := fv (3, 2)) (by simp [results, Tryd.results45, go_sem, fv, p0, p1]) rfl ⟨by rw [HE.out], HB2.out⟩
        · rw [ho] at CO
          have HA2 : Hid ((l.take (j + 1)).all okB = true) := by
            unfold Hid
            rw [take_more HX.out, List.all_append, HA.out, List.all_cons, ho]; rfl
          clear ho
          go_wp2_with fail
          refine (CO _).out.mono ?_
          rintro e w1 ⟨rfl, rfl⟩
          go_wp2_with fail
          exact ⟨⟨j + 1, by simp, by omega, HA2, trivial⟩, by simp [intOf]; omega⟩
      · obtain rfl : j = n := by omega
        have HE : Hid (polF l = (0, 0)) := polF_ok HN.out (by have := HA.out; rw [List.take_of_length_le (by have := HL.out; omega)] at this; exact this)
        go_wp2_with fail
        exact bodyPost_ret (v := fv (0, 0)) (by simp [results, Tryd.results45, go_sem, fv]) rfl ⟨by rw [HE.out], by go_grown⟩
end Go.Proofs.YticgnjapgbjfiaaDoor
