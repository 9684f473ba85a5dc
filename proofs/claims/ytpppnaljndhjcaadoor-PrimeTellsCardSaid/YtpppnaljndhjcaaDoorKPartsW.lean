/- The walk of prime.Parts. Under the bound of the document's numbers. -/
import Derived.Test.YtpppnaljndhjcaaDoorKApart
import Derived.Test.YtpppnaljndhjcaaDoorKShelfS
import Derived.Sort.OwnSortedInts
import Derived.Deep.Onto
namespace Go.Proofs.YtpppnaljndhjcaaDoor
open Go.RowKit Go.Sort

/-- the cells of a list of powers -/
def pcs (l : List (Nat × Nat)) : List Value := l.flatMap fun x => [.int .i64 (x.1 : Nat), .int .i64 (x.2 : Nat)]
theorem pcs_app (l r : List (Nat × Nat)) : pcs (l ++ r) = pcs l ++ pcs r := by unfold pcs; rw [List.flatMap_append]
theorem pcs_one (x : Nat × Nat) : pcs [x] = [.int .i64 (x.1 : Nat), .int .i64 (x.2 : Nat)] := by simp [pcs]
theorem pcs_len (l : List (Nat × Nat)) : (pcs l).length = l.length * 2 := by
  induction l with
  | nil => rfl
  | cons x r ih =>
    have : pcs (x :: r) = pcs [x] ++ pcs r := pcs_app [x] r
    rw [this, List.length_append, ih, pcs_one]; simp; omega
theorem pcs_last (a : List (Nat × Nat)) (q t : Nat) : (pcs (a ++ [(q, t)]))[a.length * 2]? = some (.int .i64 (q : Nat)) ∧ (pcs (a ++ [(q, t)]))[a.length * 2 + 1]? = some (.int .i64 (t : Nat)) := by
  rw [pcs_app, pcs_one]
  constructor
  · rw [List.getElem?_append_right (by rw [pcs_len]; omega), pcs_len]; simp
  · rw [List.getElem?_append_right (by rw [pcs_len]; omega), pcs_len]; simp
theorem pcs_set (a : List (Nat × Nat)) (q t u : Nat) : (pcs (a ++ [(q, t)])).set (a.length * 2 + 1) (.int .i64 (u : Nat)) = pcs (a ++ [(q, u)]) := by
  rw [pcs_app, pcs_app, pcs_one, pcs_one, List.set_append_right _ _ (by rw [pcs_len]; omega), pcs_len]
  simp
theorem pinfo : (Tryd.prog.info? 38).map (fun i => (i.zero, i.size, i.bytes)) = some (some (.agg #[.int .i64 0, .int .i64 0]), 2, 16) := by kernel_rfl
/-- a slice of powers that a call has made -/
def PRow (w : World) (base : Nat) (v : Value) (l : List (Nat × Nat)) : Prop := w.ownsRow base 38 2 v l.length (pcs l)
theorem PRow.nil (w : World) (base : Nat) : PRow w base (.slice none 0 0) [] := ⟨rfl, .inl ⟨rfl, rfl⟩⟩
theorem PRow.form {w : World} {base : Nat} {v : Value} {l : List (Nat × Nat)} (h : PRow w base v l) : ∃ A c, v = .slice A l.length c := by
  rcases h.2 with ⟨rfl, h0⟩ | ⟨g, cap, cur, rfl, _⟩
  · exact ⟨none, 0, by rw [h0]⟩
  · exact ⟨_, _, rfl⟩
theorem PRow.form1 {w : World} {base : Nat} {v : Value} {a : List (Nat × Nat)} {x : Nat × Nat} (h : PRow w base v (a ++ [x])) : ∃ g c, v = .slice (some ⟨g, 0, none⟩) (a.length + 1) c ∧ base ≤ g := by
  rcases h.2 with ⟨rfl, h0⟩ | ⟨g, cap, cur, rfl, hg, _⟩
  · simp at h0
  · exact ⟨g, cap, by simp, hg⟩
theorem PRow.below {w w' : World} {base : Nat} {v : Value} {l : List (Nat × Nat)} (h : PRow w base v l) (k : Below w.heap.size w w') : PRow w' base v l :=
  World.ownsRow.kept h (⟨k.os, k.tape, k.output, k.size, fun i hi _ => k.block i hi⟩ : w.grownBy w' none) (by
    cases hv : v.ownBlock with
    | none => exact .inl rfl
    | some b => exact .inr (by simp))
theorem two_new (W : World) (a b : Value) (T : TypeId) : ∀ (j : Nat) (u : Value), [a, b][j]? = some u → (W.alloc (.cells #[a, b] T)).cell? ((⟨W.heap.size, 0, none⟩ : Addr).add j) = some u := by
  intro j u hu
  have hb : (W.alloc (.cells #[a, b] T)).heap[W.heap.size]? = some (.cells #[a, b] T (0, 0)) := by
    show (W.heap.push _)[W.heap.size]? = _
    simp
  generalize W.alloc (.cells #[a, b] T) = W2 at hb
  generalize W.heap.size = g at hb
  match j, hu with
  | 0, hu => simp at hu; subst hu; simp [World.cell?, Addr.add, hb]
  | 1, hu => simp at hu; subst hu; simp [World.cell?, Addr.add, hb]

def PInv (N P Q m : Nat) (L : List Nat) : Prop := noDiv m P ∧ prod L * m = N ∧ (∀ q ∈ L, Pr q ∧ q < Q) ∧ Rise L
theorem rise_app {L : List Nat} {p : Nat} (h : Rise L) (hp : ∀ q ∈ L, q ≤ p) : Rise (L ++ [p]) := by
  induction L with
  | nil => exact ⟨fun q hq => by simp at hq, trivial⟩
  | cons a r ih =>
    refine ⟨fun q hq => ?_, ih h.2 fun q hq => hp q (List.mem_cons_of_mem _ hq)⟩
    rcases List.mem_append.1 hq with h1 | h1
    · exact h.1 q h1
    · simp at h1; subst h1; exact hp a (List.mem_cons_self ..)
theorem PInv.take {N P m : Nat} {L : List Nat} (h2 : 2 ≤ P) (h : PInv N P (P + 1) m L) (hm : m % P = 0) (h1 : 1 ≤ m) : PInv N P (P + 1) (m / P) (L ++ [P]) ∧ 1 ≤ m / P ∧ m / P < m := by
  obtain ⟨a, b, c, d⟩ := h
  have hd := Nat.dvd_of_mod_eq_zero hm
  obtain ⟨e, he⟩ := hd
  have hP : Pr P := ⟨h2, fun x hx => by
    rcases Nat.lt_or_ge x 2 with h3 | h3
    · have : x ≠ 0 := fun h0 => by subst h0; have := Nat.eq_zero_of_zero_dvd hx; omega
      exact .inl (by omega)
    · rcases Nat.lt_or_ge x P with h4 | h4
      · exact (a x h3 h4 (Nat.dvd_trans hx ⟨e, he⟩)).elim
      · exact .inr (Nat.le_antisymm (Nat.le_of_dvd (by omega) hx) h4)⟩
  have hq : m / P = e := by rw [he]; exact Nat.mul_div_cancel_left e (by omega)
  rw [hq]
  have he0 : 1 ≤ e := by
    rcases Nat.eq_zero_or_pos e with h0 | h0
    · rw [h0] at he; simp at he; omega
    · exact h0
  refine ⟨⟨noDiv_dvd a ⟨P, by rw [he, Nat.mul_comm]⟩, ?_, ?_, rise_app d fun q hq => by have := (c q hq).2; omega⟩, he0, ?_⟩
  · rw [prod_app, ← b, he]; simp [prod, Nat.mul_assoc]
  · intro q hq
    rcases List.mem_append.1 hq with h3 | h3
    · exact c q h3
    · simp at h3; subst h3; exact ⟨hP, by omega⟩
  · have := Nat.mul_le_mul h2 (Nat.le_refl e); omega
theorem PInv.next {N P m : Nat} {L : List Nat} (h : PInv N P (P + 1) m L) (hm : m % P ≠ 0) : PInv N (P + 1) (P + 1) m L := ⟨noDiv_next h.1 hm, h.2.1, h.2.2.1, h.2.2.2⟩
theorem PInv.in {N P m : Nat} {L : List Nat} (h : PInv N P P m L) : PInv N P (P + 1) m L := ⟨h.1, h.2.1, fun q hq => ⟨(h.2.2.1 q hq).1, by have := (h.2.2.1 q hq).2; omega⟩, h.2.2.2⟩
theorem PInv.len {N P Q m : Nat} {L : List Nat} (h : PInv N P Q m L) (hm : 1 ≤ m) (hN : N ≤ 1000000000000000000) : 2 ^ L.length * m ≤ N ∧ L.length ≤ 60 := by
  obtain ⟨_, b, c, _⟩ := h
  have h1 : ∀ L : List Nat, (∀ q ∈ L, 2 ≤ q) → 2 ^ L.length ≤ prod L := by
    intro L
    induction L with
    | nil => intro _; simp [prod]
    | cons p r ih =>
      intro h
      rw [List.length_cons, Nat.pow_succ, prod, Nat.mul_comm]
      exact Nat.mul_le_mul (h p (List.mem_cons_self ..)) (ih fun q hq => h q (List.mem_cons_of_mem _ hq))
  have h2 := h1 L fun q hq => (c q hq).1.1
  have h3 : 2 ^ L.length * m ≤ N := by rw [← b]; exact Nat.mul_le_mul_right _ h2
  exact ⟨h3, pw_le (p := 2) (n := N) (by omega) (Nat.le_trans (Nat.le_mul_of_pos_right _ hm) h3) hN⟩

/-- Parts' word: the powers out of a rising list of what the program takes for primes -/
def RetParts (w : World) (N : Nat) : Ending → World → Prop := fun e w' => ∃ (v : Value) (S : List Nat), e = .returned v ∧ Rise S ∧ Told0 N S ∧ PRow w' w.heap.size v (grp S) ∧ Below w.heap.size w w'

set_option maxRecDepth 100000 in
set_option maxHeartbeats 6400000 in
theorem parts_any (N : Nat) (w : World) (h1 : 1 ≤ N) (h2 : N ≤ 1000000000000000000) (hT : TabW w) : Calls Tryd.prog 23 #[.int .i64 N] w (RetParts w N) := by
  have HT := hide hT
  have U := Tryd.underlying32
  obtain ⟨i0, hi, hz0, hz1, hz2⟩ := info_parts iinfo
  have HI := hide (And.intro hi (And.intro hz0 (And.intro hz1 hz2)))
  clear hi hz0 hz1 hz2
  have U2 := Tryd.underlying33
  obtain ⟨i1, hi, hz0, hz1, hz2⟩ := info_parts pinfo
  have HJ := hide (And.intro hi (And.intro hz0 (And.intro hz1 hz2)))
  clear hT hi hz0 hz1 hz2
  go_enter Tryd.func23, Tryd.ntmps23
  go_wp2_with fail
  go_loopw [0, 3, 4] (fun a v y wr => ∃ (P m : Nat) (L : List Nat), a = .int .i64 m ∧ y = .int .i64 P ∧ 2 ≤ P ∧ P ≤ 1000 ∧ 1 ≤ m ∧ m ≤ N ∧ Hid (PInv N P P m L) ∧ Hid (Row wr w.heap.size v L) ∧ Hid (Below w.heap.size w wr)) (fun _ _ y _ => 1000 - (intOf y).toNat)
  case atStart => exact ⟨2, N, [], rfl, rfl, by omega, by omega, h1, Nat.le_refl _, ⟨noDiv_two N, by simp [prod], fun q hq => by simp at hq, trivial⟩, Row.nil _ _, Below.refl _ _⟩
  case round =>
    obtain ⟨P, m, L, rfl, rfl, hP2, hP3, hm1, hm2, HP, HR, HB⟩ := hrel
    by_cases hP : P < 1000
    · as_aux_lemma =>
      have HP1 := hide (PInv.in HP.out)
      have qP : decide ((P : Int) < 1000) = true := by rw [decide_eq_true_eq]; omega
      have hP9 : P ≤ 999 := by omega
      clear hP hP3
      go_wp2_with fail
      go_loopg [0, 3] m (fun J a v wr => ∃ (m : Nat) (L : List Nat), J = m ∧ a = .int .i64 m ∧ 1 ≤ m ∧ m ≤ N ∧ Hid (PInv N P (P + 1) m L) ∧ Hid (Row wr w.heap.size v L) ∧ Hid (Below w.heap.size w wr))
      case atStart => exact ⟨m, L, rfl, rfl, hm1, hm2, HP1, HR, HB⟩
      case round =>
        clear HP HR HB HP1 hm1 hm2
        obtain ⟨m, L, hJ, rfl, hm1, hm2, HP, HR, HB⟩ := hrel
        have e1 : (m : Int).tmod (P : Int) = ((m % P : Nat) : Int) := by rw [Int.tmod_eq_emod_of_nonneg (by omega), Int.natCast_emod]
        have hP0 : ¬ (P : Int) = 0 := by omega
        by_cases hr : m % P = 0
        · have hl := (PInv.len HP.out hm1 h2).2
          have ht := PInv.take hP2 HP.out hr hm1
          have HP2 := hide ht.1
          have hq1 := ht.2.1
          have hq2 := ht.2.2
          have e2 : (m : Int).tdiv (P : Int) = ((m / P : Nat) : Int) := by rw [Int.tdiv_eq_ediv_of_nonneg (by omega), Int.natCast_ediv]
          rw [hr] at e1
          obtain ⟨m2, hm3⟩ : ∃ m2, m / P = m2 := ⟨_, rfl⟩
          rw [hm3] at e2 HP2 hq1 hq2
          have HR1 := hide (HR.out.below ((Below.refl _ _).alloc (Nat.le_refl _) (.cells #[.int .i64 P] 3)))
          have HB1 := hide (HB.out.alloc HB.out.size (.cells #[.int .i64 P] 3))
          clear ht hr hm3
          go_wp2_with (at_builtin; refine wpList_append_own _ rfl _ _ 32 rfl w.heap.size 3 i0 (.int .i64 0) 1 8 U HI.out.1 HI.out.2.1 HI.out.2.2.1 HI.out.2.2.2 rfl (by decide) u3 _ _ rfl HR1.out ⟨wr.heap.size, 0, none⟩ 1 1 [.int .i64 P] rfl rfl (one_new wr _ _) ?c2 ?c3 ?c4 ?c5 ?_)
          case c2 => intro u hu; simp at hu; subst hu; rfl
          case c3 => simp only [maxLen]; omega
          case c4 => omega
          case c5 => have := HB.out.size; simp; omega
          intro v' w5 hown hg5 _
          have HF : Hid (Row w5 w.heap.size v' (L ++ [P])) := by
            unfold Hid Row
            rw [List.map_append, List.length_append]
            exact hown
          have B5 : Hid (Below w.heap.size w w5) := HB1.out.grown hg5 HB1.out.size (fun k hk => HR1.out.base k hk)
          clear hown hg5
          go_wp2_with fail
          go_roundg m2
          case measure => omega
          case rel => exact ⟨m2, _, rfl, rfl, hq1, by omega, HP2, HF, B5⟩
        · have q1 : (((m % P : Nat) : Int) == 0) = false := by simp; omega
          have HP2 := hide (PInv.next HP.out hr)
          obtain ⟨R, hR⟩ : ∃ R, m % P = R := ⟨_, rfl⟩
          rw [hR] at e1 q1
          clear hr hR
          go_wp2_with fail
          exact ⟨⟨P + 1, m, L, rfl, by simp, by omega, by omega, hm1, hm2, HP2, HR, HB⟩, by simp [intOf]; omega⟩
    · as_aux_lemma =>
      obtain rfl : P = 1000 := by omega
      have hln := PInv.len HP.out hm1 h2
      have CA := hide (apart_any 60 (by omega) m wr w.heap.size _ L hm1 (by omega) HP.out.1 (HT.out.below HB.out) HT.out.2 HB.out.size HR.out (Nat.le_trans hln.1 (Nat.le_trans h2 (by decide))))
      clear hln
      go_wp2_with fail
      refine CA.out.mono ?_
      rintro e w3 ⟨v3, M, rfl, hM, hrow, hb3⟩
      have HTL : Hid (Told0 N (L ++ M)) := by
        have hp := HP.out
        refine ⟨by rw [prod_app, hM.1]; exact hp.2.1, fun p hp1 => ?_⟩
        rcases List.mem_append.1 hp1 with h | h
        · have := (hp.2.2.1 p h).1
          have hle : p < 1000 := (hp.2.2.1 p h).2
          exact ⟨this.1, this.isB (by omega)⟩
        · exact hM.2 p h
      have hlen : (L ++ M).length ≤ 1000 := by
        have := told_len HTL.out
        have := pw_le (p := 2) (t := (L ++ M).length) (n := N) (by omega) this h2
        omega
      have HB3 := hide (HB.out.trans hb3)
      have CS := hide (sort_row w3 w.heap.size v3 (L ++ M) HB3.out.size hlen hrow)
      clear hM hrow hb3 CA HP HR HB
      go_wp2_with fail
      refine CS.out.mono ?_
      rintro e w4 ⟨rfl, S, hS1, hS2, hS3, hb4⟩
      have HTS : Hid (Told0 N S) := ⟨by rw [prod_perm hS2]; exact HTL.out.1, fun p hp => HTL.out.2 p (hS2.mem_iff.1 hp)⟩
      have hSl : S.length ≤ 60 := pw_le (p := 2) (n := N) (by omega) (told_len HTS.out) h2
      have HRS := hide hS1
      have HB4 := hide (HB3.out.trans hb4)
      have hS3' : w4.ownsRow w.heap.size 3 1 v3 S.length ((S.map fun p => ((p : Nat) : Int)).map (Value.int .i64)) := by rw [← map_cast]; exact hS3
      obtain ⟨A, c, rfl, hIS⟩ := Ints.of_own hS3' (by simp)
      have HIS := hide hIS
      clear hS1 hS2 hS3 hS3' hIS hb4 CS HB3 HTL
      go_wp2_with fail
      go_loopg [5, 31] S.length (fun J o i wr => ∃ j : Nat, J = S.length - j ∧ i = .int .i64 j ∧ j ≤ S.length ∧ Hid (PRow wr w4.heap.size o (grp (S.take j))) ∧ Hid (Below w4.heap.size w4 wr))
      case atStart => exact ⟨0, by omega, rfl, by omega, PRow.nil _ _, Below.refl _ _⟩
      case round =>
        obtain ⟨j, hJ, rfl, hj, HPR, HBW⟩ := hrel
        by_cases hjS : j < S.length
        · obtain ⟨ad, x, rfl, hx, hab, hac⟩ := HIS.out.at_ (k := j) (by simpa using hjS)
          obtain ⟨p, hp, rfl⟩ : ∃ p : Nat, S[j]? = some p ∧ x = (p : Int) := by
            rw [List.getElem?_map] at hx
            cases hs : S[j]? with
            | none => rw [hs] at hx; cases hx
            | some p => rw [hs] at hx; injection hx with hx; exact ⟨p, rfl, hx.symm⟩
          have c1 := (HBW.out.cell (p := ad.add j) (by rw [add_block]; exact hab)).trans hac
          have HG := hide (grp_take hp)
          obtain ⟨O, hO⟩ : ∃ O, grp (S.take j) = O := ⟨_, rfl⟩
          rw [hO] at HPR HG
          have hsm := grp_small (L := S) j hj
          rw [hO] at hsm
          have hOl : O.length ≤ 60 := by omega
          clear hx hac hO
          obtain ⟨A2, c2, hform⟩ := HPR.out.form
          subst hform
          rcases last_form O with rfl | ⟨a, ⟨q, t⟩, rfl⟩
          · have HGN : Hid (grp (S.take (j + 1)) = [(p, 1)]) := by unfold Hid; rw [HG.out]; rfl
            have HP1 := hide (HPR.out.below ((Below.refl _ _).alloc (Nat.le_refl _) (.cells #[.int .i64 p, .int .i64 1] 38)))
            have HB1 := hide (HBW.out.alloc HBW.out.size (.cells #[.int .i64 p, .int .i64 1] 38))
            go_wp2_with (at_builtin; refine wpList_append_own _ rfl _ _ 33 rfl w4.heap.size 38 i1 (.agg #[.int .i64 0, .int .i64 0]) 2 16 U2 HJ.out.1 HJ.out.2.1 HJ.out.2.2.1 HJ.out.2.2.2 rfl (by decide) _ _ _ rfl HP1.out ⟨wr.heap.size, 0, none⟩ 1 1 [.int .i64 p, .int .i64 1] rfl rfl (two_new wr _ _ _) ?c2 ?c3 ?c4 ?c5 ?_)
            case c2 => intro u hu; simp at hu; rcases hu with rfl | rfl <;> rfl
            case c3 => simp only [maxLen, List.length_nil]; omega
            case c4 => omega
            case c5 => have := HBW.out.size; simp; omega
            intro v' w5 hown hg5 _
            have HF : Hid (PRow w5 w4.heap.size v' (grp (S.take (j + 1)))) := by rw [HGN.out]; exact hown
            have B5 : Hid (Below w4.heap.size w4 w5) := HB1.out.grown hg5 HB1.out.size (fun k hk => (World.ownsRow.lt HP1.out k hk).1)
            clear hown hg5
            go_wp2_with fail
            go_roundg (S.length - (j + 1))
            case measure => omega
            case rel => exact ⟨j + 1, rfl, by simp, by omega, HF, B5⟩
          · obtain ⟨g, c3, hform, hg⟩ := HPR.out.form1
            rw [hform] at HPR ⊢
            have hlen : (a ++ [(q, t)]).length = a.length + 1 := by simp
            have HC : ∀ i, i < (a.length + 1) * 2 → wr.cell? ⟨g, i, none⟩ = (pcs (a ++ [(q, t)]))[i]? := fun i hi => World.ownsRow.cellAt (by have := HPR.out; unfold PRow at this; rw [hlen] at this; exact this) i hi
            have cq := (HC (a.length * 2) (by omega)).trans (pcs_last a q t).1
            have ct := (HC (a.length * 2 + 1) (by omega)).trans (pcs_last a q t).2
            have hOl2 : a.length + 1 ≤ 60 := by rw [hlen] at hOl; exact hOl
            have ht60 : t ≤ 60 := by have := hsm.2 (q, t) (by simp); simp at this; omega
            have fz : wr.frozen? ⟨g, a.length * 2 + 1, none⟩ = false := World.ownsRow.frozenAt (by have := HPR.out; unfold PRow at this; rw [hlen] at this; exact this) _
            have HST := hide (World.ownsRow.stored (by have := HPR.out; unfold PRow at this; rw [hlen] at this; exact this) (a.length * 2 + 1) (.int .i64 ((t + 1 : Nat) : Int)))
            rw [pcs_set] at HST
            clear HC hform hlen hsm hOl
            by_cases hqp : q = p
            · subst hqp
              have HF : Hid (PRow (wr.setCell ⟨g, a.length * 2 + 1, none⟩ (.int .i64 ((t : Int) + 1))) w4.heap.size (.slice (some ⟨g, 0, none⟩) (a.length + 1) c3) (grp (S.take (j + 1)))) := by
                have h := HST.out.1
                rw [HG.out, grpS_same]
                unfold Hid PRow
                rw [show (a ++ [(q, t + 1)]).length = a.length + 1 from by simp]
                exact h
              have B5 : Hid (Below w4.heap.size w4 (wr.setCell ⟨g, a.length * 2 + 1, none⟩ (.int .i64 ((t : Int) + 1)))) := HBW.out.setCell (p := ⟨g, a.length * 2 + 1, none⟩) hg _
              go_wp2_with fail
              go_roundg (S.length - (j + 1))
              case measure => omega
              case rel => exact ⟨j + 1, rfl, by simp, by omega, HF, B5⟩
            · have q1 : ((q : Int) == (p : Int)) = false := by simp; omega
              have HGN : Hid (grp (S.take (j + 1)) = a ++ [(q, t)] ++ [(p, 1)]) := by unfold Hid; rw [HG.out, grpS_new hqp]
              have HP1 := hide (HPR.out.below ((Below.refl _ _).alloc (Nat.le_refl _) (.cells #[.int .i64 p, .int .i64 1] 38)))
              have HB1 := hide (HBW.out.alloc HBW.out.size (.cells #[.int .i64 p, .int .i64 1] 38))
              clear hqp
              go_wp2_with (at_builtin; refine wpList_append_own _ rfl _ _ 33 rfl w4.heap.size 38 i1 (.agg #[.int .i64 0, .int .i64 0]) 2 16 U2 HJ.out.1 HJ.out.2.1 HJ.out.2.2.1 HJ.out.2.2.2 rfl (by decide) _ _ _ rfl HP1.out ⟨wr.heap.size, 0, none⟩ 1 1 [.int .i64 p, .int .i64 1] rfl rfl (two_new wr _ _ _) ?d2 ?d3 ?d4 ?d5 ?_)
              case d2 => intro u hu; simp at hu; rcases hu with rfl | rfl <;> rfl
              case d3 => (try simp only [List.length_append, List.length_cons, List.length_nil]); simp only [maxLen]; omega
              case d4 => (try simp only [List.length_append, List.length_cons, List.length_nil]); omega
              case d5 => have := HBW.out.size; simp; omega
              intro v' w5 hown hg5 _
              have HF : Hid (PRow w5 w4.heap.size v' (grp (S.take (j + 1)))) := by
                rw [HGN.out]
                unfold Hid PRow
                rw [pcs_app _ [(p, 1)], pcs_one, List.length_append, List.length_append]
                exact hown
              have B5 : Hid (Below w4.heap.size w4 w5) := HB1.out.grown hg5 HB1.out.size (fun k hk => (World.ownsRow.lt HP1.out k hk).1)
              clear hown hg5
              go_wp2_with fail
              go_roundg (S.length - (j + 1))
              case measure => omega
              case rel => exact ⟨j + 1, rfl, by simp, by omega, HF, B5⟩
        · go_wp2_with fail
          go_ret
          obtain rfl : j = S.length := by omega
          refine ⟨_, S, rfl, HRS.out, HTS.out, ?_, HB4.out.trans (HBW.out.mono HB4.out.size)⟩
          have := HPR.out
          rw [List.take_length] at this
          exact World.ownsRow.mono this HB4.out.size
end Go.Proofs.YtpppnaljndhjcaaDoor
