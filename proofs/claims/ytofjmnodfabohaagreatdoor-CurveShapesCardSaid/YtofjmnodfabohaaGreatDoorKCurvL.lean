/- The points of a curve as a list: each once, in order, and no other; what their number does (plain). -/
import Derived.Test.YtofjmnodfabohaaGreatDoorKCurvQ
namespace Go.Proofs.YtofjmnodfabohaaGreatDoor
open CV

theorem mem_roots {p v y : Nat} : y ∈ rootsL p p v ↔ y < p ∧ y * y % p = v := by
  unfold rootsL
  rw [List.mem_filter, List.mem_range, decide_eq_true_eq]
theorem mem_row {p : Nat} (h0 : 0 < p) {a b : Int} {x : Nat} {P : CP} (hx : x < p) : P ∈ rowP p a b x ↔ P.far = false ∧ P.x = (x : Int) ∧ okC p a b P := by
  unfold rowP
  rw [List.mem_map]
  have hv0 := Int.emod_nonneg ((x : Int) * x * x + a * x + b) (show (p : Int) ≠ 0 by omega)
  constructor
  · rintro ⟨y, hy, rfl⟩
    rw [mem_roots] at hy
    refine ⟨rfl, rfl, ?_⟩
    unfold okC
    rw [if_neg (by simp)]
    refine ⟨⟨by show (0 : Int) ≤ (x : Int); omega, by show (x : Int) < p; omega⟩, ⟨by show (0 : Int) ≤ (y : Int); omega, by show (y : Int) < p; omega⟩, ?_⟩
    show (y : Int) * (y : Int) % p = ((x : Int) * x * x + a * x + b) % p
    rw [← Int.toNat_of_nonneg hv0, ← hy.2]
    simp
  · rintro ⟨hf, hx', hok⟩
    obtain ⟨_, h2, h3⟩ := hok.near hf
    refine ⟨P.y.toNat, ?_, ?_⟩
    · rw [mem_roots]
      refine ⟨by omega, ?_⟩
      rw [hx'] at h3
      have e : ((P.y.toNat * P.y.toNat % p : Nat) : Int) = P.y * P.y % p := by
        rw [Int.natCast_emod, Int.natCast_mul, Int.toNat_of_nonneg h2.1]
      omega
    · obtain ⟨X, Y, f⟩ := P
      simp only at hf hx' h2
      subst hf hx'
      rw [Int.toNat_of_nonneg h2.1]
theorem mem_pts {p : Nat} (h0 : 0 < p) {a b : Int} {P : CP} : P ∈ ptsC p a b ↔ okC p a b P := by
  unfold ptsC ptsN
  rw [List.mem_cons, List.mem_flatMap]
  constructor
  · rintro (rfl | ⟨x, hx, hP⟩)
    · exact okC_far
    · exact ((mem_row h0 (List.mem_range.1 hx)).1 hP).2.2
  · intro h
    cases hf : P.far
    · obtain ⟨h1, _⟩ := h.near hf
      refine .inr ⟨P.x.toNat, List.mem_range.2 (by omega), (mem_row h0 (by omega)).2 ⟨hf, by rw [Int.toNat_of_nonneg h1.1], h⟩⟩
    · exact .inl (h.isfar hf)
/-- the order of points -/
def ltC (P Q : CP) : Prop := (P.far = true ∧ Q.far = false) ∨ (P.far = false ∧ Q.far = false ∧ (P.x < Q.x ∨ P.x = Q.x ∧ P.y < Q.y))
theorem pts_sorted {p : Nat} (h0 : 0 < p) (a b : Int) : (ptsC p a b).Pairwise ltC := by
  unfold ptsC ptsN
  rw [List.pairwise_cons]
  refine ⟨fun Q hQ => ?_, ?_⟩
  · obtain ⟨x, hx, hQ⟩ := List.mem_flatMap.1 hQ
    exact .inl ⟨rfl, ((mem_row h0 (List.mem_range.1 hx)).1 hQ).1⟩
  · rw [List.pairwise_flatMap]
    refine ⟨fun x _ => ?_, ?_⟩
    · unfold rowP
      rw [List.pairwise_map]
      unfold rootsL
      refine List.Pairwise.imp (R := fun a b : Nat => a < b) (fun {u v} h => .inr ⟨rfl, rfl, .inr ⟨rfl, ?_⟩⟩) (List.Pairwise.filter _ List.pairwise_lt_range)
      show (u : Int) < (v : Int)
      omega
    · refine List.Pairwise.imp_of_mem ?_ (List.pairwise_lt_range (n := p))
      intro u v hu hv h P hP Q hQ
      obtain ⟨p1, p2, _⟩ := (mem_row h0 (List.mem_range.1 hu)).1 hP
      obtain ⟨q1, q2, _⟩ := (mem_row h0 (List.mem_range.1 hv)).1 hQ
      exact .inr ⟨p1, q1, .inl (by omega)⟩
theorem pts_nodup {p : Nat} (h0 : 0 < p) (a b : Int) : (ptsC p a b).Nodup := by
  rw [List.nodup_iff_pairwise_ne]
  refine List.Pairwise.imp ?_ (pts_sorted h0 a b)
  rintro P Q h rfl
  rcases h with ⟨h1, h2⟩ | ⟨_, _, h | ⟨_, h⟩⟩
  · rw [h1] at h2
    cases h2
  · omega
  · omega
theorem pts_len (p : Nat) (a b : Int) : (ptsC p a b).length ≤ 1 + p * p := ptsN_len p a b p
theorem pts_pos (p : Nat) (a b : Int) : 1 ≤ (ptsC p a b).length := by simp [ptsC, ptsN]
/-- as often as there are points -/
theorem pts_whole {p : Nat} {a b : Int} (h : OkCv p a b) {P : CP} (hP : okC p a b P) : mulC p a (ptsC p a b).length P = farC := by
  have h0 : 0 < p := by have := h.p1; omega
  exact (cgroup h).whole (pts_nodup h0 a b) (fun x => mem_pts h0) hP
theorem ord_ex' {p : Nat} {a b : Int} (h : OkCv p a b) {P : CP} (hP : okC p a b P) : ∃ n, IsOrd (addC p a) farC P n := ord_ex _ (pts_pos p a b) (pts_whole h hP)
theorem ord_le {p : Nat} {a b : Int} (h : OkCv p a b) {P : CP} (hP : okC p a b P) {n : Nat} (hn : IsOrd (addC p a) farC P n) : n ≤ (ptsC p a b).length := Nat.le_of_dvd (pts_pos p a b) ((cgroup h).ord_dvd hP hn (pts_whole h hP))
/-- the greatest order -/
def MaxOrd (p : Nat) (a b : Int) (m : Nat) : Prop := (∃ P ∈ ptsC p a b, IsOrd (addC p a) farC P m) ∧ ∀ P ∈ ptsC p a b, ∀ k, IsOrd (addC p a) farC P k → k ≤ m
theorem max_511 {m : Nat} (h : MaxOrd 5 1 1 m) (hc : OkCv 5 1 1) : (ptsC 5 1 1).length = 9 ∧ m = 9 := by
  have hl : (ptsC 5 1 1).length = 9 := by decide +kernel
  refine ⟨hl, ?_⟩
  have hQ : (⟨0, 1, false⟩ : CP) ∈ ptsC 5 1 1 := by decide +kernel
  have hok : okC 5 1 1 ⟨0, 1, false⟩ := (mem_pts (by omega)).1 hQ
  have ho : IsOrd (addC 5 1) farC ⟨0, 1, false⟩ 9 := ⟨by omega, by decide +kernel, fun k h1 h2 => by
    have hd : ∀ k ∈ List.range 9, 1 ≤ k → nm (addC 5 1) farC k ⟨0, 1, false⟩ ≠ farC := by decide +kernel
    exact hd k (List.mem_range.2 h2) h1⟩
  have h1 := h.2 _ hQ 9 ho
  obtain ⟨P, hP, hm⟩ := h.1
  have h2 := ord_le (p := 5) hc ((mem_pts (by omega)).1 hP) hm
  omega
theorem max_702 {m : Nat} (h : MaxOrd 7 0 2 m) : (ptsC 7 0 2).length = 9 ∧ m = 3 := by
  have hl : (ptsC 7 0 2).length = 9 := by decide +kernel
  refine ⟨hl, ?_⟩
  have hQ : (⟨0, 3, false⟩ : CP) ∈ ptsC 7 0 2 := by decide +kernel
  have ho : IsOrd (addC 7 0) farC ⟨0, 3, false⟩ 3 := ⟨by omega, by decide +kernel, fun k h1 h2 => by
    have hd : ∀ k ∈ List.range 3, 1 ≤ k → nm (addC 7 0) farC k ⟨0, 3, false⟩ ≠ farC := by decide +kernel
    exact hd k (List.mem_range.2 h2) h1⟩
  have h1 := h.2 _ hQ 3 ho
  obtain ⟨P, hP, hm⟩ := h.1
  have h3 : ∀ P ∈ ptsC 7 0 2, nm (addC 7 0) farC 3 P = farC := by decide +kernel
  have h4 : ¬ 3 < m := fun k => hm.2.2 3 (by omega) k (h3 P hP)
  omega
end Go.Proofs.YtofjmnodfabohaaGreatDoor
