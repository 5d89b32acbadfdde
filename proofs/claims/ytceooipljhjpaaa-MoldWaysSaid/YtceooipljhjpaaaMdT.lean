/- mold: the plain law of ways, and of reshape. -/
import Derived.Test.YtceooipljhjpaaaMdS
import Derived.Test.YtceooipljhjpaaaMdO
namespace Go.Proofs.Ytceooipljhjpaaa
open Go.RowKit Go.Shelf

def vecB (l : List Int) : Ar := ⟨1, [(l.length : Int)], l⟩
theorem shB_one {n : Nat} (h : n ≤ 4096) : shB [(n : Int)] = true := by
  rw [shB_iff]
  refine ⟨by simp, ?_, ?_⟩
  · intro l hl
    rw [List.mem_singleton] at hl
    omega
  · simp [prodL]; omega
theorem prodL_one (x : Int) : prodL [x] = x := by simp [prodL]
theorem chk_vec {l : List Int} (h : l.length ≤ 4096) : chkB (vecB l) = true := by
  rw [chkB_iff]
  exact ⟨shB_one h, by rw [vecB, prodL_one], kndB_iff.2 (.inl rfl)⟩
theorem getD_at {l : List Int} {i : Nat} (h : i < l.length) : l.getD i 0 = l[i] := by simp [h]
theorem chk_len {A : Ar} (h : chkB A = true) : A.e.length ≤ 4096 ∧ (A.k = 1 ∨ A.k = 2) := by
  obtain ⟨h1, h2, h3⟩ := chkB_iff.1 h
  have := (shB_iff.1 h1).2.2
  refine ⟨by omega, ?_⟩
  rcases kndB_iff.1 h3 with h | h
  · exact .inl h
  · exact .inr h.1
/-- What comes of arrays of one kind by a way that leads to elements, or to none. -/
theorem go_law {k : Int} {s : List Int} {g : List (Int × Int)} {L : List Ar} (hk : k = 1 ∨ k = 2) (hL : ∀ B ∈ L, chkB B = true ∧ B.k = k) (hs : shB s = true) (hl : (g.length : Int) = prodL s)
    (hg : ∀ x ∈ g, x.1 = -1 ∨ ∃ (i : Nat) (B : Ar), L[i]? = some B ∧ x.1 = i ∧ 0 ≤ x.2 ∧ x.2 < B.e.length) : goN k s g L = 0 ∧ goA k s g L = ⟨k, s, g.map (pickL k L)⟩ := by
  have hany : g.any (badL L) = false := by
    rw [List.any_eq_false]
    intro x hx
    rcases hg x hx with h | ⟨i, B, hB, h1, h2, h3⟩
    · simp [badL, h]
    · obtain ⟨hi, hB2⟩ := List.getElem?_eq_some_iff.1 hB
      simp [badL, h1, List.getD, hB]
      omega
  have hc : chkB (⟨k, s, g.map (pickL k L)⟩ : Ar) = true := by
    rw [chkB_iff]
    refine ⟨hs, by simp only [List.length_map]; exact hl.symm, ?_⟩
    rw [kndB_iff]
    rcases hk with rfl | rfl
    · exact .inl rfl
    · refine .inr ⟨rfl, fun c hc => ?_⟩
      obtain ⟨x, hx, rfl⟩ := List.mem_map.1 hc
      rcases hg x hx with h | ⟨i, B, hB, h1, h2, h3⟩
      · rw [pickL, if_pos h]
        decide
      · rw [pickL, if_neg (by omega), h1]
        have hm := hL B (List.mem_of_getElem? hB)
        rcases kndB_iff.1 (chkB_iff.1 hm.1).2.2 with h | h
        · rw [hm.2] at h
          exact absurd h (by decide)
        · simp only [Int.toNat_natCast, List.getD, hB, Option.getD_some]
          have h4 : x.2.toNat < B.e.length := by omega
          rw [List.getElem?_eq_getElem h4, Option.getD_some]
          exact h.2 _ (List.getElem_mem h4)
  have hN : goN k s g L = 0 := by
    unfold goN
    rw [if_pos hk, hany, if_neg (by decide), chkE_zero]
    exact hc
  exact ⟨hN, goA_ok hN⟩
theorem lenC_id {x : Int} (h : 0 ≤ x ∧ x ≤ 4096) : lenC x = x := by
  unfold lenC
  rw [if_neg (by omega)]
theorem rsS_id {L : Ar} (h : ∀ x ∈ L.e, 0 ≤ x ∧ x ≤ 4096) : rsS L = L.e := by
  unfold rsS
  conv => rhs; rw [← List.map_id L.e]
  exact List.map_congr_left fun x hx => lenC_id (h x hx)
theorem lst_vec {l : List Int} (h : l.length ≤ 4096) : lstE (vecB l) = 0 := by
  unfold lstE
  rw [chk_vec h]
  simp [vecB]
/-- Reshape by a list of lengths that may be. -/
theorem resh_ok {l : List Int} {A : Ar} (hl : l.length ≤ 4096) (hA : chkB A = true) (hs : shB l = true) : mgN (rsW (vecB l) A.s) (vecB l) A = 0 ∧ mgA (rsW (vecB l) A.s) (vecB l) A = ⟨A.k, l, (List.range (prodL l).toNat).map fun (i : Nat) => pickL A.k [A] (rsP (A.e.length : Int) (i : Int))⟩ := by
  obtain ⟨hA1, hA2, hA3⟩ := chkB_iff.1 hA
  have hb := (shB_iff.1 hs).2.1
  have hr : rsS (vecB l) = l := rsS_id hb
  have hneg : (vecB l).e.any negB = false := by
    rw [List.any_eq_false]
    intro x hx
    simp [negB]
    exact (hb x hx).1
  have hW : rsW (vecB l) A.s = ⟨l, (List.range (prodL l).toNat).map fun (i : Nat) => rsP (A.e.length : Int) (i : Int), 0⟩ := by
    unfold rsW
    rw [if_pos hA1, if_pos (lst_vec hl), hneg, if_neg (by decide), hr]
    unfold limW rsG
    rw [if_pos hs, hr, cntN_ok hs, cntN_ok hA1, hA2]
  have hp : 0 ≤ prodL l := prodL_nonneg l (fun x hx => (hb x hx).1)
  obtain ⟨h1, h2⟩ := go_law (L := [A]) (s := l) (g := (List.range (prodL l).toNat).map fun (i : Nat) => rsP (A.e.length : Int) (i : Int)) (chk_len hA).2 (fun B hB => by rw [List.mem_singleton] at hB; subst hB; exact ⟨hA, rfl⟩) hs (by rw [List.length_map, List.length_range]; omega) (fun x hx => by
    obtain ⟨i, hi, rfl⟩ := List.mem_map.1 hx
    unfold rsP
    split
    · exact .inl rfl
    · rename_i h0
      exact .inr ⟨0, A, rfl, rfl, Int.emod_nonneg _ h0, Int.emod_lt_of_pos _ (by omega)⟩)
  unfold mgN mgA
  rw [chk_vec hl, hA, hW]
  simp only [Bool.and_self, if_true]
  refine ⟨h1, h2.trans ?_⟩
  rw [List.map_map]
  rfl
theorem resh_no {l : List Int} {A : Ar} (hl : l.length ≤ 4096) (hA : chkB A = true) (hs : shB l = false) : mgN (rsW (vecB l) A.s) (vecB l) A = 5 ∨ mgN (rsW (vecB l) A.s) (vecB l) A = 9 := by
  have hA1 := (chkB_iff.1 hA).1
  unfold mgN
  rw [chk_vec hl, hA]
  simp only [Bool.and_self, if_true]
  unfold rsW
  rw [if_pos hA1, if_pos (lst_vec hl)]
  cases hn : (vecB l).e.any negB with
  | true =>
    left
    rfl
  | false =>
    right
    simp only [Bool.false_eq_true, if_false]
    have h0 : ∀ x ∈ l, 0 ≤ x := fun x hx => by
      have := List.any_eq_false.1 hn x hx
      simpa [negB] using this
    have hsh : shB (rsS (vecB l)) = false := by
      cases hq : shB (rsS (vecB l)) with
      | false => rfl
      | true =>
        have hb := (shB_iff.1 hq).2.1
        have hid : ∀ x ∈ l, 0 ≤ x ∧ x ≤ 4096 := fun x hx => by
          have h1 := hb (lenC x) (List.mem_map_of_mem hx)
          have h2 := h0 x hx
          unfold lenC at h1
          split at h1 <;> omega
        rw [rsS_id (L := vecB l) hid] at hq
        rw [show shB (vecB l).e = shB l from rfl, hs] at hq
        cases hq
    unfold limW
    rw [hsh]
    rfl
/-- An array's elements again and again. -/
theorem resh_at {A : Ar} {i : Nat} (h : 0 < A.e.length) : pickL A.k [A] (rsP (A.e.length : Int) (i : Int)) = A.e.getD (i % A.e.length) 0 := by
  unfold rsP
  rw [if_neg (by omega)]
  unfold pickL
  rw [if_neg (by simp)]
  rw [show ((i : Int) % (A.e.length : Int)).toNat = i % A.e.length by rw [← Int.natCast_emod, Int.toNat_natCast]]
  rfl
theorem rav_resh {A : Ar} (hA : chkB A = true) : mgN (rsW (shpA A) (ravA A).s) (shpA A) (ravA A) = 0 ∧ mgA (rsW (shpA A) (ravA A).s) (shpA A) (ravA A) = A := by
  obtain ⟨hA1, hA2, hA3⟩ := chkB_iff.1 hA
  have hS : shpA A = vecB A.s := by unfold shpA; rw [if_pos hA]; rfl
  have hR : ravA A = ⟨A.k, [(A.e.length : Int)], A.e⟩ := by unfold ravA; rw [if_pos hA]
  have hcR : chkB (ravA A) = true := by
    rw [hR, chkB_iff]
    exact ⟨shB_one (chk_len hA).1, prodL_one _, hA3⟩
  rw [hS]
  obtain ⟨h1, h2⟩ := resh_ok (l := A.s) (A := ravA A) (by have := (shB_iff.1 hA1).1; omega) hcR hA1
  refine ⟨h1, h2.trans ?_⟩
  rw [hA2, Int.toNat_natCast]
  have hk : (ravA A).k = A.k := by rw [hR]
  have he : (ravA A).e = A.e := by rw [hR]
  have hl : (List.range A.e.length).map (fun (i : Nat) => pickL (ravA A).k [ravA A] (rsP ((ravA A).e.length : Int) (i : Int))) = A.e := by
    apply List.ext_getElem
    · simp
    · intro i h1 h2
      rw [List.getElem_map, List.getElem_range, resh_at (by rw [he]; omega), he, Nat.mod_eq_of_lt h2, getD_at h2]
  rw [hl, hk]
end Go.Proofs.Ytceooipljhjpaaa
