/- mold: a way of one array goes alike over two. -/
import Derived.Test.YtceooipljhjpaaaMdT
namespace Go.Proofs.Ytceooipljhjpaaa
open Go.RowKit Go.Shelf

theorem bad_dup {A : Ar} {x : Int × Int} (h : x.1 = -1 ∨ x.1 = 0) : badL [A, A] x = badL [A] x := by
  rcases h with h | h <;> simp [badL, h]
theorem pick_dup {k : Int} {A : Ar} {x : Int × Int} (h : x.1 = -1 ∨ x.1 = 0) : pickL k [A, A] x = pickL k [A] x := by
  rcases h with h | h <;> simp [pickL, h]
theorem go_dup {k : Int} {s : List Int} {g : List (Int × Int)} {A : Ar} (hg : ∀ x ∈ g, x.1 = -1 ∨ x.1 = 0) : goN k s g [A, A] = goN k s g [A] ∧ goA k s g [A, A] = goA k s g [A] := by
  have h1 : g.any (badL [A, A]) = g.any (badL [A]) := by
    rw [Bool.eq_iff_iff, List.any_eq_true, List.any_eq_true]
    constructor
    · rintro ⟨x, hx, h⟩
      exact ⟨x, hx, by rw [← bad_dup (hg x hx)]; exact h⟩
    · rintro ⟨x, hx, h⟩
      exact ⟨x, hx, by rw [bad_dup (hg x hx)]; exact h⟩
  have h2 : g.map (pickL k [A, A]) = g.map (pickL k [A]) := List.map_congr_left fun x hx => pick_dup (hg x hx)
  have h3 : goN k s g [A, A] = goN k s g [A] := by unfold goN; rw [h1, h2]
  exact ⟨h3, by unfold goA; rw [h3, h2]⟩
theorem limW_mem {s : List Int} {g : List (Int × Int)} {x : Int × Int} (h : x ∈ (limW s g).g) : x ∈ g := by
  unfold limW at h
  split at h
  · exact h
  · simp [noW] at h
theorem rsW_of {L : Ar} {s : List Int} {x : Int × Int} (h : x ∈ (rsW L s).g) : x.1 = -1 ∨ x.1 = 0 := by
  unfold rsW at h
  split at h
  · split at h
    · split at h
      · simp [noW] at h
      · obtain ⟨i, hi, rfl⟩ := List.mem_map.1 (limW_mem h)
        unfold rsP
        split
        · exact .inl rfl
        · exact .inr rfl
    · simp [noW] at h
  · simp [noW] at h
theorem wiR_of : ∀ (l : List Spn) (n p b : Int), (wiR l n p b).1 = -1 ∨ (wiR l n p b).1 = 0
  | [], _, _, _ => .inr rfl
  | x :: r, n, p, b => by
    unfold wiR
    split
    · exact .inl rfl
    · exact wiR_of r _ _ _
theorem wiW_of {l : List Spn} {x : Int × Int} (h : x ∈ (wiW l).g) : x.1 = -1 ∨ x.1 = 0 := by
  obtain ⟨i, hi, rfl⟩ := List.mem_map.1 (limW_mem h)
  exact wiR_of _ _ _ _
theorem tkW_of {L : Ar} {s : List Int} {x : Int × Int} (h : x ∈ (tkW L s).g) : x.1 = -1 ∨ x.1 = 0 := by
  unfold tkW at h
  split at h
  · exact wiW_of h
  · simp [noW] at h
theorem drW_of {L : Ar} {s : List Int} {x : Int × Int} (h : x ∈ (drW L s).g) : x.1 = -1 ∨ x.1 = 0 := by
  unfold drW at h
  split at h
  · exact wiW_of h
  · simp [noW] at h
/-- The place lies within. -/
theorem wiR_in : ∀ (l : List Spn) (n p b : Int), 0 ≤ p → p < b → (wiR l n p b).1 = -1 ∨ ((wiR l n p b).1 = 0 ∧ 0 ≤ (wiR l n p b).2 ∧ (wiR l n p b).2 < b * prodL (l.map Spn.h))
  | [], _, p, b, h0, h1 => .inr ⟨rfl, h0, by simp only [wiR, List.map_nil, prodL]; omega⟩
  | x :: r, n, p, b, h0, h1 => by
    unfold wiR
    split
    · exact .inl rfl
    · rename_i h
      obtain ⟨t, ht⟩ : ∃ t, n % x.l + x.a = t := ⟨_, rfl⟩
      rw [ht] at h ⊢
      have ht0 : 0 ≤ t := by omega
      have ht1 : t + 1 ≤ x.h := by omega
      have hb : 0 ≤ b := by omega
      have hp0 : 0 ≤ t * b := Int.mul_nonneg ht0 hb
      have hp1 : (t + 1) * b ≤ x.h * b := Int.mul_le_mul_of_nonneg_right ht1 hb
      rw [Int.add_mul, Int.one_mul] at hp1
      have ih := wiR_in r (n / x.l) (p + t * b) (b * x.h) (by omega) (by rw [Int.mul_comm b]; omega)
      rw [List.map_cons, prodL, ← Int.mul_assoc]
      exact ih
theorem rsW_in {L A : Ar} (hA : chkB A = true) {x : Int × Int} (h : x ∈ (rsW L A.s).g) : x.1 = -1 ∨ (x.1 = 0 ∧ 0 ≤ x.2 ∧ x.2 < A.e.length) := by
  obtain ⟨h1, h2, _⟩ := chkB_iff.1 hA
  unfold rsW at h
  split at h
  · split at h
    · split at h
      · simp [noW] at h
      · obtain ⟨i, hi, rfl⟩ := List.mem_map.1 (limW_mem h)
        rw [cntN_ok h1, h2]
        unfold rsP
        split
        · exact .inl rfl
        · rename_i h0
          exact .inr ⟨rfl, Int.emod_nonneg _ h0, Int.emod_lt_of_pos _ (by omega)⟩
    · simp [noW] at h
  · rename_i q
    exact absurd h1 q
theorem prodL_rev (l : List Int) : prodL l.reverse = prodL l := by
  induction l with
  | nil => rfl
  | cons x r ih => rw [List.reverse_cons, prodL_append, ih, prodL, prodL, prodL, Int.mul_one, Int.mul_comm]
theorem prodL_spS (s : List Int) : prodL (spS s) = prodL s := by
  unfold spS
  split
  · rename_i h
    rw [h]
    rfl
  · rfl
theorem spF_h {kf : Int → Int → Spn} (hk : ∀ m n, (kf m n).h = m) {L : Ar} {s : List Int} (h : spN L s = 0) : (spF kf L s).map Spn.h = spS s := by
  have h3 := spF_len (kf := kf) h
  apply List.ext_getElem
  · rw [List.length_map, h3]
  · intro i h1 h2
    rw [List.getElem_map]
    simp only [spF, if_pos h, List.getElem_zipWith, hk]
theorem wiW_in {l : List Spn} {A : Ar} (h : prodL (l.map Spn.h) = (A.e.length : Int)) {x : Int × Int} (hx : x ∈ (wiW l).g) : x.1 = -1 ∨ (x.1 = 0 ∧ 0 ≤ x.2 ∧ x.2 < A.e.length) := by
  obtain ⟨i, hi, rfl⟩ := List.mem_map.1 (limW_mem hx)
  have h1 := wiR_in l.reverse (i : Int) 0 1 (by decide) (by decide)
  rw [List.map_reverse, prodL_rev, h, Int.one_mul] at h1
  exact h1
theorem tkW_in {L A : Ar} (hA : chkB A = true) {x : Int × Int} (h : x ∈ (tkW L A.s).g) : x.1 = -1 ∨ (x.1 = 0 ∧ 0 ≤ x.2 ∧ x.2 < A.e.length) := by
  unfold tkW at h
  split at h
  · rename_i q
    exact wiW_in (by rw [spF_h (fun m n => by unfold takeF; split <;> rfl) q, prodL_spS]; exact (chkB_iff.1 hA).2.1) h
  · simp [noW] at h
theorem drW_in {L A : Ar} (hA : chkB A = true) {x : Int × Int} (h : x ∈ (drW L A.s).g) : x.1 = -1 ∨ (x.1 = 0 ∧ 0 ≤ x.2 ∧ x.2 < A.e.length) := by
  unfold drW at h
  split at h
  · rename_i q
    exact wiW_in (by rw [spF_h (fun m n => by unfold dropF; split <;> rfl) q, prodL_spS]; exact (chkB_iff.1 hA).2.1) h
  · simp [noW] at h
/-- A way of one array that is no error brings an array, over one and over two. -/
theorem way_one {Y : Wy} {A : Ar} (hA : chkB A = true) (hok : Y.n = 0 → shB Y.s = true ∧ (Y.g.length : Int) = prodL Y.s) (hin : ∀ x ∈ Y.g, x.1 = -1 ∨ (x.1 = 0 ∧ 0 ≤ x.2 ∧ x.2 < A.e.length)) (h0 : Y.n = 0) :
    goN A.k Y.s Y.g [A] = 0 ∧ goN A.k Y.s Y.g [A, A] = 0 ∧ goA A.k Y.s Y.g [A, A] = goA A.k Y.s Y.g [A] ∧ goA A.k Y.s Y.g [A] = ⟨A.k, Y.s, Y.g.map (pickL A.k [A])⟩ := by
  obtain ⟨h1, h2⟩ := hok h0
  have hg := go_law (k := A.k) (L := [A]) (chk_len hA).2 (fun B hB => by rw [List.mem_singleton] at hB; subst hB; exact ⟨hA, rfl⟩) h1 h2 (fun x hx => by
    rcases hin x hx with h | ⟨h, h3, h4⟩
    · exact .inl h
    · exact .inr ⟨0, A, rfl, by rw [h]; rfl, h3, h4⟩)
  have hd := go_dup (k := A.k) (s := Y.s) (g := Y.g) (A := A) (fun x hx => (hin x hx).imp id (·.1))
  exact ⟨hg.1, hd.1.trans hg.1, hd.2, hg.2⟩
end Go.Proofs.Ytceooipljhjpaaa
