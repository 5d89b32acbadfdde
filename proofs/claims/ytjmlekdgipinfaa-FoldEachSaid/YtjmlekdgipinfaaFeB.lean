/- fold: an inner product of vectors, whole. -/
import Derived.Test.YtjmlekdgipinfaaFeA
namespace Go.Proofs.Ytjmlekdgipinfaa
open Go.RowKit Go.Shelf

theorem mt_vec {g : Int} {A B : Ar} {a b : Int} (hA : A.s = [a]) (hB : B.s = [b]) (h : mtE g A B = 0) : binB g = true ∧ (chkB A = true ∧ chkB B = true) ∧ a = b ∧ knE g A.k B.k = 0 ∧ togL A.s B.s = [a] ∧ a = (toN A B : Int) ∧ toN A B ≤ 4096 := by
  unfold mtE at h
  cases hg : binB g with
  | false => rw [hg, if_neg (by decide)] at h; exact absurd h (by decide)
  | true =>
    rw [hg, if_pos rfl] at h
    cases hc : (chkB A && chkB B) with
    | false => rw [hc, if_neg (by decide)] at h; exact absurd h (by decide)
    | true =>
      rw [hc, if_pos rfl] at h
      have hcc : chkB A = true ∧ chkB B = true := by simpa using hc
      have sA := (chkB_iff.1 hcc.1).1
      have sB := (chkB_iff.1 hcc.2).1
      have hab : a = b := by
        by_cases e : a = b
        · exact e
        · have ht : togE A.s B.s = 4 := by unfold togE; rw [sA, sB, hA, hB]; simp [e]
          rw [ht, if_neg (by decide)] at h
          exact absurd h (by decide)
      have ht : togE A.s B.s = 0 := by unfold togE; rw [sA, sB, hA, hB, hab]; simp
      have hk : knE g A.k B.k = 0 := by
        by_cases e : knE g A.k B.k = 0
        · exact e
        · rw [if_pos ht, if_neg e] at h; exact absurd h e
      have hL : togL A.s B.s = [a] := by unfold togL; rw [ht, if_pos rfl, hA, if_neg (by simp)]
      have hi := shB_iff.1 sA
      have h9 := hi.2.1 a (by rw [hA]; simp)
      have hn : a = (toN A B : Int) := by
        unfold toN
        rw [hL, cntN_ok (show shB [a] = true by rw [← hA]; exact sA)]
        simp [prodL]
        omega
      exact ⟨rfl, hcc, hab, hk, hL, hn, by omega⟩
/-- What both make, put together, is a vector. -/
theorem mt_is {g : Int} {A B : Ar} {a b : Int} (hA : A.s = [a]) (hB : B.s = [b]) (h : mtE g A B = 0) (p : Int → Int → Int × Int) : (⟨1, togL A.s B.s, vaL p (prL A B (toN A B))⟩ : Ar) = vcA (vaL p (prL A B (toN A B))) ∧ (vaL p (prL A B (toN A B))).length ≤ 4096 := by
  obtain ⟨_, _, _, _, h1, h2, h3⟩ := mt_vec hA hB h
  have hl : (vaL p (prL A B (toN A B))).length = toN A B := by simp [vaL, prL]
  refine ⟨?_, by rw [hl]; exact h3⟩
  unfold vcA
  rw [h1, hl, ← h2]
/-- The law's second half: an inner product of vectors is the reduce of what the second function makes of both. -/
theorem inner_is {f g : Int} {A B : Ar} {a b : Int} (hA : A.s = [a]) (hB : B.s = [b]) (hf : binB f = true) (h : mtE g A B = 0) :
    innE f g A B = redE f ⟨1, togL A.s B.s, vaL (mixP g A.k B.k) (prL A B (toN A B))⟩ ∧ innA f g A B = redA f ⟨1, togL A.s B.s, vaL (mixP g A.k B.k) (prL A B (toN A B))⟩ := by
  have hE := (inner_vec (f := f) (g := g) hA hB hf).2 h
  obtain ⟨hM, hl⟩ := mt_is hA hB h (mixP g A.k B.k)
  obtain ⟨hr1, hr2⟩ := red_vec (f := f) hf hl
  rw [hM]
  refine ⟨hE.trans hr1.symm, ?_⟩
  rw [hr2]
  unfold innA
  by_cases h0 : (rwP f (vaL (mixP g A.k B.k) (prL A B (toN A B)))).2 = 0
  · obtain ⟨hg, hcc, hab, hk, h1, h2, h3⟩ := mt_vec hA hB h
    obtain ⟨q1, q2, q3⟩ := shp_vec hA hB
    have hL : (lngI A B).toNat = toN A B := by rw [q3, h2, Int.toNat_natCast]
    have hq : inQ (mixP g A.k B.k) A B 1 (toN A B) 0 = fun i => mixP g A.k B.k (elAt A i) (elAt B i) := by
      funext k
      exact inQ_vec _ hA hB _ k
    have hm : frE (mixP g A.k B.k) (prL A B (toN A B)) = 0 := by
      have ht : togE A.s B.s = 0 := by
        unfold togE
        rw [(chkB_iff.1 hcc.1).1, (chkB_iff.1 hcc.2).1, hA, hB, hab]
        simp
      have h9 := h
      unfold mtE at h9
      rw [hg, hcc.1, hcc.2, ht, hk] at h9
      exact h9
    rw [hE, if_pos h0, if_pos h0, q1, q2, tabV_one, col_vec hB, hL]
    unfold inP
    rw [hq, ← fr_tab, if_pos hm, ← va_tab]
  · rw [hE, if_neg h0, if_neg h0]
/-- .. and else there is an error. -/
theorem inner_no {f g : Int} {A B : Ar} {a b : Int} (hA : A.s = [a]) (hB : B.s = [b]) (h : mtE g A B ≠ 0 ∨ binB f = false) : innE f g A B ≠ 0 := by
  cases hf : binB f with
  | true =>
    rcases h with h | h
    · rw [(inner_vec hA hB hf).1 h]; exact h
    · rw [hf] at h; cases h
  | false =>
    have hi : isE f g A B = 2 := by
      have hck : ckE [f, g] A B = 2 := by unfold ckE; simp [hf]
      unfold isE
      rw [hck]
      rfl
    rw [inn_bad hi (by decide)]
    decide
end Go.Proofs.Ytjmlekdgipinfaa
