/- fold: an inner product of vectors is the reduce of both, put together. -/
import Derived.Test.YtjmlekdgipinfaaFdZ
namespace Go.Proofs.Ytjmlekdgipinfaa
open Go.RowKit Go.Shelf

theorem ck_two {f g : Int} (A B : Ar) (hf : binB f = true) : ckE [f, g] A B = if binB g = true then (if (chkB A && chkB B) = true then 0 else 110) else 2 := by
  unfold ckE
  cases hg : binB g <;> simp [hf, hg]
theorem inn_bad {f g : Int} {A B : Ar} {E : Int} (h : isE f g A B = E) (h0 : E ≠ 0) : innE f g A B = E := by
  unfold innE
  rw [h, if_neg h0]
theorem inner_vec {f g : Int} {A B : Ar} {a b : Int} (hA : A.s = [a]) (hB : B.s = [b]) (hf : binB f = true) :
    (mtE g A B ≠ 0 → innE f g A B = mtE g A B) ∧ (mtE g A B = 0 → innE f g A B = (rwP f (vaL (mixP g A.k B.k) (prL A B (toN A B)))).2) := by
  have hck := ck_two (g := g) A B hf
  cases hg : binB g with
  | false =>
    rw [hg] at hck
    have hm : mtE g A B = 2 := by unfold mtE; rw [hg]; rfl
    have hi : isE f g A B = 2 := by unfold isE; rw [hck]; rfl
    rw [hm]
    exact ⟨fun _ => inn_bad hi (by decide), fun h => absurd h (by decide)⟩
  | true =>
    rw [hg, if_pos rfl] at hck
    cases hc : (chkB A && chkB B) with
    | false =>
      rw [hc] at hck
      have hm : mtE g A B = 110 := by unfold mtE; rw [hg, hc]; rfl
      have hi : isE f g A B = 110 := by unfold isE; rw [hck]; rfl
      rw [hm]
      exact ⟨fun _ => inn_bad hi (by decide), fun h => absurd h (by decide)⟩
    | true =>
      rw [hc, if_pos rfl] at hck
      have hcc : chkB A = true ∧ chkB B = true := by simpa using hc
      have sA := (chkB_iff.1 hcc.1).1
      have sB := (chkB_iff.1 hcc.2).1
      by_cases hab : a = b
      · have ht : togE A.s B.s = 0 := by unfold togE; rw [sA, sB, hA, hB, hab]; simp
        have hbd : ¬ badP A B := fun h => (bad_vec hA hB).1 h hab
        by_cases hk : knE g A.k B.k = 0
        · have hm : mtE g A B = frE (mixP g A.k B.k) (prL A B (toN A B)) := by unfold mtE; rw [hg, hc, ht, hk]; rfl
          obtain ⟨q1, q2, q3⟩ := shp_vec hA hB
          have hi : isE f g A B = 0 := by unfold isE; rw [hck, if_pos rfl, if_neg hbd, if_pos hk, q1]; rfl
          have hL : (lngI A B).toNat = toN A B := by
            unfold toN togL
            rw [ht, if_pos rfl, q3, hA, if_neg (by simp)]
            have h8 := cntN_ok (show shB [a] = true by rw [← hA]; exact sA)
            rw [h8]
            simp [prodL]
          have he : innE f g A B = (inP f (mixP g A.k B.k) A B 1 (toN A B) 0).2 := by
            unfold innE
            rw [hi, if_pos rfl, q2, mdE_one, col_vec hB, hL]
          have hq : inQ (mixP g A.k B.k) A B 1 (toN A B) 0 = fun i => mixP g A.k B.k (elAt A i) (elAt B i) := by
            funext k
            exact inQ_vec _ hA hB _ k
          rw [hm, he, fr_tab, va_tab]
          unfold inP
          rw [hq]
          refine ⟨fun h => by rw [if_neg h], fun h => by rw [if_pos h]⟩
        · have hm : mtE g A B = knE g A.k B.k := by unfold mtE; rw [hg, hc, ht, if_pos rfl, if_pos rfl, if_pos rfl, if_neg hk]
          have hi : isE f g A B = knE g A.k B.k := by unfold isE; rw [hck, if_pos rfl, if_neg hbd, if_neg hk]
          rw [hm]
          exact ⟨fun h => inn_bad hi h, fun h => absurd h hk⟩
      · have ht : togE A.s B.s = 4 := by unfold togE; rw [sA, sB, hA, hB]; simp [hab]
        have hm : mtE g A B = 4 := by unfold mtE; rw [hg, hc, ht]; rfl
        have hi : isE f g A B = 4 := by unfold isE; rw [hck, if_pos rfl, if_pos ((bad_vec hA hB).2 hab)]
        rw [hm]
        exact ⟨fun _ => inn_bad hi (by decide), fun h => absurd h (by decide)⟩
theorem tabV_one (el : Nat → Int × Int) : tabV 1 el = [(el 0).1] := by simp [tabV, tabP, List.range_succ]
theorem rowL_all (l : List Int) : rowL l 0 l.length = l := by
  unfold rowL
  simp
theorem red_vec {f : Int} {l : List Int} (hf : binB f = true) (hl : l.length ≤ 4096) : redE f (vcA l) = (rwP f l).2 ∧ redA f (vcA l) = if (rwP f l).2 = 0 then ⟨1, [], [(rwP f l).1]⟩ else noA := by
  have hn : frN (vcA l) = 1 := by unfold frN vcA; rfl
  have h0 : redL f (vcA l) 0 = rwP f l := by
    unfold redL
    rw [vlon hl]
    show rwP f (rowL l 0 l.length) = _
    rw [rowL_all]
  have hE : redE f (vcA l) = (rwP f l).2 := by
    unfold redE
    rw [if_pos (vfine hf hl), hn, mdE_one, h0]
    rfl
  refine ⟨hE, ?_⟩
  unfold redA
  rw [hE, hn, tabV_one, h0]
  rfl
end Go.Proofs.Ytjmlekdgipinfaa
