/- Permutations given as lists, plainly. -/
import Derived.Test.YtmmbdhfljabefaaTuP
namespace Go.Proofs.Ytmmbdhfljabefaa

def vecA (l : List Int) : Ar := ⟨1, [(l.length : Int)], l⟩
theorem vecA_chk {l : List Int} (h : l.length ≤ 4096) : chkB (vecA l) = true := by
  refine chkB_iff.2 ⟨shB_iff.2 ⟨by simp [vecA], ?_, ?_⟩, ?_, kndB_iff.2 (.inl rfl)⟩
  · intro x hx
    simp [vecA] at hx
    omega
  · simp [vecA, prodL]
    omega
  · simp [vecA, prodL]
theorem vecA_lst {l : List Int} (h : l.length ≤ 4096) : lstE (vecA l) = 0 := by
  unfold lstE
  rw [vecA_chk h]
  rfl
theorem perE_vec {l s : List Int} (h : l.length ≤ 4096) (hs : shB s = true) : perE (vecA l) s = if l.length ≠ s.length then 4 else if allB l then 0 else 5 := by
  unfold perE
  rw [hs, if_pos rfl, vecA_lst h, if_neg (fun h => h rfl)]
  rfl
theorem perE_cases {l s : List Int} (h : l.length ≤ 4096) (hs : shB s = true) : perE (vecA l) s = 0 ∨ perE (vecA l) s = 4 ∨ perE (vecA l) s = 5 := by
  rw [perE_vec h hs]
  split
  · exact .inr (.inl rfl)
  · split
    · exact .inl rfl
    · exact .inr (.inr rfl)
def perA (L A : Ar) : Ar := tgA (perW L A.s) A
theorem per_ok {A : Ar} {l : List Int} (hA : chkB A = true) (h0 : perE (vecA l) A.s = 0) : perA (vecA l) A = axA (axesP l) A ∧ tgN (perW (vecA l) A.s) A = 0 ∧ (axesP l).Perm (List.range A.s.length) ∧ l.length = A.s.length ∧ allB l = true := by
  obtain ⟨_, _, h3, h4⟩ := perE_ok h0
  have h3 : l.length = A.s.length := h3
  have h4 : allB l = true := h4
  have hp : (axesP l).Perm (List.range A.s.length) := h3 ▸ (axes_perm h4).1
  have hw : perW (vecA l) A.s = ⟨outL A.s (axesP l), axG A.s (axesP l), 0⟩ := if_pos h0
  unfold perA axA
  rw [hw]
  exact ⟨rfl, (ax_ok hA hp).1, hp, h3, h4⟩
theorem tg_no {W : Wy} {A : Ar} (hA : chkB A = true) (hn : W.n ≠ 0) : tgA W A = noA ∧ tgN W A = W.n := by
  unfold tgA tgN
  rw [hA, if_pos rfl, if_pos rfl, if_neg hn, if_neg hn]
  exact ⟨rfl, rfl⟩
theorem per_no {A L : Ar} (hA : chkB A = true) (hn : perE L A.s ≠ 0) : perA L A = noA ∧ tgN (perW L A.s) A = perE L A.s := by
  unfold perA
  rw [perW_no rfl hn]
  exact tg_no hA hn
theorem per_n {A : Ar} {l : List Int} (hA : chkB A = true) : tgN (perW (vecA l) A.s) A = perE (vecA l) A.s := by
  by_cases h : perE (vecA l) A.s = 0
  · rw [(per_ok hA h).2.1, h]
  · exact (per_no hA h).2
/-- r, r - 1, .., the first j. -/
def abJ (r j : Nat) : List Int := (List.range j).map (fun (i : Nat) => (r : Int) - i)
theorem abJ_length (r j : Nat) : (abJ r j).length = j := by simp [abJ]
theorem abJ_succ (r j : Nat) : abJ r (j + 1) = abJ r j ++ [(r : Int) - j] := by simp [abJ, List.range_succ]
theorem abJ_axes (r : Nat) : axesP (abJ r r) = aboP r := by
  have h := revI_full r
  unfold axesP abJ
  have h2 : (revI r r).map Int.toNat = aboP r := by
    rw [h, List.map_map]
    conv => rhs; rw [← List.map_id (aboP r)]
    exact List.map_congr_left (fun a _ => Int.toNat_natCast a)
  rw [← h2]
  unfold revI
  rw [List.map_map, List.map_map]
  apply List.map_congr_left
  intro i _
  show ((r : Int) - i - 1).toNat = ((r : Int) - 1 - i).toNat
  congr 1
  omega
theorem abJ_all (r : Nat) : allB (abJ r r) = true := by
  refine allB_iff.2 (fun i hi => ?_)
  rw [abJ_length] at hi
  refine List.mem_map.2 ⟨r - 1 - i, List.mem_range.2 (by omega), ?_⟩
  omega
theorem abJ_E {s : List Int} (hs : shB s = true) : perE (vecA (abJ s.length s.length)) s = 0 := by
  rw [perE_vec (by rw [abJ_length]; have := (shB_iff.1 hs).1; omega) hs, abJ_length, if_neg (fun h => h rfl), if_pos (abJ_all _)]
/-- One list behind another one. -/
def bothL (l m : List Int) : List Int := l.map (fun x => m.getD (x - 1).toNat 0)
theorem bothL_length (l m : List Int) : (bothL l m).length = l.length := by simp [bothL]
theorem both_ok {l m : List Int} (hl : allB l = true) (hm : allB m = true) (h : m.length = l.length) : axesP (bothL l m) = perPP (axesP l) (axesP m) ∧ allB (bothL l m) = true := by
  obtain ⟨p1, p2⟩ := axes_perm hl
  obtain ⟨q1, q2⟩ := axes_perm hm
  rw [h] at q1
  have hx : ∀ x ∈ l, ∃ h2 : (x - 1).toNat < m.length, m.getD (x - 1).toNat 0 = m[(x - 1).toNat] := fun x hx => by
    have h1 := p2 x hx
    have h2 : (x - 1).toNat < m.length := by omega
    exact ⟨h2, by rw [List.getD, List.getElem?_eq_getElem h2]; rfl⟩
  have e1 : axesP (bothL l m) = perPP (axesP l) (axesP m) := by
    unfold axesP bothL perPP
    rw [List.map_map, List.map_map]
    apply List.map_congr_left
    intro x hxm
    obtain ⟨h2, h3⟩ := hx x hxm
    show (m.getD (x - 1).toNat 0 - 1).toNat = (m.map fun x => (x - 1).toNat).getD (x - 1).toNat 0
    rw [h3, List.getD, List.getElem?_map, List.getElem?_eq_getElem h2]
    rfl
  refine ⟨e1, allB_iff.2 (fun i hi => ?_)⟩
  rw [bothL_length] at hi
  have h4 : i ∈ axesP (bothL l m) := by
    rw [e1]
    exact (perPP_perm p1 q1).mem_iff.2 (List.mem_range.2 hi)
  obtain ⟨y, hy, h5⟩ := List.mem_map.1 h4
  obtain ⟨x, hxm, h6⟩ := List.mem_map.1 hy
  obtain ⟨h2, h3⟩ := hx x hxm
  have h7 := q2 _ (List.getElem_mem h2)
  rw [h3] at h6
  rw [h6] at h7
  have : y = (i : Int) + 1 := by omega
  rw [← this]
  exact hy
theorem both_per {A : Ar} {l m : List Int} (hA : chkB A = true) (h1 : perE (vecA l) A.s = 0) (h2 : perE (vecA m) (perA (vecA l) A).s = 0) :
    perE (vecA (bothL l m)) A.s = 0 ∧ perA (vecA (bothL l m)) A = perA (vecA m) (perA (vecA l) A) := by
  obtain ⟨a1, _, a3, a4, a5⟩ := per_ok hA h1
  have hX := (ax_ok hA a3)
  rw [a1] at h2 ⊢
  obtain ⟨b1, _, b3, b4, b5⟩ := per_ok hX.2.2 h2
  have hsl : (axA (axesP l) A).s.length = A.s.length := by rw [hX.2.1]; exact outL_length _ _
  rw [hsl] at b3 b4
  obtain ⟨c1, c2⟩ := both_ok a5 b5 (by omega)
  obtain ⟨hs, _, _, h4, _⟩ := chk_len hA
  have hE : perE (vecA (bothL l m)) A.s = 0 := by
    rw [perE_vec (by rw [bothL_length]; omega) hs, bothL_length, if_neg (fun h => h a4), if_pos c2]
  exact ⟨hE, by rw [(per_ok hA hE).1, b1, c1, ax_ax hA a3 b3]⟩
end Go.Proofs.Ytmmbdhfljabefaa
