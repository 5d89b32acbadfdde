/- Each way brings each element just once, plainly. -/
import Derived.Test.YtmmbdhfljabefaaTuX
namespace Go.Proofs.Ytmmbdhfljabefaa

def WayOk (W : Wy) (A : Ar) : Prop := W.n = 0 → ∃ P : Nat → Int, W.g = tabG (cnt A.s) (fun i => (0, P i)) ∧ InP (cnt A.s) P ∧ (∀ i j, i < cnt A.s → j < cnt A.s → P i = P j → i = j) ∧ shB W.s = true ∧ (cnt A.s : Int) = prodL W.s
theorem way_tells {W : Wy} {A : Ar} (hA : chkB A = true) (hW : WayOk W A) : tgN W A = W.n ∧ (W.n = 0 → (goA A.k W.s W.g [A] = tgA W A ∧ goN A.k W.s W.g [A] = 0) ∧ chkB (tgA W A) = true) := by
  by_cases h : W.n = 0
  · obtain ⟨P, h1, h2, _, h4, h5⟩ := hW h
    obtain ⟨s, g, n⟩ := W
    simp only at h h1 h4 h5
    subst h h1
    obtain ⟨hs, hl, hc, _, _⟩ := chk_len hA
    have ht := tg_tab hA h4 h5 hl h2
    refine ⟨ht.1, fun _ => ⟨⟨?_, ?_⟩, ?_⟩⟩
    · unfold tgA
      rw [hA]
      rfl
    · have h := ht.1
      unfold tgN at h
      rw [hA] at h
      exact h
    · rw [ht.2]
      exact chk_mv hA h4 h5 hl h2
  · exact ⟨(tg_no hA h).2, fun h2 => absurd h2 h⟩
theorem row_inj {m : Int} (hm : 0 < m) {i j : Nat} {f g : Int} (f0 : 0 ≤ f) (f1 : f < m) (g0 : 0 ≤ g) (g1 : g < m) (h : (i : Int) / m * m + f = (j : Int) / m * m + g) : (i : Int) / m = (j : Int) / m ∧ f = g := by
  obtain ⟨a1, a2⟩ := row_div (q := (i : Int) / m) hm f0 f1
  obtain ⟨b1, b2⟩ := row_div (q := (j : Int) / m) hm g0 g1
  rw [h] at a1 a2
  exact ⟨a1.symm.trans b1, a2.symm.trans b2⟩
theorem eq_of_row {m : Int} {i j : Nat} (h1 : (i : Int) / m = (j : Int) / m) (h2 : (i : Int) % m = (j : Int) % m) : i = j := by
  have a := div_row (i : Int) m
  have b := div_row (j : Int) m
  rw [h1, h2, b] at a
  omega
theorem rev_way (A : Ar) (hA : chkB A = true) : WayOk (revW A.s) A := by
  obtain ⟨hs, hl, hc, _, _⟩ := chk_len hA
  have hw : revW A.s = ⟨A.s, tabG (cnt A.s) (fun i => (0, revQ A.s i)), 0⟩ := if_pos hs
  rw [hw]
  refine fun _ => ⟨revQ A.s, rfl, revQ_in hs, fun i j hi hj h => ?_, hs, hc⟩
  obtain ⟨p1, _, _⟩ := ediv_lt_cnt hs hi
  have a1 := Int.emod_nonneg (i : Int) (show rowN A.s ≠ 0 by omega)
  have a2 := Int.emod_lt_of_pos (i : Int) p1
  have b1 := Int.emod_nonneg (j : Int) (show rowN A.s ≠ 0 by omega)
  have b2 := Int.emod_lt_of_pos (j : Int) p1
  unfold revQ at h
  obtain ⟨h1, h2⟩ := row_inj p1 (by omega) (by omega) (by omega) (by omega) h
  exact eq_of_row h1 (by omega)
theorem rot_way (L A : Ar) (hA : chkB A = true) : WayOk (rotW L A.s) A := by
  obtain ⟨hs, hl, hc, _, _⟩ := chk_len hA
  intro hn
  by_cases hE : rotE L A.s = 0
  · have hw : rotW L A.s = ⟨A.s, tabG (cnt A.s) (fun i => (0, (i : Int) / rowN A.s * rowN A.s + rotF L A.s i)), 0⟩ := if_pos hE
    rw [hw]
    refine ⟨_, rfl, fun i hi => ?_, fun i j hi hj h => ?_, hs, hc⟩
    · obtain ⟨p1, _, _⟩ := ediv_lt_cnt hs hi
      exact row_in hs hi (Int.emod_nonneg _ (by omega)) (Int.emod_lt_of_pos _ p1)
    · obtain ⟨p1, _, _⟩ := ediv_lt_cnt hs hi
      have a1 := Int.emod_nonneg (i : Int) (show rowN A.s ≠ 0 by omega)
      have a2 := Int.emod_lt_of_pos (i : Int) p1
      have b1 := Int.emod_nonneg (j : Int) (show rowN A.s ≠ 0 by omega)
      have b2 := Int.emod_lt_of_pos (j : Int) p1
      obtain ⟨h1, h2⟩ := row_inj p1 (f := rotF L A.s i) (g := rotF L A.s j) (Int.emod_nonneg _ (by omega)) (Int.emod_lt_of_pos _ p1) (Int.emod_nonneg _ (by omega)) (Int.emod_lt_of_pos _ p1) h
      refine eq_of_row h1 ?_
      have hb : rotRow L (rowN A.s) i = rotRow L (rowN A.s) j := by unfold rotRow; rw [h1]
      unfold rotF rotK at h2
      rw [hb] at h2
      have h3 := Int.emod_emod_of_dvd ((i : Int) % rowN A.s + rotRow L (rowN A.s) j - rotRow L (rowN A.s) j) (Int.dvd_refl (rowN A.s))
      have h4 : ((i : Int) % rowN A.s + rotRow L (rowN A.s) j - rotRow L (rowN A.s) j) % rowN A.s = ((j : Int) % rowN A.s + rotRow L (rowN A.s) j - rotRow L (rowN A.s) j) % rowN A.s := by
        rw [Int.sub_emod, h2, ← Int.sub_emod]
      rw [Int.add_sub_cancel, Int.add_sub_cancel, Int.emod_eq_of_lt a1 a2, Int.emod_eq_of_lt b1 b2] at h4
      exact h4
  · rw [rotW_no rfl hE] at hn
    exact absurd hn hE
theorem axP_inj {s : List Int} {p : List Nat} (hs : shB s = true) (hp : p.Perm (List.range s.length)) {i j : Nat} (hi : i < cnt s) (hj : j < cnt s) (h : axP s p i = axP s p j) : i = j := by
  have hc := cnt_int s
  rw [cntN_ok hs] at hc
  have hs4 := shB_iff.1 hs
  have hpos := pos_of_prod (s := s) (fun l hl => (hs4.2.1 l hl).1) (by omega)
  unfold axP at h
  have h1 : p.map (fun a => (atL (outL s p) i).getD a 0) = p.map (fun a => (atL (outL s p) j).getD a 0) := by
    rw [← atL_plL hpos (in_perm hp hpos i), h, atL_plL hpos (in_perm hp hpos j)]
  have h2 := List.map_inj_left.1 h1
  have h3 : atL (outL s p) i = atL (outL s p) j := by
    apply List.ext_getElem (by rw [atL_length, atL_length])
    intro a ha hb
    have hm : a ∈ p := hp.mem_iff.2 (List.mem_range.2 (by rw [atL_length, outL_length] at ha; exact ha))
    have := h2 a hm
    rw [List.getD, List.getD, List.getElem?_eq_getElem ha, List.getElem?_eq_getElem hb] at this
    exact this
  have hS := pos_out hp hpos
  have hpr : prodL (outL s p) = prodL s := prodL_perm (outL_perm hp)
  have e1 := plL_atL (s := outL s p) (n := i) (fun l hl => Int.le_of_lt (hS l hl)) (by omega) (by omega)
  have e2 := plL_atL (s := outL s p) (n := j) (fun l hl => Int.le_of_lt (hS l hl)) (by omega) (by omega)
  rw [h3, e2] at e1
  omega
theorem ax_way {A : Ar} {p : List Nat} (hA : chkB A = true) (hp : p.Perm (List.range A.s.length)) : WayOk ⟨outL A.s p, axG A.s p, 0⟩ A := by
  obtain ⟨hs, hl, hc, _, _⟩ := chk_len hA
  exact fun _ => ⟨axP A.s p, rfl, axP_in hs hp, fun i j hi hj h => axP_inj hs hp hi hj h, (shB_perm (outL_perm hp)).trans hs, by
    show _ = prodL (outL A.s p)
    rw [prodL_perm (outL_perm hp)]
    exact hc⟩
theorem tra_way (A : Ar) (hA : chkB A = true) : WayOk (toldW A.s (traW A.s)) A := by
  have h : toldW A.s (traW A.s) = traW A.s := if_pos (chk_len hA).1
  rw [h]
  exact ax_way hA (aboP_perm _)
theorem per_way (L A : Ar) (hA : chkB A = true) : WayOk (perW L A.s) A := by
  intro hn
  by_cases hE : perE L A.s = 0
  · obtain ⟨_, _, h3, h4⟩ := perE_ok hE
    have hw : perW L A.s = ⟨outL A.s (axesP L.e), axG A.s (axesP L.e), 0⟩ := if_pos hE
    rw [hw]
    exact ax_way hA (h3 ▸ (axes_perm h4).1) rfl
  · rw [perW_no rfl hE] at hn
    exact absurd hn hE
end Go.Proofs.Ytmmbdhfljabefaa
