/- mold: the plain law of take and drop, of vectors; of catenate. -/
import Derived.Test.YtceooipljhjpaaaMdT
namespace Go.Proofs.Ytceooipljhjpaaa
open Go.RowKit Go.Shelf

theorem cnt_one {n : Nat} (h : n ≤ 4096) : (cntN [(n : Int)]).toNat = n := by
  rw [cntN_ok (shB_one h), prodL_one, Int.toNat_natCast]
theorem shB_oneI {x : Int} (h : 0 ≤ x ∧ x ≤ 4096) : shB [x] = true := by
  obtain ⟨n, rfl⟩ := Int.eq_ofNat_of_zero_le h.1
  exact shB_one (by omega)
/-- What a span leaves of a vector. -/
def cutV (x : Spn) (l : List Int) : List Int := (List.range x.l.toNat).map fun (i : Nat) => if (i : Int) + x.a < 0 ∨ (l.length : Int) ≤ (i : Int) + x.a then 0 else l.getD ((i : Int) + x.a).toNat 0
theorem cutV_length (x : Spn) (l : List Int) : (cutV x l).length = x.l.toNat := by simp [cutV]
theorem cutV_get {x : Spn} {l : List Int} {i : Nat} (h : i < (cutV x l).length) : (cutV x l)[i] = if (i : Int) + x.a < 0 ∨ (l.length : Int) ≤ (i : Int) + x.a then 0 else l.getD ((i : Int) + x.a).toNat 0 := by
  simp [cutV]
theorem cut_ok {x : Spn} {l : List Int} (hl : l.length ≤ 4096) (hx : 0 ≤ x.l ∧ x.l ≤ 4096) (hh : x.h = (l.length : Int)) : (wiW [x]).n = 0 ∧ goN 1 (wiW [x]).s (wiW [x]).g [vecB l] = 0 ∧ goA 1 (wiW [x]).s (wiW [x]).g [vecB l] = vecB (cutV x l) := by
  have hs : shB [x.l] = true := shB_oneI hx
  obtain ⟨m, hm⟩ := Int.eq_ofNat_of_zero_le hx.1
  have hW : wiW [x] = ⟨[x.l], (List.range m).map fun (i : Nat) => wiP [x] (i : Int), 0⟩ := by
    unfold wiW wiG limW
    rw [show [x].map Spn.l = [x.l] from rfl, if_pos hs, hm, cnt_one (by omega)]
  have hP : ∀ i : Nat, i < m → wiP [x] (i : Int) = if (i : Int) + x.a < 0 ∨ (l.length : Int) ≤ (i : Int) + x.a then (-1, 0) else (0, (i : Int) + x.a) := fun i hi => by
    unfold wiP
    rw [List.reverse_singleton]
    simp only [wiR]
    rw [hm, Int.emod_eq_of_lt (by omega) (by omega), hh]
    split
    · rfl
    · simp
  obtain ⟨h1, h2⟩ := go_law (k := 1) (L := [vecB l]) (s := [x.l]) (g := (List.range m).map fun (i : Nat) => wiP [x] (i : Int)) (.inl rfl) (fun B hB => by rw [List.mem_singleton] at hB; subst hB; exact ⟨chk_vec hl, rfl⟩) hs (by rw [List.length_map, List.length_range, prodL_one]; omega) (fun y hy => by
    obtain ⟨i, hi, rfl⟩ := List.mem_map.1 hy
    rw [hP i (List.mem_range.1 hi)]
    split
    · exact .inl rfl
    · exact .inr ⟨0, vecB l, rfl, rfl, by simp only; omega, by simp only [vecB]; omega⟩)
  rw [hW]
  refine ⟨rfl, h1, h2.trans ?_⟩
  unfold vecB
  rw [cutV_length, show (x.l.toNat : Int) = x.l by omega, List.map_map]
  congr 1
  unfold cutV
  rw [show x.l.toNat = m by omega]
  refine List.map_congr_left fun i hi => ?_
  rw [Function.comp_apply, hP i (List.mem_range.1 hi)]
  unfold pickL
  split
  · rfl
  · rw [if_neg (by simp)]
    rfl
theorem spN_sc (n : Int) {l : List Int} (hl : l.length ≤ 4096) : spN ⟨1, [], [n]⟩ [(l.length : Int)] = 0 := by
  unfold spN
  rw [if_pos (shB_one hl), if_pos (show lstE ⟨1, [], [n]⟩ = 0 by unfold lstE; rw [if_pos (chkB_iff.2 ⟨(show shB [] = true by decide), rfl, kndB_iff.2 (.inl rfl)⟩)]; simp)]
  simp [spS]
theorem chk_sc (n : Int) : chkB ⟨1, [], [n]⟩ = true := chkB_iff.2 ⟨(show shB [] = true by decide), rfl, kndB_iff.2 (.inl rfl)⟩
theorem spF_sc (kf : Int → Int → Spn) (n : Int) {l : List Int} (hl : l.length ≤ 4096) : spF kf ⟨1, [], [n]⟩ [(l.length : Int)] = [kf (l.length : Int) (lenC n)] := by
  unfold spF
  rw [if_pos (spN_sc n hl)]
  simp [spS, rsS]
theorem lenC_in {n : Int} (h : -4096 ≤ n ∧ n ≤ 4096) : lenC n = n := if_neg (by omega)
theorem lenC_out {n : Int} (h : 4096 < n ∨ n < -4096) : lenC n = 4097 := if_pos h
def tkV (n : Int) (l : List Int) : List Int := cutV (takeF (l.length : Int) n) l
def drV (n : Int) (l : List Int) : List Int := cutV (dropF (l.length : Int) (lenC n)) l
theorem tk_len {n : Int} (l : List Int) (h : -4096 ≤ n) : ((tkV n l).length : Int) = if n < 0 then -n else n := by
  unfold tkV
  rw [cutV_length]
  unfold takeF
  by_cases h0 : n < 0
  · rw [if_pos ⟨h0, h⟩, if_pos h0]
    simp only
    omega
  · rw [if_neg (by omega), if_neg h0]
    simp only
    omega
theorem take_in {n : Int} {l : List Int} (hl : l.length ≤ 4096) (h : -4096 ≤ n ∧ n ≤ 4096) : mgN (tkW ⟨1, [], [n]⟩ [(l.length : Int)]) ⟨1, [], [n]⟩ (vecB l) = 0 ∧ mgA (tkW ⟨1, [], [n]⟩ [(l.length : Int)]) ⟨1, [], [n]⟩ (vecB l) = vecB (tkV n l) := by
  have hx : (0 ≤ (takeF (l.length : Int) n).l ∧ (takeF (l.length : Int) n).l ≤ 4096) ∧ (takeF (l.length : Int) n).h = (l.length : Int) := by
    unfold takeF
    split
    · exact ⟨by simp only; omega, rfl⟩
    · exact ⟨by simp only; omega, rfl⟩
  obtain ⟨h1, h2, h3⟩ := cut_ok hl hx.1 hx.2
  unfold mgN mgA tkW
  rw [chk_sc n, chk_vec hl, if_pos (spN_sc n hl), spF_sc takeF n hl, lenC_in h, if_pos h1, if_pos h1]
  exact ⟨h2, h3⟩
theorem take_out {n : Int} {l : List Int} (hl : l.length ≤ 4096) (h : 4096 < n ∨ n < -4096) : mgN (tkW ⟨1, [], [n]⟩ [(l.length : Int)]) ⟨1, [], [n]⟩ (vecB l) = 9 := by
  have hs : shB [(takeF (l.length : Int) 4097).l] = false := by
    cases hq : shB [(takeF (l.length : Int) 4097).l] with
    | false => rfl
    | true =>
      have h1 := (shB_iff.1 hq).2.1 _ (List.mem_singleton.2 rfl)
      unfold takeF at h1
      rw [if_neg (by omega)] at h1
      simp only at h1
      omega
  have hW : wiW [takeF (l.length : Int) 4097] = noW 9 := by
    unfold wiW limW
    rw [show [takeF (l.length : Int) 4097].map Spn.l = [(takeF (l.length : Int) 4097).l] from rfl, hs]
    rfl
  unfold mgN tkW
  rw [chk_sc n, chk_vec hl, if_pos (spN_sc n hl), spF_sc takeF n hl, lenC_out h, hW]
  rfl
theorem drop_in (n : Int) {l : List Int} (hl : l.length ≤ 4096) : mgN (drW ⟨1, [], [n]⟩ [(l.length : Int)]) ⟨1, [], [n]⟩ (vecB l) = 0 ∧ mgA (drW ⟨1, [], [n]⟩ [(l.length : Int)]) ⟨1, [], [n]⟩ (vecB l) = vecB (drV n l) := by
  have hb := len_bd n
  have hx : (0 ≤ (dropF (l.length : Int) (lenC n)).l ∧ (dropF (l.length : Int) (lenC n)).l ≤ 4096) ∧ (dropF (l.length : Int) (lenC n)).h = (l.length : Int) := by
    unfold dropF
    split
    · exact ⟨by simp only; omega, rfl⟩
    · exact ⟨by simp only; omega, rfl⟩
  obtain ⟨h1, h2, h3⟩ := cut_ok hl hx.1 hx.2
  unfold mgN mgA drW
  rw [chk_sc n, chk_vec hl, if_pos (spN_sc n hl), spF_sc dropF n hl, if_pos h1, if_pos h1]
  exact ⟨h2, h3⟩
/-- What a drop leaves, from the front or from the end. -/
theorem dr_front {n : Int} {l : List Int} (h : 0 ≤ n ∧ n ≤ 4096) (hl : l.length ≤ 4096) : drV n l = l.drop n.toNat := by
  unfold drV
  rw [lenC_in (by omega)]
  have hF : dropF (l.length : Int) n = ⟨l.length, max 0 ((l.length : Int) - n), min (l.length : Int) n⟩ := if_neg (by omega)
  apply List.ext_getElem
  · rw [cutV_length, hF, List.length_drop]
    simp only
    omega
  · intro i h1 h2
    rw [List.length_drop] at h2
    rw [cutV_get, hF, List.getElem_drop]
    simp only
    rw [if_neg (by omega), show ((i : Int) + min (l.length : Int) n).toNat = n.toNat + i by omega, getD_at (by omega)]
theorem dr_end {n : Int} {l : List Int} (h : -4096 ≤ n ∧ n < 0) : drV n l = l.take ((l.length : Int) + n).toNat := by
  unfold drV
  rw [lenC_in (by omega)]
  have hF : dropF (l.length : Int) n = ⟨l.length, max 0 ((l.length : Int) + n), 0⟩ := if_pos h.2
  apply List.ext_getElem
  · rw [cutV_length, hF, List.length_take]
    simp only
    omega
  · intro i h1 h2
    rw [List.length_take] at h2
    rw [cutV_get, hF, List.getElem_take]
    simp only
    rw [if_neg (by omega), show ((i : Int) + 0).toNat = i by omega, getD_at (by omega)]
theorem dr_out {n : Int} {l : List Int} (h : 4096 < n ∨ n < -4096) (hl : l.length ≤ 4096) : drV n l = [] := by
  apply List.eq_nil_of_length_eq_zero
  unfold drV
  rw [lenC_out h, cutV_length]
  unfold dropF
  rw [if_neg (by decide)]
  simp only
  omega
/-- What a take leaves, from the front or from the end, of as many as there are. -/
theorem tk_front {n : Int} {l : List Int} (h : 0 ≤ n ∧ n ≤ (l.length : Int)) : tkV n l = l.take n.toNat := by
  unfold tkV
  have hF : takeF (l.length : Int) n = ⟨l.length, n, 0⟩ := if_neg (by omega)
  apply List.ext_getElem
  · rw [cutV_length, hF, List.length_take]
    simp only
    omega
  · intro i h1 h2
    rw [List.length_take] at h2
    rw [cutV_get, hF, List.getElem_take]
    simp only
    rw [if_neg (by omega), show ((i : Int) + 0).toNat = i by omega, getD_at (by omega)]
theorem tk_end {n : Int} {l : List Int} (h : -4096 ≤ n ∧ n < 0) (h2 : -n ≤ (l.length : Int)) : tkV n l = l.drop ((l.length : Int) + n).toNat := by
  unfold tkV
  have hF : takeF (l.length : Int) n = ⟨l.length, -n, (l.length : Int) + n⟩ := if_pos ⟨h.2, h.1⟩
  apply List.ext_getElem
  · rw [cutV_length, hF, List.length_drop]
    simp only
    omega
  · intro i h1 h3
    rw [List.length_drop] at h3
    rw [cutV_get, hF, List.getElem_drop]
    simp only
    rw [if_neg (by omega), show ((i : Int) + ((l.length : Int) + n)).toNat = ((l.length : Int) + n).toNat + i by omega, getD_at (by omega)]
theorem cat_vec {l m : List Int} (h : l.length + m.length ≤ 4096) : catE (vecB l) (vecB m) = 0 ∧ catA (vecB l) (vecB m) = vecB (l ++ m) := by
  have c1 : chkB (vecB l) = true := chk_vec (by omega)
  have c2 : chkB (vecB m) = true := chk_vec (by omega)
  have s1 : shB [(l.length : Int)] = true := shB_one (by omega)
  have s2 : shB [(m.length : Int)] = true := shB_one (by omega)
  have hS : catS [(l.length : Int)] [(m.length : Int)] = [((l ++ m).length : Int)] := by
    simp [catS, sdF, sdM, lastN]
  have hlen : (l ++ m).length ≤ 4096 := by rw [List.length_append]; exact h
  have hG : catG [(l.length : Int)] [(m.length : Int)] = (List.range (l ++ m).length).map fun (i : Nat) => catP false false (l.length : Int) (m.length : Int) (i : Int) := by
    unfold catG
    rw [hS, show (cntN [((l ++ m).length : Int)]).toNat = (l ++ m).length from cnt_one hlen]
    simp [sdM, lastN]
  have hW : catW [(l.length : Int)] [(m.length : Int)] = ⟨[((l ++ m).length : Int)], catG [(l.length : Int)] [(m.length : Int)], 0⟩ := by
    unfold catW
    rw [s1, s2, show sdB [(l.length : Int)] [(m.length : Int)] = true by simp [sdB], show sdF [(l.length : Int)] [(m.length : Int)] = sdF [(m.length : Int)] [(l.length : Int)] by simp [sdF], if_pos (show (true && true) = true from rfl), if_pos rfl, if_pos rfl, hS]
    unfold limW
    rw [shB_one hlen]
    rfl
  have hP : ∀ i, i < (l ++ m).length → catP false false (l.length : Int) (m.length : Int) (i : Int) = if i < l.length then (0, (i : Int)) else (1, (i : Int) - l.length) := fun i hi => by
    have hs : (l ++ m).length = l.length + m.length := List.length_append
    unfold catP
    rw [Int.emod_eq_of_lt (by omega) (by omega), Int.ediv_eq_zero_of_lt (by omega) (by omega)]
    by_cases hil : i < l.length
    · rw [if_pos (by omega), if_pos hil]; simp
    · rw [if_neg (by omega), if_neg hil]; simp
  have hany : (catG [(l.length : Int)] [(m.length : Int)]).any (badL [vecB l, vecB m]) = false := by
    rw [List.any_eq_false]
    intro x hx
    rw [hG, List.mem_map] at hx
    obtain ⟨i, hi, rfl⟩ := hx
    rw [List.mem_range] at hi
    have hs : (l ++ m).length = l.length + m.length := List.length_append
    rw [hP i hi]
    by_cases hil : i < l.length
    · rw [if_pos hil]
      simp [badL, vecB]
      omega
    · rw [if_neg hil]
      simp [badL, vecB]
      omega
  have hpick : (catG [(l.length : Int)] [(m.length : Int)]).map (pickL 1 [vecB l, vecB m]) = l ++ m := by
    rw [hG]
    apply List.ext_getElem
    · simp
    · intro i h1 h2
      rw [List.getElem_map, List.getElem_map, List.getElem_range, hP i h2]
      by_cases hil : i < l.length
      · rw [if_pos hil, List.getElem_append_left hil]
        simp [pickL, vecB, hil]
      · rw [if_neg hil, List.getElem_append_right (by omega)]
        have hs : (l ++ m).length = l.length + m.length := List.length_append
        have h3 : i - l.length < m.length := by omega
        simp [pickL, vecB, show ((i : Int) - (l.length : Int)).toNat = i - l.length by omega, h3]
  have hWW : catW (vecB l).s (vecB m).s = ⟨[((l ++ m).length : Int)], catG [(l.length : Int)] [(m.length : Int)], 0⟩ := hW
  have hN : goN 1 [((l ++ m).length : Int)] (catG [(l.length : Int)] [(m.length : Int)]) [vecB l, vecB m] = 0 := by
    unfold goN
    rw [if_pos (.inl rfl), hany, hpick, if_neg (by decide)]
    unfold chkE
    rw [show chkB (⟨1, [((l ++ m).length : Int)], l ++ m⟩ : Ar) = true from chk_vec hlen]
    rfl
  constructor
  · unfold catE
    rw [c1, c2, if_pos (show (true && true) = true from rfl), if_pos (show (vecB l).k = (vecB m).k from rfl)]
    rw [hWW, if_pos rfl]
    exact hN
  · unfold catA
    rw [c1, c2, if_pos (show (true && true) = true from rfl), if_pos (show (vecB l).k = (vecB m).k from rfl)]
    rw [hWW, if_pos rfl]
    show goA 1 [((l ++ m).length : Int)] (catG [(l.length : Int)] [(m.length : Int)]) [vecB l, vecB m] = _
    rw [goA_ok hN, hpick]
    rfl
end Go.Proofs.Ytceooipljhjpaaa
