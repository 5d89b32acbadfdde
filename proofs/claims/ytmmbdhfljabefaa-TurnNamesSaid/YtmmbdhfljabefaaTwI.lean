/- Vectors put together, reversed, rotated. -/
import Derived.Test.YtmmbdhfljabefaaTuT
import Derived.Test.YtmmbdhfljabefaaMdE
namespace Go.Proofs.Ytmmbdhfljabefaa
open Go.RowKit Go.Shelf

def vecB (l : List Int) : Ar := ⟨1, [(l.length : Int)], l⟩
theorem shB_one {n : Nat} (h : n ≤ 4096) : shB [(n : Int)] = true := by
  rw [shB_iff]
  refine ⟨by simp, ?_, ?_⟩
  · intro l hl
    rw [List.mem_singleton] at hl
    omega
  · simp [prodL]; omega
theorem prodL_one (x : Int) : prodL [x] = x := by simp [prodL]
theorem chk_vec {l : List Int} (h : l.length ≤ 4096) : chkB (vecB l) = true := by
  rw [chkB_iff]
  exact ⟨shB_one h, by rw [vecB, prodL_one], kndB_iff.2 (.inl rfl)⟩
theorem cnt_one {n : Nat} (h : n ≤ 4096) : cnt [(n : Int)] = n := by
  have h1 := cnt_int [(n : Int)]
  rw [cntN_ok (shB_one h), prodL_one] at h1
  omega
theorem getD_at {l : List Int} {i : Nat} (h : i < l.length) : l.getD i 0 = l[i] := by simp [h]
theorem rowN_one (x : Int) : rowN [x] = x := by rfl
theorem rev_vec {l : List Int} (h : l.length ≤ 4096) : revA (vecB l) = vecB l.reverse := by
  rw [(rev_ok (chk_vec h)).2.1]
  show (⟨1, [(l.length : Int)], mvE (cnt [(l.length : Int)]) (revQ [(l.length : Int)]) l⟩ : Ar) = ⟨1, [(l.reverse.length : Int)], l.reverse⟩
  rw [cnt_one h, List.length_reverse]
  congr 1
  apply List.ext_getElem
  · rw [mvE_length, List.length_reverse]
  · intro i h1 h2
    rw [mvE_length] at h1
    have hg := mvE_getD (P := revQ [(l.length : Int)]) (e := l) h1
    rw [getD_at (by rw [mvE_length]; exact h1)] at hg
    rw [hg, List.getElem_reverse]
    have hq : (revQ [(l.length : Int)] i).toNat = l.length - 1 - i := by
      unfold revQ
      rw [rowN_one, Int.ediv_eq_zero_of_lt (by omega) (by omega), Int.emod_eq_of_lt (by omega) (by omega)]
      omega
    rw [hq, getD_at]
theorem rot_vec {l m : List Int} (h : l.length + m.length ≤ 4096) : rotA (l.length : Int) (vecB (l ++ m)) = vecB (m ++ l) := by
  have hlen : (l ++ m).length ≤ 4096 := by rw [List.length_append]; exact h
  rw [(rot_ok (chk_vec hlen) _).2.1]
  show (⟨1, [((l ++ m).length : Int)], mvE (cnt [((l ++ m).length : Int)]) (rotQ [((l ++ m).length : Int)] (l.length : Int)) (l ++ m)⟩ : Ar) = ⟨1, [((m ++ l).length : Int)], m ++ l⟩
  rw [cnt_one hlen]
  have hl2 : (m ++ l).length = (l ++ m).length := by simp [Nat.add_comm]
  rw [hl2]
  congr 1
  apply List.ext_getElem
  · rw [mvE_length, hl2]
  · intro i h1 h2
    rw [mvE_length] at h1
    have hg := mvE_getD (P := rotQ [((l ++ m).length : Int)] (l.length : Int)) (e := l ++ m) h1
    rw [getD_at (by rw [mvE_length]; exact h1)] at hg
    rw [hg]
    have hs : (l ++ m).length = l.length + m.length := List.length_append
    have hq : rotQ [((l ++ m).length : Int)] (l.length : Int) i = ((i : Int) + l.length) % ((l ++ m).length : Int) := by
      unfold rotQ
      rw [rowN_one, Int.ediv_eq_zero_of_lt (by omega) (by omega), Int.emod_eq_of_lt (a := (i : Int)) (by omega) (by omega)]
      omega
    rw [hq]
    by_cases hi : i < m.length
    · rw [Int.emod_eq_of_lt (by omega) (by omega), show ((i : Int) + (l.length : Int)).toNat = l.length + i by omega, List.getElem_append_left hi, getD_at (by omega), List.getElem_append_right (by omega)]
      simp only [Nat.add_sub_cancel_left]
    · have he : ((i : Int) + (l.length : Int)) % ((l ++ m).length : Int) = (i : Int) - m.length := by
        rw [show (i : Int) + (l.length : Int) = ((i : Int) - m.length) + ((l ++ m).length : Int) by omega, Int.add_emod_right, Int.emod_eq_of_lt (by omega) (by omega)]
      rw [he, show ((i : Int) - (m.length : Int)).toNat = i - m.length by omega, List.getElem_append_right (by omega), getD_at (by omega), List.getElem_append_left (by omega)]
theorem cat_vec {l m : List Int} (h : l.length + m.length ≤ 4096) : catE (vecB l) (vecB m) = 0 ∧ catA (vecB l) (vecB m) = vecB (l ++ m) := by
  have c1 : chkB (vecB l) = true := chk_vec (by omega)
  have c2 : chkB (vecB m) = true := chk_vec (by omega)
  have s1 : shB [(l.length : Int)] = true := shB_one (by omega)
  have s2 : shB [(m.length : Int)] = true := shB_one (by omega)
  have hS : catS [(l.length : Int)] [(m.length : Int)] = [((l ++ m).length : Int)] := by
    simp [catS, sdF, sdM, lastN]
  have hlen : (l ++ m).length ≤ 4096 := by rw [List.length_append]; exact h
  have hG : catG [(l.length : Int)] [(m.length : Int)] = (List.range (l ++ m).length).map fun (i : Nat) => catP false false (l.length : Int) (m.length : Int) (i : Int) := by
    unfold catG
    rw [hS, show (cntN [((l ++ m).length : Int)]).toNat = (l ++ m).length from cnt_one hlen]
    simp [sdM, lastN]
  have hW : catW [(l.length : Int)] [(m.length : Int)] = ⟨[((l ++ m).length : Int)], catG [(l.length : Int)] [(m.length : Int)], 0⟩ := by
    unfold catW
    rw [s1, s2, show sdB [(l.length : Int)] [(m.length : Int)] = true by simp [sdB], show sdF [(l.length : Int)] [(m.length : Int)] = sdF [(m.length : Int)] [(l.length : Int)] by simp [sdF], if_pos (show (true && true) = true from rfl), if_pos rfl, if_pos rfl, hS]
    unfold limW
    rw [shB_one hlen]
    rfl
  have hP : ∀ i, i < (l ++ m).length → catP false false (l.length : Int) (m.length : Int) (i : Int) = if i < l.length then (0, (i : Int)) else (1, (i : Int) - l.length) := fun i hi => by
    have hs : (l ++ m).length = l.length + m.length := List.length_append
    unfold catP
    rw [Int.emod_eq_of_lt (by omega) (by omega), Int.ediv_eq_zero_of_lt (by omega) (by omega)]
    by_cases hil : i < l.length
    · rw [if_pos (by omega), if_pos hil]; simp
    · rw [if_neg (by omega), if_neg hil]; simp
  have hany : (catG [(l.length : Int)] [(m.length : Int)]).any (badL [vecB l, vecB m]) = false := by
    rw [List.any_eq_false]
    intro x hx
    rw [hG, List.mem_map] at hx
    obtain ⟨i, hi, rfl⟩ := hx
    rw [List.mem_range] at hi
    have hs : (l ++ m).length = l.length + m.length := List.length_append
    rw [hP i hi]
    by_cases hil : i < l.length
    · rw [if_pos hil]
      simp [badL, vecB]
      omega
    · rw [if_neg hil]
      simp [badL, vecB]
      omega
  have hpick : (catG [(l.length : Int)] [(m.length : Int)]).map (pickL 1 [vecB l, vecB m]) = l ++ m := by
    rw [hG]
    apply List.ext_getElem
    · simp
    · intro i h1 h2
      rw [List.getElem_map, List.getElem_map, List.getElem_range, hP i h2]
      by_cases hil : i < l.length
      · rw [if_pos hil, List.getElem_append_left hil]
        simp [pickL, vecB, hil]
      · rw [if_neg hil, List.getElem_append_right (by omega)]
        have hs : (l ++ m).length = l.length + m.length := List.length_append
        have h3 : i - l.length < m.length := by omega
        simp [pickL, vecB, show ((i : Int) - (l.length : Int)).toNat = i - l.length by omega, h3]
  have hWW : catW (vecB l).s (vecB m).s = ⟨[((l ++ m).length : Int)], catG [(l.length : Int)] [(m.length : Int)], 0⟩ := hW
  have hN : goN 1 [((l ++ m).length : Int)] (catG [(l.length : Int)] [(m.length : Int)]) [vecB l, vecB m] = 0 := by
    unfold goN
    rw [if_pos (.inl rfl), hany, hpick, if_neg (by decide)]
    unfold chkE
    rw [show chkB (⟨1, [((l ++ m).length : Int)], l ++ m⟩ : Ar) = true from chk_vec hlen]
    rfl
  constructor
  · unfold catE
    rw [c1, c2, if_pos (show (true && true) = true from rfl), if_pos (show (vecB l).k = (vecB m).k from rfl)]
    rw [hWW, if_pos rfl]
    exact hN
  · unfold catA
    rw [c1, c2, if_pos (show (true && true) = true from rfl), if_pos (show (vecB l).k = (vecB m).k from rfl)]
    rw [hWW, if_pos rfl]
    show goA 1 [((l ++ m).length : Int)] (catG [(l.length : Int)] [(m.length : Int)]) [vecB l, vecB m] = _
    rw [goA_ok hN, hpick]
    rfl
end Go.Proofs.Ytmmbdhfljabefaa
