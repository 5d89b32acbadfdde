/- mold: the plain law of take, drop and catenate, of rows. -/
import Derived.Test.YtceooipljhjpaaaMdV
namespace Go.Proofs.Ytceooipljhjpaaa
open Go.RowKit Go.Shelf

def matD (d a : Nat) (l : List Int) : Ar := ⟨1, [(d : Int), (a : Int)], l⟩
theorem shB_two {d a : Nat} (hd : d ≤ 4096) (ha : a ≤ 4096) (h : d * a ≤ 4096) : shB [(d : Int), (a : Int)] = true := by
  rw [shB_iff]
  refine ⟨by simp, ?_, ?_⟩
  · intro x hx
    simp only [List.mem_cons, List.not_mem_nil, or_false] at hx
    rcases hx with rfl | rfl <;> omega
  · simp only [prodL, Int.mul_one]
    rw [← Int.natCast_mul]
    omega
theorem prodL_two (d a : Nat) : prodL [(d : Int), (a : Int)] = ((d * a : Nat) : Int) := by
  simp only [prodL, Int.mul_one]
  rw [← Int.natCast_mul]
theorem chk_mat {d a : Nat} {l : List Int} (hd : d ≤ 4096) (ha : a ≤ 4096) (h : d * a ≤ 4096) (hl : l.length = d * a) : chkB (matD d a l) = true := by
  rw [chkB_iff]
  exact ⟨shB_two hd ha h, by rw [matD, prodL_two, hl], kndB_iff.2 (.inl rfl)⟩
theorem div_row {Q c t : Nat} (h : t < c) : (Q * c + t) / c = Q ∧ (Q * c + t) % c = t := by
  have hc : 0 < c := by omega
  rw [Nat.add_comm]
  exact ⟨by rw [Nat.add_mul_div_right _ _ hc, Nat.div_eq_of_lt h, Nat.zero_add], by rw [Nat.add_mul_mod_self_right, Nat.mod_eq_of_lt h]⟩
theorem row_lt {d c Q t : Nat} (hQ : Q < d) (h : t < c) : Q * c + t < d * c := by
  have h1 : (Q + 1) * c ≤ d * c := Nat.mul_le_mul_right c hQ
  rw [Nat.add_mul, Nat.one_mul] at h1
  omega
theorem div_lt {d m i : Nat} (h : i < d * m) : i / m < d ∧ 0 < m ∧ i % m < m ∧ i / m * m + i % m = i := by
  have hm : 0 < m := by
    rcases Nat.eq_zero_or_pos m with h0 | h0
    · subst h0; simp at h
    · exact h0
  refine ⟨(Nat.div_lt_iff_lt_mul hm).2 h, hm, Nat.mod_lt _ hm, ?_⟩
  rw [Nat.mul_comm]
  exact Nat.div_add_mod i m
/-- Rows of both, side by side. -/
def catR (d a b : Nat) (p q : List Int) : List Int := (List.range (d * (a + b))).map fun i => if i % (a + b) < a then p.getD (i / (a + b) * a + i % (a + b)) 0 else q.getD (i / (a + b) * b + i % (a + b) - a) 0
theorem catR_length (d a b : Nat) (p q : List Int) : (catR d a b p q).length = d * (a + b) := by simp [catR]
theorem catR_getD {d a b : Nat} {p q : List Int} {i : Nat} (h : i < d * (a + b)) : (catR d a b p q).getD i 0 = if i % (a + b) < a then p.getD (i / (a + b) * a + i % (a + b)) 0 else q.getD (i / (a + b) * b + i % (a + b) - a) 0 := by
  have h2 : i < (catR d a b p q).length := by rw [catR_length]; exact h
  rw [getD_at h2]
  simp [catR]
theorem cat_mat {d a b : Nat} {p q : List Int} (hd : d ≤ 4) (hs : d * (a + b) ≤ 4096) (hab : a + b ≤ 4096) (hp : p.length = d * a) (hq : q.length = d * b) : catE (matD d a p) (matD d b q) = 0 ∧ catA (matD d a p) (matD d b q) = matD d (a + b) (catR d a b p q) := by
  have ha : d * a ≤ 4096 := Nat.le_trans (Nat.mul_le_mul_left d (Nat.le_add_right a b)) hs
  have hb : d * b ≤ 4096 := Nat.le_trans (Nat.mul_le_mul_left d (Nat.le_add_left b a)) hs
  have c1 : chkB (matD d a p) = true := chk_mat (by omega) (by omega) ha hp
  have c2 : chkB (matD d b q) = true := chk_mat (by omega) (by omega) hb hq
  have s1 : shB [(d : Int), (a : Int)] = true := shB_two (by omega) (by omega) ha
  have s2 : shB [(d : Int), (b : Int)] = true := shB_two (by omega) (by omega) hb
  have s3 : shB [(d : Int), ((a + b : Nat) : Int)] = true := shB_two (by omega) hab hs
  have hS : catS [(d : Int), (a : Int)] [(d : Int), (b : Int)] = [(d : Int), ((a + b : Nat) : Int)] := by
    simp [catS, sdF, sdM, lastN]
  have hG : catG [(d : Int), (a : Int)] [(d : Int), (b : Int)] = (List.range (d * (a + b))).map fun (i : Nat) => catP false false (a : Int) (b : Int) (i : Int) := by
    unfold catG
    rw [hS, cntN_ok s3, prodL_two, Int.toNat_natCast]
    simp [sdM, lastN]
  have hW : catW [(d : Int), (a : Int)] [(d : Int), (b : Int)] = ⟨[(d : Int), ((a + b : Nat) : Int)], catG [(d : Int), (a : Int)] [(d : Int), (b : Int)], 0⟩ := by
    unfold catW
    rw [s1, s2, show sdB [(d : Int), (a : Int)] [(d : Int), (b : Int)] = true by simp [sdB], show sdF [(d : Int), (a : Int)] [(d : Int), (b : Int)] = sdF [(d : Int), (b : Int)] [(d : Int), (a : Int)] by simp [sdF], if_pos (show (true && true) = true from rfl), if_pos rfl, if_pos rfl, hS]
    unfold limW
    rw [s3]
    rfl
  have hP : ∀ i, i < d * (a + b) → catP false false (a : Int) (b : Int) (i : Int) = if i % (a + b) < a then (0, ((i / (a + b) * a + i % (a + b) : Nat) : Int)) else (1, ((i / (a + b) * b + i % (a + b) - a : Nat) : Int)) := fun i hi => by
    unfold catP
    rw [← Int.natCast_add, ← Int.natCast_emod, ← Int.natCast_ediv]
    by_cases h : i % (a + b) < a
    · rw [if_pos (by omega), if_pos h]
      simp
    · rw [if_neg (by omega), if_neg h]
      have h2 : a ≤ i / (a + b) * b + i % (a + b) := by omega
      simp only [Bool.false_eq_true, if_false]
      rw [Int.natCast_sub h2]
      simp
  obtain ⟨h1, h2⟩ := go_law (k := 1) (L := [matD d a p, matD d b q]) (s := [(d : Int), ((a + b : Nat) : Int)]) (g := catG [(d : Int), (a : Int)] [(d : Int), (b : Int)]) (.inl rfl) (fun B hB => by
    simp only [List.mem_cons, List.not_mem_nil, or_false] at hB
    rcases hB with rfl | rfl
    · exact ⟨c1, rfl⟩
    · exact ⟨c2, rfl⟩) s3 (by rw [hG, List.length_map, List.length_range, prodL_two]) (fun x hx => by
    rw [hG] at hx
    obtain ⟨i, hi, rfl⟩ := List.mem_map.1 hx
    have hi2 := List.mem_range.1 hi
    obtain ⟨q1, q2, q3, q4⟩ := div_lt hi2
    rw [hP i hi2]
    right
    split
    · rename_i h
      exact ⟨0, matD d a p, rfl, rfl, by simp only; omega, by have := row_lt q1 h; simp only [matD]; omega⟩
    · rename_i h
      have h4 : i % (a + b) - a < b := by omega
      exact ⟨1, matD d b q, rfl, rfl, by simp only; omega, by have := row_lt q1 h4; simp only [matD]; omega⟩)
  have hE : (catG [(d : Int), (a : Int)] [(d : Int), (b : Int)]).map (pickL 1 [matD d a p, matD d b q]) = catR d a b p q := by
    rw [hG, List.map_map]
    unfold catR
    refine List.map_congr_left fun i hi => ?_
    rw [Function.comp_apply, hP i (List.mem_range.1 hi)]
    unfold pickL
    split
    · rw [if_neg (by simp), Int.toNat_natCast]
      rfl
    · rw [if_neg (by simp), Int.toNat_natCast]
      rfl
  rw [hE] at h2
  constructor
  · unfold catE
    rw [c1, c2, if_pos (show (true && true) = true from rfl), if_pos (show (matD d a p).k = (matD d b q).k from rfl)]
    show (if (catW [(d : Int), (a : Int)] [(d : Int), (b : Int)]).n = 0 then goN 1 (catW [(d : Int), (a : Int)] [(d : Int), (b : Int)]).s (catW [(d : Int), (a : Int)] [(d : Int), (b : Int)]).g [matD d a p, matD d b q] else _) = 0
    rw [hW, if_pos rfl]
    exact h1
  · unfold catA
    rw [c1, c2, if_pos (show (true && true) = true from rfl), if_pos (show (matD d a p).k = (matD d b q).k from rfl)]
    show (if (catW [(d : Int), (a : Int)] [(d : Int), (b : Int)]).n = 0 then goA 1 (catW [(d : Int), (a : Int)] [(d : Int), (b : Int)]).s (catW [(d : Int), (a : Int)] [(d : Int), (b : Int)]).g [matD d a p, matD d b q] else _) = _
    rw [hW, if_pos rfl]
    exact h2
/-- Some columns of all rows. -/
def colV (d c m o : Nat) (l : List Int) : List Int := (List.range (d * m)).map fun i => l.getD (i / m * c + (i % m + o)) 0
theorem colV_get {d c m o : Nat} {l : List Int} {i : Nat} (h : i < (colV d c m o l).length) : (colV d c m o l)[i] = l.getD (i / m * c + (i % m + o)) 0 := by
  simp [colV]
theorem col_ok {d c m o : Nat} {l : List Int} (hd : d ≤ 4) (hc : c ≤ 4096) (hm : o + m ≤ c) (hs : d * c ≤ 4096) (hl : l.length = d * c) : (wiW [⟨(d : Int), (d : Int), 0⟩, ⟨(c : Int), (m : Int), (o : Int)⟩]).n = 0 ∧ goN 1 (wiW [⟨(d : Int), (d : Int), 0⟩, ⟨(c : Int), (m : Int), (o : Int)⟩]).s (wiW [⟨(d : Int), (d : Int), 0⟩, ⟨(c : Int), (m : Int), (o : Int)⟩]).g [matD d c l] = 0 ∧ goA 1 (wiW [⟨(d : Int), (d : Int), 0⟩, ⟨(c : Int), (m : Int), (o : Int)⟩]).s (wiW [⟨(d : Int), (d : Int), 0⟩, ⟨(c : Int), (m : Int), (o : Int)⟩]).g [matD d c l] = matD d m (colV d c m o l) := by
  have hdm : d * m ≤ 4096 := Nat.le_trans (Nat.mul_le_mul_left d (show m ≤ c by omega)) hs
  have s1 : shB [(d : Int), (m : Int)] = true := shB_two (by omega) (by omega) hdm
  have hP : ∀ i, i < d * m → wiP [⟨(d : Int), (d : Int), 0⟩, ⟨(c : Int), (m : Int), (o : Int)⟩] (i : Int) = (0, ((i / m * c + (i % m + o) : Nat) : Int)) := fun i hi => by
    obtain ⟨q1, q2, q3, q4⟩ := div_lt hi
    have e1 : (i : Int) % (m : Int) = ((i % m : Nat) : Int) := (Int.natCast_emod i m).symm
    have e2 : (i : Int) / (m : Int) = ((i / m : Nat) : Int) := (Int.natCast_ediv i m).symm
    generalize i / m = Q at *
    generalize i % m = R at *
    have e3 : (Q : Int) % (d : Int) = (Q : Int) := Int.emod_eq_of_lt (by omega) (by omega)
    unfold wiP
    simp only [List.reverse_cons, List.reverse_nil, List.nil_append, List.cons_append, wiR]
    rw [e1, e2, e3, if_neg (by omega), if_neg (by omega)]
    simp only [Int.zero_add, Int.mul_one, Int.one_mul, Int.add_zero, Int.natCast_add, Int.natCast_mul]
    rw [Int.add_comm]
  have hW : wiW [⟨(d : Int), (d : Int), 0⟩, ⟨(c : Int), (m : Int), (o : Int)⟩] = ⟨[(d : Int), (m : Int)], (List.range (d * m)).map fun (i : Nat) => wiP [⟨(d : Int), (d : Int), 0⟩, ⟨(c : Int), (m : Int), (o : Int)⟩] (i : Int), 0⟩ := by
    unfold wiW wiG limW
    rw [show List.map Spn.l [(⟨(d : Int), (d : Int), 0⟩ : Spn), ⟨(c : Int), (m : Int), (o : Int)⟩] = [(d : Int), (m : Int)] from rfl, if_pos s1, cntN_ok s1, prodL_two, Int.toNat_natCast]
  obtain ⟨h1, h2⟩ := go_law (k := 1) (L := [matD d c l]) (s := [(d : Int), (m : Int)]) (g := (List.range (d * m)).map fun (i : Nat) => wiP [⟨(d : Int), (d : Int), 0⟩, ⟨(c : Int), (m : Int), (o : Int)⟩] (i : Int)) (.inl rfl) (fun B hB => by rw [List.mem_singleton] at hB; subst hB; exact ⟨chk_mat (by omega) hc hs hl, rfl⟩) s1 (by rw [List.length_map, List.length_range, prodL_two]) (fun x hx => by
    obtain ⟨i, hi, rfl⟩ := List.mem_map.1 hx
    have hi2 := List.mem_range.1 hi
    obtain ⟨q1, q2, q3, q4⟩ := div_lt hi2
    rw [hP i hi2]
    exact .inr ⟨0, matD d c l, rfl, rfl, by simp only; omega, by have := row_lt (c := c) (t := i % m + o) q1 (by omega); simp only [matD]; omega⟩)
  rw [hW]
  refine ⟨rfl, h1, h2.trans ?_⟩
  unfold matD
  congr 1
  rw [List.map_map]
  unfold colV
  refine List.map_congr_left fun i hi => ?_
  rw [Function.comp_apply, hP i (List.mem_range.1 hi)]
  unfold pickL
  rw [if_neg (by simp), Int.toNat_natCast]
  rfl
theorem col_left {d a b : Nat} {p q : List Int} (hp : p.length = d * a) : colV d (a + b) a 0 (catR d a b p q) = p := by
  apply List.ext_getElem
  · rw [hp]; simp [colV]
  · intro i h1 h2
    have hi : i < d * a := by rw [← hp]; exact h2
    obtain ⟨q1, q2, q3, q4⟩ := div_lt hi
    have hr := row_lt (c := a + b) (t := i % a) q1 (by omega)
    obtain ⟨e1, e2⟩ := div_row (Q := i / a) (c := a + b) (t := i % a) (by omega)
    rw [colV_get, Nat.add_zero, catR_getD hr, e1, e2, if_pos q3, q4, getD_at h2]
theorem col_right {d a b : Nat} {p q : List Int} (hq : q.length = d * b) : colV d (a + b) b a (catR d a b p q) = q := by
  apply List.ext_getElem
  · rw [hq]; simp [colV]
  · intro i h1 h2
    have hi : i < d * b := by rw [← hq]; exact h2
    obtain ⟨q1, q2, q3, q4⟩ := div_lt hi
    have hr := row_lt (c := a + b) (t := i % b + a) q1 (by omega)
    obtain ⟨e1, e2⟩ := div_row (Q := i / b) (c := a + b) (t := i % b + a) (by omega)
    rw [colV_get, catR_getD hr, e1, e2, if_neg (by omega), show i / b * b + (i % b + a) - a = i by omega, getD_at h2]
theorem spN_two (x y : Int) {d c : Nat} (hd : d ≤ 4) (hc : c ≤ 4096) (hs : d * c ≤ 4096) : spN (vecB [x, y]) [(d : Int), (c : Int)] = 0 := by
  unfold spN
  rw [if_pos (shB_two (by omega) hc hs), if_pos (lst_vec (by simp))]
  simp [spS, vecB]
theorem spF_two (kf : Int → Int → Spn) (x y : Int) {d c : Nat} (hd : d ≤ 4) (hc : c ≤ 4096) (hs : d * c ≤ 4096) : spF kf (vecB [x, y]) [(d : Int), (c : Int)] = [kf (d : Int) (lenC x), kf (c : Int) (lenC y)] := by
  unfold spF
  rw [if_pos (spN_two x y hd hc hs)]
  simp [spS, rsS, vecB]
theorem take_mat {d a b : Nat} {p q : List Int} (hd : d ≤ 4) (hab : a + b ≤ 4096) (hs : d * (a + b) ≤ 4096) (hp : p.length = d * a) : mgN (tkW (vecB [(d : Int), (a : Int)]) [(d : Int), ((a + b : Nat) : Int)]) (vecB [(d : Int), (a : Int)]) (matD d (a + b) (catR d a b p q)) = 0 ∧ mgA (tkW (vecB [(d : Int), (a : Int)]) [(d : Int), ((a + b : Nat) : Int)]) (vecB [(d : Int), (a : Int)]) (matD d (a + b) (catR d a b p q)) = matD d a p := by
  obtain ⟨h1, h2, h3⟩ := col_ok (d := d) (c := a + b) (m := a) (o := 0) (l := catR d a b p q) hd hab (by omega) hs (catR_length _ _ _ _ _)
  rw [col_left hp] at h3
  have t0 : takeF (d : Int) (lenC (d : Int)) = ⟨(d : Int), (d : Int), 0⟩ := by rw [lenC_in (by omega)]; exact if_neg (by omega)
  have t1 : takeF ((a + b : Nat) : Int) (lenC (a : Int)) = ⟨((a + b : Nat) : Int), (a : Int), ((0 : Nat) : Int)⟩ := by rw [lenC_in (by omega)]; exact if_neg (by omega)
  have c1 : chkB (vecB [(d : Int), (a : Int)]) = true := chk_vec (by simp)
  have c2 : chkB (matD d (a + b) (catR d a b p q)) = true := chk_mat (by omega) hab hs (catR_length _ _ _ _ _)
  unfold mgN mgA tkW
  rw [c1, c2, if_pos (spN_two _ _ hd hab hs), spF_two _ _ _ hd hab hs, t0, t1]
  simp only [Bool.and_self, if_true]
  rw [if_pos h1, if_pos h1]
  exact ⟨h2, h3⟩
theorem drop_mat {d a b : Nat} {p q : List Int} (hd : d ≤ 4) (hab : a + b ≤ 4096) (hs : d * (a + b) ≤ 4096) (hq : q.length = d * b) : mgN (drW (vecB [0, (a : Int)]) [(d : Int), ((a + b : Nat) : Int)]) (vecB [0, (a : Int)]) (matD d (a + b) (catR d a b p q)) = 0 ∧ mgA (drW (vecB [0, (a : Int)]) [(d : Int), ((a + b : Nat) : Int)]) (vecB [0, (a : Int)]) (matD d (a + b) (catR d a b p q)) = matD d b q := by
  obtain ⟨h1, h2, h3⟩ := col_ok (d := d) (c := a + b) (m := b) (o := a) (l := catR d a b p q) hd hab (by omega) hs (catR_length _ _ _ _ _)
  rw [col_right hq] at h3
  have t0 : dropF (d : Int) (lenC 0) = ⟨(d : Int), (d : Int), 0⟩ := by
    rw [lenC_in (by omega)]
    unfold dropF
    rw [if_neg (by omega), show max 0 ((d : Int) - 0) = d by omega, show min (d : Int) 0 = 0 by omega]
  have t1 : dropF ((a + b : Nat) : Int) (lenC (a : Int)) = ⟨((a + b : Nat) : Int), (b : Int), (a : Int)⟩ := by
    rw [lenC_in (by omega)]
    unfold dropF
    rw [if_neg (by omega), show max 0 (((a + b : Nat) : Int) - (a : Int)) = b by omega, show min (((a + b : Nat) : Int)) (a : Int) = a by omega]
  have c1 : chkB (vecB [0, (a : Int)]) = true := chk_vec (by simp)
  have c2 : chkB (matD d (a + b) (catR d a b p q)) = true := chk_mat (by omega) hab hs (catR_length _ _ _ _ _)
  unfold mgN mgA drW
  rw [c1, c2, if_pos (spN_two _ _ hd hab hs), spF_two _ _ _ hd hab hs, t0, t1]
  simp only [Bool.and_self, if_true]
  rw [if_pos h1, if_pos h1]
  exact ⟨h2, h3⟩
/-- What is taken of a vector, and what is dropped by as many, put together. -/
theorem part_front {k : Int} {l : List Int} (h : 0 ≤ k ∧ k ≤ (l.length : Int)) (hl : l.length ≤ 4096) : tkV k l ++ drV k l = l := by
  rw [tk_front h, dr_front ⟨h.1, by omega⟩ hl, List.take_append_drop]
theorem part_end {k : Int} {l : List Int} (h : -(l.length : Int) ≤ k ∧ k < 0) (hl : l.length ≤ 4096) : drV k l ++ tkV k l = l := by
  rw [dr_end ⟨by omega, h.2⟩, tk_end ⟨by omega, h.2⟩ (by omega), List.take_append_drop]
theorem part_len {k : Int} {l : List Int} (h : -(l.length : Int) ≤ k ∧ k ≤ (l.length : Int)) (hl : l.length ≤ 4096) : (tkV k l).length + (drV k l).length = l.length := by
  by_cases h0 : 0 ≤ k
  · rw [← List.length_append, part_front ⟨h0, h.2⟩ hl]
  · rw [Nat.add_comm, ← List.length_append, part_end ⟨h.1, by omega⟩ hl]
end Go.Proofs.Ytceooipljhjpaaa
