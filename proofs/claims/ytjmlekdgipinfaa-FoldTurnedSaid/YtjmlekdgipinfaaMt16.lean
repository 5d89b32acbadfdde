/- turn: axes put in another order, plainly. -/
import Derived.Test.YtjmlekdgipinfaaMt15
namespace Go.Proofs.Ytjmlekdgipinfaa
open Go.RowKit Go.Shelf

/-- What the axes told so far come to. -/
def sumF (S T : List Int) (n : Int) (l : List (Fin S.length)) : Int := l.foldl (fun a i => a + digL S n i * T.getD i.val 0) 0
theorem sumF_nil (S T : List Int) (n : Int) : sumF S T n [] = 0 := rfl
theorem sumF_snoc (S T : List Int) (n : Int) (l : List (Fin S.length)) (i : Fin S.length) : sumF S T n (l ++ [i]) = sumF S T n l + digL S n i * T.getD i.val 0 := by simp [sumF]
theorem digL_bd {S : List Int} {n : Int} (i : Fin S.length) (hpos : ∀ x ∈ S, 0 < x) (h4 : ∀ x ∈ S, x ≤ 4096) : 0 ≤ digL S n i ∧ digL S n i ≤ 4096 := by
  unfold digL
  have h1 := hpos _ (List.getElem_mem i.isLt)
  have h2 := h4 _ (List.getElem_mem i.isLt)
  have h3 := Int.emod_nonneg (n / prodL (S.drop (i.val + 1))) (show S[i.val] ≠ 0 by omega)
  have h4 := Int.emod_lt_of_pos (n / prodL (S.drop (i.val + 1))) h1
  exact ⟨h3, by omega⟩
theorem mul_bd {a b : Int} (h0 : 0 ≤ a) (h1 : a ≤ 4096) (h2 : 0 ≤ b) (h3 : b ≤ 4096) : 0 ≤ a * b ∧ a * b ≤ 16777216 :=
  ⟨Int.mul_nonneg h0 h2, Int.mul_le_mul (c := 4096) (d := 4096) h1 h3 h2 (by decide)⟩
theorem getD_bd {T : List Int} {i : Nat} (hT : ∀ x ∈ T, 0 ≤ x ∧ x ≤ 4096) : 0 ≤ T.getD i 0 ∧ T.getD i 0 ≤ 4096 := by
  rw [List.getD]
  cases h : T[i]? with
  | none => exact ⟨by decide, by decide⟩
  | some x => exact hT x (List.mem_of_getElem? h)
theorem foldF_bd {S T : List Int} {n : Int} (hpos : ∀ x ∈ S, 0 < x) (h4 : ∀ x ∈ S, x ≤ 4096) (hT : ∀ x ∈ T, 0 ≤ x ∧ x ≤ 4096) : ∀ (l : List (Fin S.length)) (a : Int), 0 ≤ a → 0 ≤ l.foldl (fun a i => a + digL S n i * T.getD i.val 0) a ∧ l.foldl (fun a i => a + digL S n i * T.getD i.val 0) a ≤ a + 16777216 * l.length
  | [], a, h => by simp; exact h
  | i :: l, a, h => by
    obtain ⟨d0, d1⟩ := digL_bd (n := n) i hpos h4
    obtain ⟨t0, t1⟩ := getD_bd (T := T) (i := i.val) hT
    obtain ⟨m0, m1⟩ := mul_bd d0 d1 t0 t1
    obtain ⟨g1, g2⟩ := foldF_bd hpos h4 hT l (a + digL S n i * T.getD i.val 0) (by omega)
    rw [List.foldl_cons, List.length_cons]
    exact ⟨g1, by omega⟩
theorem sumF_bd {S T : List Int} {n : Int} (hpos : ∀ x ∈ S, 0 < x) (h4 : ∀ x ∈ S, x ≤ 4096) (hT : ∀ x ∈ T, 0 ≤ x ∧ x ≤ 4096) (l : List (Fin S.length)) : 0 ≤ sumF S T n l ∧ sumF S T n l ≤ 16777216 * l.length := by
  have := foldF_bd (n := n) hpos h4 hT l 0 (Int.le_refl 0)
  rw [Int.zero_add] at this
  exact this
def placeF (S T : List Int) (n : Int) : Int := sumF S T n (downF S.length S.length)
def sumL : List Int → Int
  | [] => 0
  | a :: r => a + sumL r
theorem sumL_perm {a b : List Int} (h : a.Perm b) : sumL a = sumL b := by
  induction h with
  | nil => rfl
  | cons x _ ih => rw [sumL, sumL, ih]
  | swap x y l => simp only [sumL]; omega
  | trans _ _ h1 h2 => exact h1.trans h2
theorem prodL_perm {a b : List Int} (h : a.Perm b) : prodL a = prodL b := by
  induction h with
  | nil => rfl
  | cons x _ ih => rw [prodL, prodL, ih]
  | swap x y l => simp only [prodL]; rw [← Int.mul_assoc, ← Int.mul_assoc, Int.mul_comm y x]
  | trans _ _ h1 h2 => exact h1.trans h2
theorem perm_range_succ {n : Nat} {l : List Nat} (hm : n ∈ l) (h : (l.erase n).Perm (List.range n)) : l.Perm (List.range (n + 1)) := by
  refine (List.perm_cons_erase hm).trans ((h.cons n).trans ?_)
  rw [List.range_succ]
  exact (List.perm_append_singleton n (List.range n)).symm
theorem range_perm_all : ∀ (n : Nat) (l : List Nat), (∀ i, i < n → i ∈ l) → l.length = n → l.Perm (List.range n)
  | 0, l, _, hl => by rw [List.eq_nil_of_length_eq_zero hl]; exact List.Perm.refl _
  | n + 1, l, h, hl => by
    have hm := h n (Nat.lt_succ_self n)
    refine perm_range_succ hm (range_perm_all n _ (fun i hi => ?_) (by rw [List.length_erase_of_mem hm, hl]; rfl))
    exact (List.mem_erase_of_ne (by omega)).2 (h i (by omega))
theorem nodup_le : ∀ (n : Nat) (l : List Nat), l.Nodup → (∀ i ∈ l, i < n) → l.length ≤ n
  | 0, l, _, hb => by
    cases l with
    | nil => exact Nat.le_refl _
    | cons a r => exact absurd (hb a (by simp)) (Nat.not_lt_zero _)
  | n + 1, l, hn, hb => by
    by_cases hm : n ∈ l
    · have := nodup_le n (l.erase n) (hn.erase n) (fun i hi => by
        have h1 := (List.Nodup.mem_erase_iff hn).1 hi
        have := hb i h1.2
        have := h1.1
        omega)
      rw [List.length_erase_of_mem hm] at this
      omega
    · have := nodup_le n l hn (fun i hi => by
        have := hb i hi
        have : i ≠ n := fun e => hm (e ▸ hi)
        omega)
      omega
theorem range_perm_nodup : ∀ (n : Nat) (l : List Nat), l.Nodup → (∀ i ∈ l, i < n) → l.length = n → l.Perm (List.range n)
  | 0, l, _, _, hl => by rw [List.eq_nil_of_length_eq_zero hl]; exact List.Perm.refl _
  | n + 1, l, hn, hb, hl => by
    by_cases hm : n ∈ l
    · refine perm_range_succ hm (range_perm_nodup n _ (hn.erase n) (fun i hi => ?_) (by rw [List.length_erase_of_mem hm, hl]; rfl))
      have h1 := (List.Nodup.mem_erase_iff hn).1 hi
      have := hb i h1.2
      have := h1.1
      omega
    · have := nodup_le n l hn (fun i hi => by
        have := hb i hi
        have : i ≠ n := fun e => hm (e ▸ hi)
        omega)
      omega
theorem perm_facts {n : Nat} {p : List Nat} (h : p.Perm (List.range n)) : p.length = n ∧ p.Nodup ∧ ∀ i ∈ p, i < n :=
  ⟨by rw [h.length_eq, List.length_range], h.nodup_iff.2 List.nodup_range, fun i hi => List.mem_range.1 (h.mem_iff.1 hi)⟩
/-- The shape and the strides, behind so many axes. -/
def stS (s : List Int) (p : List Nat) : Nat → List Int
  | 0 => List.replicate s.length 0
  | j + 1 => (stS s p j).set (p.getD (s.length - 1 - j) 0) (s.getD (s.length - 1 - j) 0)
def stT (s : List Int) (p : List Nat) : Nat → List Int
  | 0 => List.replicate s.length 0
  | j + 1 => (stT s p j).set (p.getD (s.length - 1 - j) 0) (prodL (s.drop (s.length - j)))
theorem stS_length (s : List Int) (p : List Nat) : ∀ j, (stS s p j).length = s.length
  | 0 => by simp [stS]
  | j + 1 => by rw [stS, List.length_set, stS_length s p j]
theorem stT_length (s : List Int) (p : List Nat) : ∀ j, (stT s p j).length = s.length
  | 0 => by simp [stT]
  | j + 1 => by rw [stT, List.length_set, stT_length s p j]
theorem nodup_ne {p : List Nat} (hn : p.Nodup) {i j : Nat} (hi : i < p.length) (hj : j < p.length) (h : i ≠ j) : p.getD i 0 ≠ p.getD j 0 := by
  rw [List.getD, List.getD, List.getElem?_eq_getElem hi, List.getElem?_eq_getElem hj]
  have hp := List.pairwise_iff_getElem.1 hn
  show p[i] ≠ p[j]
  rcases Nat.lt_or_gt_of_ne h with h1 | h1
  · exact hp i j hi hj h1
  · exact (hp j i hj hi h1).symm
theorem st_get {s : List Int} {p : List Nat} (h : p.Perm (List.range s.length)) : ∀ j, j ≤ s.length → ∀ i, s.length - j ≤ i → (hi : i < s.length) →
    (stS s p j)[p.getD i 0]? = some s[i] ∧ (stT s p j)[p.getD i 0]? = some (prodL (s.drop (i + 1)))
  | 0, _, i, h1, h2 => by omega
  | j + 1, hj, i, h1, h2 => by
    obtain ⟨g1, g2, g3⟩ := perm_facts h
    have hpi : p.getD i 0 < s.length := by
      rw [List.getD, List.getElem?_eq_getElem (by omega)]
      exact g3 _ (List.getElem_mem _)
    rw [stS, stT]
    by_cases he : i = s.length - 1 - j
    · subst he
      constructor
      · rw [List.getElem?_set_self (by rw [stS_length]; exact hpi), List.getD, List.getElem?_eq_getElem h2]; rfl
      · rw [List.getElem?_set_self (by rw [stT_length]; exact hpi), show s.length - 1 - j + 1 = s.length - j by omega]
    · have hne := nodup_ne g2 (i := s.length - 1 - j) (j := i) (by omega) (by omega) (fun e => he e.symm)
      rw [List.getElem?_set_ne hne, List.getElem?_set_ne hne]
      exact st_get h j (by omega) i (by omega) h2
def outL (s : List Int) (p : List Nat) : List Int := stS s p s.length
def strL (s : List Int) (p : List Nat) : List Int := stT s p s.length
theorem outL_length (s : List Int) (p : List Nat) : (outL s p).length = s.length := stS_length s p _
theorem strL_length (s : List Int) (p : List Nat) : (strL s p).length = s.length := stT_length s p _
theorem outL_get {s : List Int} {p : List Nat} (h : p.Perm (List.range s.length)) {i : Nat} (hi : i < s.length) : (outL s p)[p.getD i 0]? = some s[i] := (st_get h _ (Nat.le_refl _) i (by omega) hi).1
theorem strL_get {s : List Int} {p : List Nat} (h : p.Perm (List.range s.length)) {i : Nat} (hi : i < s.length) : (strL s p)[p.getD i 0]? = some (prodL (s.drop (i + 1))) := (st_get h _ (Nat.le_refl _) i (by omega) hi).2
theorem range_map_getD (l : List Int) : (List.range l.length).map (fun j => l.getD j 0) = l := by
  apply List.ext_getElem
  · simp
  · intro i h1 h2
    simp [List.getD, List.getElem?_eq_getElem h2]
theorem map_out {s : List Int} {p : List Nat} (h : p.Perm (List.range s.length)) : p.map (fun a => (outL s p).getD a 0) = s := by
  obtain ⟨g1, _, _⟩ := perm_facts h
  apply List.ext_getElem
  · simp [g1]
  · intro i h1 h2
    have := outL_get h h2
    rw [List.getD, List.getElem?_eq_getElem (show i < p.length by omega)] at this
    simp only [List.getElem_map, List.getD]
    rw [show (some p[i]).getD 0 = p[i] from rfl] at this
    rw [this]; rfl
theorem outL_perm {s : List Int} {p : List Nat} (h : p.Perm (List.range s.length)) : (outL s p).Perm s := by
  have h1 := h.map (fun a => (outL s p).getD a 0)
  rw [map_out h] at h1
  have h2 := range_map_getD (outL s p)
  rw [outL_length] at h2
  rw [h2] at h1
  exact h1.symm
theorem shB_perm {a b : List Int} (h : a.Perm b) : shB a = shB b := by
  rw [Bool.eq_iff_iff, shB_iff, shB_iff, h.length_eq, prodL_perm h]
  exact ⟨fun ⟨x, y, z⟩ => ⟨x, fun l hl => y l (h.mem_iff.2 hl), z⟩, fun ⟨x, y, z⟩ => ⟨x, fun l hl => y l (h.mem_iff.1 hl), z⟩⟩
theorem cnt_perm {a b : List Int} (h : a.Perm b) : cnt a = cnt b := by
  unfold cnt cntN
  rw [shB_perm h, prodL_perm h]
theorem plL_sum (T : List Int) (g : Nat → Int) : ∀ (s : List Int) (q : List Nat), q.length = s.length → (∀ i, (hi : i < s.length) → T[q.getD i 0]? = some (prodL (s.drop (i + 1)))) → sumL (q.map fun a => g a * T.getD a 0) = plL s (q.map g)
  | [], [], _, _ => rfl
  | a :: r, x :: q, hl, h => by
    have h0 := h 0 (by simp)
    simp at h0
    rw [List.map_cons, List.map_cons, sumL, plL, plL_sum T g r q (by simpa using hl) (fun i hi => by simpa using h (i + 1) (by simpa using hi)), List.getD, h0]
    rfl
  | [], _ :: _, hl, _ => by simp at hl
  | _ :: _, [], hl, _ => by simp at hl
theorem sumF_sum (S T : List Int) (n : Int) : ∀ (l : List (Fin S.length)) (a : Int), l.foldl (fun a i => a + digL S n i * T.getD i.val 0) a = a + sumL (l.map fun i => digL S n i * T.getD i.val 0)
  | [], a => by simp [sumL]
  | i :: l, a => by rw [List.foldl_cons, sumF_sum S T n l, List.map_cons, sumL]; omega
theorem placeF_eq {s : List Int} {p : List Nat} (h : p.Perm (List.range s.length)) (n : Int) : placeF (outL s p) (strL s p) n = plL s (p.map fun a => (atL (outL s p) n).getD a 0) := by
  obtain ⟨g1, _, _⟩ := perm_facts h
  unfold placeF sumF
  rw [sumF_sum, Int.zero_add]
  have hd : downF (outL s p).length (outL s p).length = (List.finRange (outL s p).length).reverse := by
    unfold downF
    rw [List.take_of_length_le (by simp)]
  have hf : (List.finRange (outL s p).length).map (fun i => digL (outL s p) n i * (strL s p).getD i.val 0) = (List.range s.length).map (fun a => (atL (outL s p) n).getD a 0 * (strL s p).getD a 0) := by
    apply List.ext_getElem
    · simp [outL_length]
    · intro i h1 h2
      have hi : i < (outL s p).length := by simpa using h1
      simp only [List.getElem_map, List.getElem_finRange, List.getElem_range]
      congr 1
      rw [List.getD, List.getElem?_eq_getElem (by rw [atL_length]; exact hi)]
      exact (atL_get _ n i hi _).symm
  rw [hd, sumL_perm ((List.reverse_perm _).map _), hf, ← sumL_perm (h.map _)]
  exact plL_sum _ _ s p g1 (fun i hi => strL_get h hi)
def axG (s : List Int) (p : List Nat) : List (Int × Int) := tabG (cnt s) (fun k => (0, plL s (p.map fun a => (atL (outL s p) k).getD a 0)))
end Go.Proofs.Ytjmlekdgipinfaa
