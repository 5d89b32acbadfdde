/- fold: the plain law: what a row folds to. -/
import Derived.Test.YtjmlekdgipinfaaMt28
namespace Go.Proofs.Ytjmlekdgipinfaa
open Go.RowKit Go.Shelf

/-- A function's identity. -/
def idV (f : Int) : Int := if f = 6 then 9223372036854775807 else if f = 7 then -9223372036854775808 else if f = 3 ∨ f = 4 ∨ f = 8 ∨ f = 9 ∨ f = 12 ∨ f = 13 ∨ f = 15 then 1 else 0
def idP (f : Int) : Int × Int := if binB f then (idV f, 0) else (0, 2)
/-- One number more, put ahead. -/
def stpP (f x : Int) (q : Int × Int) : Int × Int := if q.2 = 0 then (if (twoP f x q.1).2 = 0 then ((twoP f x q.1).1, 0) else (0, (twoP f x q.1).2)) else (0, q.2)
/-- What a row folds to, and the error. -/
def rowP (f : Int) : List Int → Int × Int
  | [] => (idV f, 0)
  | [x] => (x, 0)
  | x :: y :: r => stpP f x (rowP f (y :: r))
def rwP (f : Int) (l : List Int) : Int × Int := if binB f then rowP f l else (0, 2)
theorem rowP_one (f x : Int) : rowP f [x] = (x, 0) := rfl
theorem rowP_cons (f x : Int) {r : List Int} (h : r ≠ []) : rowP f (x :: r) = stpP f x (rowP f r) := by
  cases r with
  | nil => exact absurd rfl h
  | cons y r => rfl
theorem stpP_err {f x : Int} {q : Int × Int} (h : q.2 ≠ 0) : stpP f x q = (0, q.2) := if_neg h
theorem rowP_err (f : Int) : ∀ (p r : List Int), r ≠ [] → (rowP f r).2 ≠ 0 → (rowP f (p ++ r)).2 = (rowP f r).2
  | [], r, _, _ => rfl
  | x :: p, r, h, g => by
    rw [List.cons_append, rowP_cons f x (by simp [h])]
    have ih := rowP_err f p r h g
    rw [stpP_err (by rw [ih]; exact g), ih]
theorem rowP_zero (f : Int) : ∀ (l : List Int), (rowP f l).2 ≠ 0 → (rowP f l).1 = 0
  | [], h => absurd rfl h
  | [x], h => absurd rfl h
  | x :: y :: r, h => by
    rw [rowP_cons f x (by simp)] at h ⊢
    unfold stpP at h ⊢
    split
    · split
      · rename_i h1 h2; rw [if_pos h1, if_pos h2] at h; exact absurd rfl h
      · rfl
    · rfl
theorem fitN_In (n : Int) : In (fitN n) := by
  unfold fitN In
  split
  · assumption
  · omega
theorem flagI_In (b : Bool) : In (flagI b) := by cases b <;> (unfold flagI In; decide)
theorem two_In {f x y : Int} (hx : In x) (hy : In y) : In (twoP f x y).1 := by
  have h0 : In 0 := by unfold In; decide
  have h1 : In 1 := by unfold In; decide
  have hm : In (-1) := by unfold In; decide
  have hdiv : In (divN x y) := by
    unfold divN; split
    · exact h0
    · exact fitN_In _
  have hrem : In (remN x y) := by
    unfold remN; split
    · exact hy
    · rename_i hne
      exact fmod_in x y hx hne
  have hmin : In (min x y) := by unfold In at hx hy ⊢; omega
  have hmax : In (max x y) := by unfold In at hx hy ⊢; omega
  have hpow : In (powN x y) := by
    unfold powN
    split
    · exact fitN_In _
    · split
      · exact h1
      · split
        · split <;> assumption
        · exact h0
  have hand : In (andN x y) := by
    unfold andN; split
    · rename_i h
      simp only [flagsB, Bool.and_eq_true, Bool.or_eq_true, decide_eq_true_eq] at h
      obtain ⟨h1 | h1, h2 | h2⟩ := h <;> subst h1 <;> subst h2 <;> first | exact h0 | (show In 1; unfold In; decide)
    · exact h0
  have hor : In (orN x y) := by
    unfold orN
    repeat' split
    all_goals assumption
  cases hb : binB f with
  | false => rw [twoP_no hb]; exact h0
  | true =>
    rcases bin_cases hb with rfl | rfl | rfl | rfl | rfl | rfl | rfl | rfl | rfl | rfl | rfl | rfl | rfl | rfl | rfl | rfl
    · exact fitN_In _
    · exact fitN_In _
    · exact fitN_In _
    · exact hdiv
    · exact hrem
    · exact hmin
    · exact hmax
    · exact hpow
    · exact flagI_In _
    · exact flagI_In _
    · exact flagI_In _
    · exact flagI_In _
    · exact flagI_In _
    · exact flagI_In _
    · exact hand
    · exact hor
theorem row_In {f : Int} : ∀ {l : List Int}, (∀ x ∈ l, In x) → In (rowP f l).1
  | [], _ => by unfold rowP idV In; (repeat' split) <;> decide
  | [x], h => h x (by simp)
  | x :: y :: r, h => by
    have ih := row_In (f := f) (l := y :: r) (fun z hz => h z (List.mem_cons_of_mem _ hz))
    rw [rowP_cons f x (by simp)]
    unfold stpP
    have h0 : In 0 := by unfold In; decide
    split
    · split
      · exact two_In (h x (by simp)) ih
      · exact h0
    · exact h0
/-- The first error of things made one by one. -/
def fstE : List (Int × Int) → Int
  | [] => 0
  | q :: r => if q.2 = 0 then fstE r else q.2
theorem fstE_app (a b : List (Int × Int)) (h : fstE a = 0) : fstE (a ++ b) = fstE b := by
  induction a with
  | nil => rfl
  | cons q r ih =>
    by_cases h0 : q.2 = 0
    · simp only [List.cons_append, fstE, if_pos h0] at h ⊢
      exact ih h
    · simp only [fstE, if_neg h0] at h
      exact absurd h h0
theorem fstE_ne (a b : List (Int × Int)) (h : fstE a ≠ 0) : fstE (a ++ b) = fstE a := by
  induction a with
  | nil => exact absurd rfl h
  | cons q r ih =>
    by_cases h0 : q.2 = 0
    · simp only [List.cons_append, fstE, if_pos h0] at h ⊢
      exact ih h
    · simp only [List.cons_append, fstE, if_neg h0]
/-- Numbers made one by one. -/
def tabP (n : Nat) (el : Nat → Int × Int) : List (Int × Int) := (List.range n).map el
theorem tabP_length (n : Nat) (el : Nat → Int × Int) : (tabP n el).length = n := by simp [tabP]
theorem tabP_succ (n : Nat) (el : Nat → Int × Int) : tabP (n + 1) el = tabP n el ++ [el n] := by simp [tabP, List.range_succ]
theorem fstE_succ {n : Nat} {el : Nat → Int × Int} (h : fstE (tabP n el) = 0) : fstE (tabP (n + 1) el) = (el n).2 := by
  rw [tabP_succ, fstE_app _ _ h]
  simp only [fstE]
  split
  · rename_i h1; exact h1.symm
  · rfl
theorem fstE_all {n k : Nat} {el : Nat → Int × Int} (hk : k ≤ n) (h : fstE (tabP k el) ≠ 0) : fstE (tabP n el) = fstE (tabP k el) := by
  obtain ⟨d, rfl⟩ := Nat.exists_eq_add_of_le hk
  unfold tabP at *
  rw [List.range_add, List.map_append]
  exact fstE_ne _ _ h
theorem fstE_zero {n : Nat} {el : Nat → Int × Int} (h : fstE (tabP n el) = 0) : ∀ i, i < n → (el i).2 = 0 := by
  intro i hi
  have h1 : fstE (tabP i el) = 0 := by
    by_cases g : fstE (tabP i el) = 0
    · exact g
    · rw [fstE_all (Nat.le_of_lt hi) g] at h; exact absurd h g
  have h2 : fstE (tabP (i + 1) el) = 0 := by
    by_cases g : fstE (tabP (i + 1) el) = 0
    · exact g
    · rw [fstE_all hi g] at h; exact absurd h g
  rw [fstE_succ h1] at h2
  exact h2
theorem fstE_of {n : Nat} {el : Nat → Int × Int} (h : ∀ i, i < n → (el i).2 = 0) : fstE (tabP n el) = 0 := by
  induction n with
  | zero => rfl
  | succ n ih => rw [fstE_succ (ih fun i hi => h i (by omega))]; exact h n (by omega)
def tabV (n : Nat) (el : Nat → Int × Int) : List Int := (tabP n el).map (·.1)
theorem tabV_length (n : Nat) (el : Nat → Int × Int) : (tabV n el).length = n := by simp [tabV, tabP]
theorem tabV_succ (n : Nat) (el : Nat → Int × Int) : tabV (n + 1) el = tabV n el ++ [(el n).1] := by simp [tabV, tabP_succ]
/-- An array of numbers made one by one, or the first error. -/
def mdA (s : List Int) (n : Nat) (el : Nat → Int × Int) : Ar := if fstE (tabP n el) = 0 then ⟨1, s, tabV n el⟩ else noA
def mdE (n : Nat) (el : Nat → Int × Int) : Int := fstE (tabP n el)
/-- How many rows, and how long. -/
def manyN (s : List Int) : Int := if shB s then prodL s.dropLast else 0
def longN (s : List Int) : Int := if shB s then s.getLastD 1 else 0
/-- The errors of one array. -/
def fineE (f : Int) (A : Ar) : Int := if binB f then (if chkB A then (if A.k = 2 then 5 else 0) else 110) else 2
end Go.Proofs.Ytjmlekdgipinfaa
