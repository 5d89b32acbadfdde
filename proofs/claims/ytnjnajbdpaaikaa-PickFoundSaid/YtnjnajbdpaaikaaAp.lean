/- Arrays, plainly: lists of numbers, counts, places. -/
import Derived.Test.YtnjnajbdpaaikaaBase
namespace Go.Proofs.Ytnjnajbdpaaikaa

def I (n : Int) : Value := .int .i64 n
/-- A product. -/
def prodL : List Int → Int
  | [] => 1
  | a :: r => a * prodL r
theorem prodL_append : ∀ a b : List Int, prodL (a ++ b) = prodL a * prodL b
  | [], b => by simp [prodL]
  | x :: r, b => by
    rw [List.cons_append, prodL, prodL, prodL_append r b, Int.mul_assoc]
theorem prodL_nonneg : ∀ s : List Int, (∀ l ∈ s, 0 ≤ l) → 0 ≤ prodL s
  | [], _ => by unfold prodL; decide
  | a :: r, h => Int.mul_nonneg (h a (by simp)) (prodL_nonneg r (fun l hl => h l (by simp [hl])))
theorem prodL_zero : ∀ s : List Int, (0 : Int) ∈ s → prodL s = 0
  | a :: r, h => by
    rcases List.mem_cons.1 h with rfl | h
    · simp [prodL]
    · rw [prodL, prodL_zero r h, Int.mul_zero]
def lenB (l : Int) : Bool := decide (0 ≤ l) && decide (l ≤ 4096)
theorem lenB_iff {l : Int} : lenB l = true ↔ 0 ≤ l ∧ l ≤ 4096 := by simp [lenB]
/-- Whether a shape may be. -/
def shB (s : List Int) : Bool := decide (s.length ≤ 4) && (s.all lenB && decide (prodL s ≤ 4096))
def cntN (s : List Int) : Int := if shB s then prodL s else 0
def cntE (s : List Int) : Int := if shB s then 0 else 110
theorem shB_iff {s : List Int} : shB s = true ↔ s.length ≤ 4 ∧ (∀ l ∈ s, 0 ≤ l ∧ l ≤ 4096) ∧ prodL s ≤ 4096 := by
  simp [shB, lenB_iff]
theorem cntN_ok {s : List Int} (h : shB s = true) : cntN s = prodL s := if_pos h
theorem cntE_ok {s : List Int} (h : shB s = true) : cntE s = 0 := if_pos h
theorem cntN_not {s : List Int} (h : shB s = false) : cntN s = 0 := if_neg (by simp [h])
theorem cntE_not {s : List Int} (h : shB s = false) : cntE s = 110 := if_neg (by simp [h])
theorem cntE_zero {s : List Int} : cntE s = 0 ↔ shB s = true := by
  unfold cntE
  split <;> simp [*]
theorem cntE_cases (s : List Int) : (shB s = true ∧ cntE s = 0 ∧ cntN s = prodL s) ∨ (shB s = false ∧ cntE s = 110 ∧ cntN s = 0) := by
  cases h : shB s with
  | true => exact .inl ⟨rfl, cntE_ok h, cntN_ok h⟩
  | false => exact .inr ⟨rfl, cntE_not h, cntN_not h⟩
theorem cntN_bd (s : List Int) : 0 ≤ cntN s ∧ cntN s ≤ 4096 := by
  rcases cntE_cases s with ⟨h, _, h2⟩ | ⟨_, _, h2⟩
  · have hs := shB_iff.1 h
    rw [h2]
    exact ⟨prodL_nonneg s (fun l hl => (hs.2.1 l hl).1), hs.2.2⟩
  · omega
theorem prodL_le : ∀ s : List Int, (∀ l ∈ s, 0 ≤ l ∧ l ≤ 4096) → prodL s ≤ 4096 ^ s.length
  | [], _ => by simp [prodL]
  | a :: r, h => by
    have h1 := h a (by simp)
    have h2 := prodL_le r (fun l hl => h l (by simp [hl]))
    have h3 := prodL_nonneg r (fun l hl => (h l (by simp [hl])).1)
    rw [prodL, List.length_cons, Int.pow_succ, Int.mul_comm]
    exact Int.mul_le_mul h2 h1.2 h1.1 (Int.pow_nonneg (by decide))
theorem prodL_take (s : List Int) (k : Nat) (h : k < s.length) : prodL (s.take (k + 1)) = prodL (s.take k) * s[k] := by
  rw [List.take_succ_eq_append_getElem h, prodL_append]
  simp [prodL]
/-- The places of a number. -/
def atL : List Int → Int → List Int
  | [], _ => []
  | a :: r, n => n / prodL r % a :: atL r n
theorem atL_length : ∀ (s : List Int) (n : Int), (atL s n).length = s.length
  | [], _ => rfl
  | a :: r, n => by rw [atL, List.length_cons, List.length_cons, atL_length r n]
theorem atL_append : ∀ (s t : List Int) (n : Int), 0 ≤ prodL t → atL (s ++ t) n = atL s (n / prodL t) ++ atL t n
  | [], _, _, _ => rfl
  | a :: r, t, n, h => by
    rw [List.cons_append, atL, atL, atL_append r t n h, prodL_append, List.cons_append, Int.mul_comm, Int.ediv_ediv_of_nonneg h]
/-- The number of places. -/
def plL : List Int → List Int → Int
  | _ :: r, x :: xs => x * prodL r + plL r xs
  | _, _ => 0
theorem plL_append : ∀ (s t xs ys : List Int), xs.length = s.length → plL (s ++ t) (xs ++ ys) = plL s xs * prodL t + plL t ys
  | [], t, xs, ys, h => by
    have : xs = [] := List.eq_nil_of_length_eq_zero h
    subst this
    simp [plL]
  | a :: r, t, x :: xs, ys, h => by
    rw [List.cons_append, List.cons_append, plL, plL, plL_append r t xs ys (by simpa using h), prodL_append, Int.add_mul, Int.mul_assoc]
    omega
theorem plL_one (m y : Int) : plL [m] [y] = y := by simp [plL, prodL]
theorem emod_split (n P a : Int) (hP : 0 < P) (ha : 0 < a) : n % (a * P) = n / P % a * P + n % P := by
  have h1 := Int.mul_ediv_add_emod n P
  have h2 := Int.mul_ediv_add_emod (n / P) a
  have h3 := Int.emod_nonneg (n / P) (show a ≠ 0 by omega)
  have h4 := Int.emod_lt_of_pos (n / P) ha
  have h5 := Int.emod_nonneg n (show P ≠ 0 by omega)
  have h6 := Int.emod_lt_of_pos n hP
  have e : n = (n / P % a * P + n % P) + a * P * (n / P / a) := by
    have : P * (n / P) = P * (a * (n / P / a) + n / P % a) := by rw [h2]
    rw [Int.mul_add] at this
    have e2 : P * (a * (n / P / a)) = a * P * (n / P / a) := by rw [← Int.mul_assoc, Int.mul_comm P a]
    have e3 : P * (n / P % a) = n / P % a * P := Int.mul_comm _ _
    omega
  have hlt : n / P % a * P + n % P < a * P := by
    have h7 : (n / P % a + 1) * P ≤ a * P := Int.mul_le_mul_of_nonneg_right (by omega) (by omega)
    rw [Int.add_mul] at h7
    omega
  have hge : 0 ≤ n / P % a * P + n % P := by
    have := Int.mul_nonneg h3 (show 0 ≤ P by omega)
    omega
  calc n % (a * P) = ((n / P % a * P + n % P) + a * P * (n / P / a)) % (a * P) := by rw [← e]
    _ = (n / P % a * P + n % P) % (a * P) := Int.add_mul_emod_self_left _ _ _
    _ = n / P % a * P + n % P := Int.emod_eq_of_lt hge hlt
theorem pos_of_prod : ∀ {s : List Int}, (∀ l ∈ s, 0 ≤ l) → 0 < prodL s → ∀ l ∈ s, 0 < l
  | s, h, hp, l, hl => by
    have := h l hl
    by_cases h0 : l = 0
    · subst h0
      rw [prodL_zero s hl] at hp
      omega
    · omega
theorem plL_atL_mod : ∀ (s : List Int) (n : Int), (∀ l ∈ s, 0 < l) → plL s (atL s n) = n % prodL s
  | [], n, _ => by simp [plL, prodL]
  | a :: r, n, h => by
    have hr : ∀ l ∈ r, 0 < l := fun l hl => h l (by simp [hl])
    have hp : 0 < prodL r := by
      have := prodL_nonneg r (fun l hl => by have := hr l hl; omega)
      by_cases h0 : prodL r = 0
      · exfalso
        have : ∀ (r : List Int), (∀ l ∈ r, 0 < l) → 0 < prodL r := fun r => by
          induction r with
          | nil => intro _; decide
          | cons x r ih => intro h; exact Int.mul_pos (h x (by simp)) (ih (fun l hl => h l (by simp [hl])))
        have := this r hr
        omega
      · omega
    rw [atL, plL, plL_atL_mod r n hr, prodL, emod_split n (prodL r) a hp (h a (by simp))]
theorem plL_atL {s : List Int} {n : Int} (h : ∀ l ∈ s, 0 ≤ l) (h0 : 0 ≤ n) (h1 : n < prodL s) : plL s (atL s n) = n := by
  rw [plL_atL_mod s n (pos_of_prod h (by omega)), Int.emod_eq_of_lt h0 h1]
theorem atL_bd : ∀ {s : List Int} {n : Int}, (∀ l ∈ s, 0 < l) → ∀ (i : Nat) (x l : Int), (atL s n)[i]? = some x → s[i]? = some l → 0 ≤ x ∧ x < l
  | a :: r, n, h, 0, x, l, hx, hl => by
    simp [atL] at hx hl
    subst hx hl
    have ha := h a (by simp)
    exact ⟨Int.emod_nonneg _ (by omega), Int.emod_lt_of_pos _ ha⟩
  | a :: r, n, h, i + 1, x, l, hx, hl => by
    simp [atL] at hx hl
    exact atL_bd (fun l hl => h l (by simp [hl])) i x l hx hl
  | [], n, h, i, x, l, hx, hl => by simp at hl
/-- Whether places are within a shape. -/
def inL : List Int → List Int → Bool
  | a :: r, x :: xs => decide (0 ≤ x) && (decide (x < a) && inL r xs)
  | [], [] => true
  | _, _ => false
theorem inL_iff : ∀ {s xs : List Int}, inL s xs = true ↔ xs.length = s.length ∧ ∀ (i : Nat) (x l : Int), xs[i]? = some x → s[i]? = some l → 0 ≤ x ∧ x < l
  | [], [] => by simp [inL]
  | [], x :: xs => by simp [inL]
  | a :: r, [] => by simp [inL]
  | a :: r, x :: xs => by
    rw [inL, Bool.and_eq_true, Bool.and_eq_true, inL_iff]
    constructor
    · rintro ⟨h1, h2, h3, h4⟩
      refine ⟨by simp [h3], fun i y l hy hl => ?_⟩
      cases i with
      | zero =>
        simp at hy hl
        subst hy hl
        exact ⟨of_decide_eq_true h1, of_decide_eq_true h2⟩
      | succ i => exact h4 i y l (by simpa using hy) (by simpa using hl)
    · rintro ⟨h1, h2⟩
      have h0 := h2 0 x a rfl rfl
      exact ⟨decide_eq_true h0.1, decide_eq_true h0.2, by simpa using h1, fun i y l hy hl => h2 (i + 1) y l (by simpa using hy) (by simpa using hl)⟩
theorem inL_atL {s : List Int} {n : Int} (h : ∀ l ∈ s, 0 < l) : inL s (atL s n) = true :=
  inL_iff.2 ⟨atL_length s n, atL_bd h⟩
theorem plL_bd : ∀ {s xs : List Int}, (∀ l ∈ s, 0 ≤ l) → inL s xs = true → 0 ≤ plL s xs ∧ plL s xs < prodL s
  | [], [], _, _ => by simp [plL, prodL]
  | [], x :: xs, _, h => by simp [inL] at h
  | a :: r, [], _, h => by simp [inL] at h
  | a :: r, x :: xs, hs, h => by
    rw [inL, Bool.and_eq_true, Bool.and_eq_true] at h
    obtain ⟨h1, h2, h3⟩ := h
    have h1 := of_decide_eq_true h1
    have h2 := of_decide_eq_true h2
    have hr : ∀ l ∈ r, 0 ≤ l := fun l hl => hs l (by simp [hl])
    obtain ⟨g1, g2⟩ := plL_bd hr h3
    have hp := prodL_nonneg r hr
    rw [plL, prodL]
    have e1 := Int.mul_nonneg h1 hp
    have e2 : (x + 1) * prodL r ≤ a * prodL r := Int.mul_le_mul_of_nonneg_right (by omega) hp
    rw [Int.add_mul] at e2
    omega
/-- Arrays. -/
structure Ar where
  k : Int
  s : List Int
  e : List Int
def noA : Ar := ⟨0, [], []⟩
/-- Numbers that are no characters. -/
def oddB (c : Int) : Bool := decide (c < 0) || (decide (1114111 < c) || (decide (55296 ≤ c) && decide (c ≤ 57343)))
def kndB (k : Int) (e : List Int) : Bool := decide (k = 1) || (decide (k = 2) && !e.any oddB)
def chkB (A : Ar) : Bool := shB A.s && (decide (prodL A.s = (A.e.length : Int)) && kndB A.k A.e)
def chkE (A : Ar) : Int := if chkB A then 0 else 110
theorem chkE_zero {A : Ar} : chkE A = 0 ↔ chkB A = true := by
  unfold chkE
  split <;> simp [*]
theorem chkB_iff {A : Ar} : chkB A = true ↔ shB A.s = true ∧ prodL A.s = (A.e.length : Int) ∧ kndB A.k A.e = true := by
  simp [chkB]
theorem kndB_iff {k : Int} {e : List Int} : kndB k e = true ↔ k = 1 ∨ (k = 2 ∧ ∀ c ∈ e, oddB c = false) := by
  simp [kndB]
end Go.Proofs.Ytnjnajbdpaaikaa
