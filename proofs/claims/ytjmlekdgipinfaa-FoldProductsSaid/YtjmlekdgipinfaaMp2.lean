/- The document's sums, differences, products of digits, step by step, and quotients bit by bit: in plain words. -/
import Derived.Test.YtjmlekdgipinfaaMp1
namespace Go.Proofs.Ytjmlekdgipinfaa
open Go.RowKit

theorem vl_take_getD (l : List Nat) (i : Nat) : vl (l.take (i + 1)) = vl (l.take i) + pw i * l.getD i 0 := by
  by_cases h : i < l.length
  · rw [vl_take_succ l i h, List.getD_eq_getElem?_getD, List.getElem?_eq_getElem h, Option.getD_some]
  · rw [List.take_of_length_le (by omega), List.take_of_length_le (by omega), List.getD_eq_getElem?_getD, List.getElem?_eq_none (by omega)]
    simp
theorem getD_dig {l : List Nat} (h : Dig l) (i : Nat) : l.getD i 0 < 65536 := by
  rw [List.getD_eq_getElem?_getD]
  by_cases hi : i < l.length
  · rw [List.getElem?_eq_getElem hi]; exact h _ (List.getElem_mem hi)
  · rw [List.getElem?_eq_none (by omega)]; decide
/-- A sum under way: digits o, and what is carried. -/
structure PlsI (a b o : List Nat) (i c : Nat) : Prop where
  len : o.length = i
  dig : Dig o
  c1 : c ≤ 1
  eq : vl o + pw i * c = vl (a.take i) + vl (b.take i)
theorem PlsI.start (a b : List Nat) : PlsI a b [] 0 0 := ⟨rfl, fun d h => absurd h (by simp), by omega, by simp [vl]⟩
theorem PlsI.step {a b o : List Nat} {i c s : Nat} (h : PlsI a b o i c) (ha : Dig a) (hb : Dig b) (hs : c + a.getD i 0 + b.getD i 0 = s) : PlsI a b (o ++ [s % 65536]) (i + 1) (s / 65536) := by
  obtain ⟨h1, h2, h3, h4⟩ := h
  have h5 := getD_dig ha i
  have h6 := getD_dig hb i
  refine ⟨by rw [List.length_append, h1]; rfl, dig_snoc h2 (Nat.mod_lt _ (by decide)), by omega, ?_⟩
  rw [vl_snoc, h1, vl_take_getD, vl_take_getD, pw_succ]
  have h7 : pw i * s = pw i * (s % 65536) + 65536 * pw i * (s / 65536) := by
    conv => lhs; rw [← Nat.mod_add_div s 65536]
    rw [Nat.mul_add, ← Nat.mul_assoc, Nat.mul_comm (pw i) 65536]
  have h8 : pw i * s = pw i * c + pw i * a.getD i 0 + pw i * b.getD i 0 := by rw [← hs, Nat.mul_add, Nat.mul_add]
  omega
theorem PlsI.done {a b o : List Nat} {i : Nat} (h : PlsI a b o i 0) (ha : a.length ≤ i) (hb : b.length ≤ i) : vl o = vl a + vl b := by
  have := h.eq
  rw [List.take_of_length_le ha, List.take_of_length_le hb, Nat.mul_zero] at this
  omega
/-- A difference under way: what is borrowed. -/
structure MinI (a b o : List Nat) (i c : Nat) : Prop where
  len : o.length = i
  dig : Dig o
  c1 : c ≤ 1
  eq : vl (a.take i) + pw i * c = vl o + vl (b.take i)
theorem MinI.start (a b : List Nat) : MinI a b [] 0 0 := ⟨rfl, fun d h => absurd h (by simp), by omega, by simp [vl]⟩
theorem MinI.step0 {a b o : List Nat} {i c : Nat} (h : MinI a b o i c) (ha : Dig a) (hb : Dig b) (hx : ¬ a.getD i 0 < c + b.getD i 0) : MinI a b (o ++ [a.getD i 0 - (c + b.getD i 0)]) (i + 1) 0 := by
  obtain ⟨h1, h2, h3, h4⟩ := h
  have h5 := getD_dig ha i
  have h6 := getD_dig hb i
  refine ⟨by rw [List.length_append, h1]; rfl, dig_snoc h2 (by omega), by omega, ?_⟩
  rw [vl_snoc, h1, vl_take_getD, vl_take_getD, Nat.mul_zero]
  have h8 : pw i * (a.getD i 0 - (c + b.getD i 0)) + (pw i * c + pw i * b.getD i 0) = pw i * a.getD i 0 := by
    rw [← Nat.mul_add, ← Nat.mul_add]; congr 1; omega
  omega
theorem MinI.step1 {a b o : List Nat} {i c : Nat} (h : MinI a b o i c) (ha : Dig a) (hb : Dig b) (hx : a.getD i 0 < c + b.getD i 0) : MinI a b (o ++ [a.getD i 0 + 65536 - (c + b.getD i 0)]) (i + 1) 1 := by
  obtain ⟨h1, h2, h3, h4⟩ := h
  have h5 := getD_dig ha i
  have h6 := getD_dig hb i
  refine ⟨by rw [List.length_append, h1]; rfl, dig_snoc h2 (by omega), by omega, ?_⟩
  rw [vl_snoc, h1, vl_take_getD, vl_take_getD, pw_succ, Nat.mul_one]
  have h8 : pw i * (a.getD i 0 + 65536 - (c + b.getD i 0)) + (pw i * c + pw i * b.getD i 0) = pw i * a.getD i 0 + 65536 * pw i := by
    rw [← Nat.mul_add, ← Nat.mul_add, Nat.mul_comm 65536, ← Nat.mul_add]; congr 1; omega
  omega
theorem MinI.done {a b o : List Nat} {c : Nat} (h : MinI a b o a.length c) (hb : b.length ≤ a.length) (hv : vl b ≤ vl a) : vl o = vl a - vl b := by
  have h1 := h.eq
  have h2 := vl_lt h.dig
  have h3 := h.c1
  rw [h.len] at h2
  rw [List.take_of_length_le (Nat.le_refl _), List.take_of_length_le hb] at h1
  have hc : c = 0 := by
    rcases Nat.eq_zero_or_pos c with e | e
    · exact e
    · have : c = 1 := by omega
      rw [this, Nat.mul_one] at h1
      omega
  rw [hc, Nat.mul_zero] at h1
  omega
/-- A product under way: row i, up to number k of it. -/
structure MulI (a b o : List Nat) (i k c : Nat) : Prop where
  len : o.length = a.length + b.length + 1
  dig : Dig o
  c1 : c < 65536
  zer : ∀ j (h : j < o.length), i + b.length ≤ j → o[j] = 0
  eq : vl o + pw (i + k) * c = vl (a.take i) * vl b + pw i * (a.getD i 0 * vl (b.take k))
theorem MulI.start (a b : List Nat) : MulI a b (List.replicate (a.length + b.length + 1) 0) 0 0 0 :=
  ⟨by simp, fun d h => by rw [(List.mem_replicate.1 h).2]; decide, by decide, fun j h _ => by simp, by rw [vl_zeros _ (fun d h => (List.mem_replicate.1 h).2)]; simp [vl]⟩
theorem MulI.step {a b o : List Nat} {i k c s : Nat} (h : MulI a b o i k c) (ha : Dig a) (hb : Dig b) (hk : k < b.length) (ho : i + k < o.length) (hs : o[i + k] + a.getD i 0 * b.getD k 0 + c = s) :
    MulI a b (o.set (i + k) (s % 65536)) i (k + 1) (s / 65536) := by
  obtain ⟨h1, h2, h3, h4, h5⟩ := h
  have h6 := getD_dig ha i
  have h7 := getD_dig hb k
  have h8 := h2 _ (List.getElem_mem ho)
  have hm : a.getD i 0 * b.getD k 0 ≤ 65535 * 65535 := Nat.mul_le_mul (by omega) (by omega)
  refine ⟨by rw [List.length_set]; exact h1, dig_set h2 _ _ (Nat.mod_lt _ (by decide)), by omega, fun j hj hij => ?_, ?_⟩
  · rw [List.length_set] at hj
    rw [List.getElem_set_ne (by omega)]
    exact h4 j hj hij
  · have e1 := vl_set o (i + k) (s % 65536) ho
    have e2 : pw (i + k) * s = pw (i + k) * (s % 65536) + pw (i + (k + 1)) * (s / 65536) := by
      conv => lhs; rw [← Nat.mod_add_div s 65536]
      rw [Nat.mul_add, ← Nat.add_assoc, pw_succ, ← Nat.mul_assoc, Nat.mul_comm (pw (i + k)) 65536]
    have e3 : pw (i + k) * s = pw (i + k) * o[i + k] + pw (i + k) * (a.getD i 0 * b.getD k 0) + pw (i + k) * c := by rw [← hs, Nat.mul_add, Nat.mul_add]
    have e4 : pw i * (a.getD i 0 * vl (b.take (k + 1))) = pw i * (a.getD i 0 * vl (b.take k)) + pw (i + k) * (a.getD i 0 * b.getD k 0) := by
      rw [vl_take_getD, Nat.mul_add, Nat.mul_add, pw_add]
      congr 1
      rw [Nat.mul_left_comm (a.getD i 0) (pw k), ← Nat.mul_assoc]
    omega
theorem MulI.row {a b o : List Nat} {i c : Nat} (h : MulI a b o i b.length c) (_hi : i < a.length) (ho : i + b.length < o.length) : MulI a b (o.set (i + b.length) c) (i + 1) 0 0 := by
  obtain ⟨h1, h2, h3, h4, h5⟩ := h
  refine ⟨by rw [List.length_set]; exact h1, dig_set h2 _ _ h3, by decide, fun j hj hij => ?_, ?_⟩
  · rw [List.length_set] at hj
    rw [List.getElem_set_ne (by omega)]
    exact h4 j hj (by omega)
  · have e1 := vl_set o (i + b.length) c ho
    rw [h4 _ ho (Nat.le_refl _), Nat.mul_zero, Nat.add_zero] at e1
    rw [e1, h5, List.take_of_length_le (Nat.le_refl b.length), vl_take_getD, Nat.add_mul, Nat.mul_assoc]
    simp [vl]
theorem MulI.done {a b o : List Nat} (h : MulI a b o a.length 0 0) : vl o = vl a * vl b := by
  have := h.eq
  rw [List.take_of_length_le (Nat.le_refl _)] at this
  simpa [vl] using this
/-- A sum of signed numbers. -/
def addB (p q : Bool × Nat) : Bool × Nat := if p.1 = q.1 then (p.1, p.2 + q.2) else if q.2 ≤ p.2 then (p.1, p.2 - q.2) else (q.1, q.2 - p.2)
theorem addB_sgn (p q : Bool × Nat) : sgn (addB p q).1 (addB p q).2 = sgn p.1 p.2 + sgn q.1 q.2 := by
  obtain ⟨a, m⟩ := p
  obtain ⟨b, n⟩ := q
  unfold addB
  simp only
  by_cases h : a = b
  · rw [if_pos h, h, sgn_add]
  · rw [if_neg h]
    have hb : b = !a := by cases a <;> cases b <;> simp_all
    by_cases h2 : n ≤ m
    · rw [if_pos h2, hb, sgn_sub _ h2]
    · rw [if_neg h2, hb, sgn_sub _ (by omega), Bool.not_not, Int.add_comm]
theorem addB_le (p q : Bool × Nat) : (addB p q).2 ≤ p.2 + q.2 := by
  unfold addB
  split
  · exact Nat.le_refl _
  · split <;> simp only <;> omega
/-- A digit of a number. -/
theorem dg_get (n : Nat) : ∀ d, (dg n).getD d 0 = n / pw d % 65536 := by
  intro d
  have h1 := vl_take_getD (dg n) d
  by_cases hd : d < (dg n).length
  · have h2 := vl_split (dg n) d (by omega)
    have h3 := vl_lt (dig_take (dg_dig n) d)
    rw [List.length_take, Nat.min_eq_left (by omega)] at h3
    have h4 : (dg n).drop d = (dg n)[d] :: (dg n).drop (d + 1) := List.drop_eq_getElem_cons hd
    rw [h4, vl, vl_dg] at h2
    have h5 := dg_dig n _ (List.getElem_mem hd)
    rw [List.getD_eq_getElem?_getD, List.getElem?_eq_getElem hd, Option.getD_some]
    obtain ⟨x, hx⟩ : ∃ x, (dg n)[d] + 65536 * vl ((dg n).drop (d + 1)) = x := ⟨_, rfl⟩
    rw [hx] at h2
    have h6 : n / pw d = (dg n)[d] + 65536 * vl ((dg n).drop (d + 1)) := by
      rw [hx]
      conv => lhs; rw [h2]
      rw [Nat.mul_comm (pw d), Nat.add_mul_div_right _ _ (pw_pos d), Nat.div_eq_of_lt h3, Nat.zero_add]
    rw [h6]
    omega
  · rw [List.getD_eq_getElem?_getD, List.getElem?_eq_none (by omega), Option.getD_none]
    have h2 := dg_lt n
    have h3 := pw_mono (show (dg n).length ≤ d by omega)
    rw [Nat.div_eq_of_lt (by omega)]
theorem two_pw (d k : Nat) : 2 ^ (16 * d + k) = pw d * 2 ^ k := by
  rw [Nat.pow_add, Nat.pow_mul]
  rfl
/-- A bit of a number, by its digit. -/
theorem bit_get (n i : Nat) : (dg n).getD (i / 16) 0 / 2 ^ (i % 16) % 2 = n / 2 ^ i % 2 := by
  rw [dg_get]
  have h1 : i = 16 * (i / 16) + i % 16 := (Nat.div_add_mod i 16).symm
  have h2 : n / 2 ^ i = n / pw (i / 16) / 2 ^ (i % 16) := by
    conv => lhs; rw [h1]
    rw [two_pw, Nat.div_div_eq_div_mul]
  rw [h2]
  generalize n / pw (i / 16) = m
  have h3 : i % 16 < 16 := Nat.mod_lt _ (by decide)
  generalize i % 16 = k at h3
  have h4 : (65536 : Nat) = 2 ^ k * (2 * 2 ^ (15 - k)) := by
    rw [← Nat.pow_succ', ← Nat.pow_add, show k + (15 - k + 1) = 16 by omega]
  rw [h4, Nat.mod_mul_right_div_self, Nat.mod_mul_right_mod]
/-- One bit more of a quotient. -/
theorem bit_step {X Y : Nat} (hY : 0 < Y) (i : Nat) : let r := 2 * (X / 2 ^ (i + 1) % Y) + X / 2 ^ i % 2
    (r < Y → X / 2 ^ i % Y = r ∧ X / 2 ^ i / Y = 2 * (X / 2 ^ (i + 1) / Y)) ∧ (Y ≤ r → X / 2 ^ i % Y = r - Y ∧ X / 2 ^ i / Y = 2 * (X / 2 ^ (i + 1) / Y) + 1) ∧ r < 2 * Y := by
  intro r
  obtain ⟨Z, hZ⟩ : ∃ Z, X / 2 ^ i = Z := ⟨_, rfl⟩
  have h1 : X / 2 ^ (i + 1) = Z / 2 := by rw [← hZ, Nat.div_div_eq_div_mul, ← Nat.pow_succ]
  have hr : r = 2 * (Z / 2 % Y) + Z % 2 := by show 2 * (X / 2 ^ (i + 1) % Y) + X / 2 ^ i % 2 = _; rw [h1, hZ]
  rw [h1, hZ]
  have h2 := Nat.div_add_mod (Z / 2) Y
  have h3 := Nat.mod_lt (Z / 2) hY
  obtain ⟨q, hq⟩ : ∃ q, Z / 2 / Y = q := ⟨_, rfl⟩
  obtain ⟨m, hm⟩ : ∃ m, Z / 2 % Y = m := ⟨_, rfl⟩
  rw [hq, hm] at h2
  rw [hm] at h3
  rw [hm] at hr
  rw [hq]
  have hz : Z = 2 * (Y * q) + r := by omega
  refine ⟨fun h => ?_, fun h => ?_, by omega⟩
  · have e : Z = r + Y * (2 * q) := by rw [hz, Nat.mul_left_comm]; omega
    rw [e, Nat.add_mul_mod_self_left, Nat.mod_eq_of_lt h, Nat.add_mul_div_left _ _ hY, Nat.div_eq_of_lt h]
    exact ⟨rfl, by omega⟩
  · have e : Z = (r - Y) + Y * (2 * q + 1) := by
      rw [Nat.mul_add, Nat.mul_one, hz, Nat.mul_left_comm]
      omega
    have hl : r - Y < Y := by omega
    rw [e, Nat.add_mul_mod_self_left, Nat.mod_eq_of_lt hl, Nat.add_mul_div_left _ _ hY, Nat.div_eq_of_lt hl]
    exact ⟨rfl, by omega⟩
/-- A quotient, rounded down, by sizes and signs. -/
theorem fdiv_sgn (x y : Int) (hy : y ≠ 0) : x.fdiv y = if decide (x < 0) = decide (y < 0) then ((x.natAbs / y.natAbs : Nat) : Int) else -((x.natAbs / y.natAbs + (if 0 < x.natAbs % y.natAbs then 1 else 0) : Nat) : Int) := by
  obtain ⟨Y, hY⟩ : ∃ Y, y.natAbs = Y := ⟨_, rfl⟩
  obtain ⟨X, hX⟩ : ∃ X, x.natAbs = X := ⟨_, rfl⟩
  have hY0 : 0 < Y := by omega
  have h1 := Nat.div_add_mod X Y
  have h2 := Nat.mod_lt X hY0
  rw [hX, hY]
  obtain ⟨q, hq⟩ : ∃ q, X / Y = q := ⟨_, rfl⟩
  obtain ⟨m, hm⟩ : ∃ m, X % Y = m := ⟨_, rfl⟩
  rw [hq, hm] at h1 ⊢
  rw [hm] at h2
  have key : ∀ (k r : Int), 0 ≤ r * (if y < 0 then -1 else 1) → r * (if y < 0 then -1 else 1) < Y → x = r + y * k → x.fdiv y = k := by
    intro k r h3 h4 h5
    rw [h5, Int.add_mul_fdiv_left _ _ hy]
    have : r.fdiv y = 0 := by
      by_cases hn : y < 0
      · rw [if_pos hn] at h3 h4
        rw [← Int.neg_fdiv_neg, Int.fdiv_eq_ediv_of_nonneg _ (by omega)]
        exact Int.ediv_eq_zero_of_lt (by omega) (by omega)
      · rw [if_neg hn] at h3 h4
        rw [Int.fdiv_eq_ediv_of_nonneg _ (by omega)]
        exact Int.ediv_eq_zero_of_lt (by omega) (by omega)
    omega
  have hYq : (Y : Int) * (q : Int) = ((Y * q : Nat) : Int) := (Int.natCast_mul _ _).symm
  by_cases hx : x < 0 <;> by_cases hn : y < 0
  · rw [if_pos (by simp [hx, hn])]
    refine key q (-(m : Int)) ?_ ?_ ?_
    · rw [if_pos hn]; omega
    · rw [if_pos hn]; omega
    · have : y = -(Y : Int) := by omega
      rw [this, Int.neg_mul, hYq]; omega
  · rw [if_neg (by simp [hx, hn])]
    have hy' : y = (Y : Int) := by omega
    by_cases h0 : 0 < m
    · rw [if_pos h0]
      refine key _ ((Y : Int) - m) ?_ ?_ ?_
      · rw [if_neg hn]; omega
      · rw [if_neg hn]; omega
      · rw [hy', show (-((q + 1 : Nat) : Int)) = -((q : Int) + 1) by omega, Int.mul_neg, Int.mul_add, hYq]; omega
    · rw [if_neg h0]
      refine key _ 0 ?_ ?_ ?_
      · rw [if_neg hn]; omega
      · rw [if_neg hn]; omega
      · rw [hy', show (-((q + 0 : Nat) : Int)) = -(q : Int) by omega, Int.mul_neg, hYq]; omega
  · rw [if_neg (by simp [hx, hn])]
    have hy' : y = -(Y : Int) := by omega
    by_cases h0 : 0 < m
    · rw [if_pos h0]
      refine key _ ((m : Int) - Y) ?_ ?_ ?_
      · rw [if_pos hn]; omega
      · rw [if_pos hn]; omega
      · rw [hy', show (-((q + 1 : Nat) : Int)) = -((q : Int) + 1) by omega, Int.neg_mul_neg, Int.mul_add, hYq]; omega
    · rw [if_neg h0]
      refine key _ 0 ?_ ?_ ?_
      · rw [if_pos hn]; omega
      · rw [if_pos hn]; omega
      · rw [hy', show (-((q + 0 : Nat) : Int)) = -(q : Int) by omega, Int.neg_mul_neg, hYq]; omega
  · rw [if_pos (by simp [hx, hn])]
    refine key q (m : Int) ?_ ?_ ?_
    · rw [if_neg hn]; omega
    · rw [if_neg hn]; omega
    · have : y = (Y : Int) := by omega
      rw [this, hYq]; omega
/-- A signed number, if it is one of 64 bits. -/
theorem fit_sgn (b : Bool) (m : Nat) : (b = true → (m ≤ 9223372036854775808 ↔ In (sgn b m))) ∧ (b = false → (m ≤ 9223372036854775807 ↔ In (sgn b m))) := by
  unfold In sgn
  constructor <;> intro h <;> subst h <;> simp <;> omega
end Go.Proofs.Ytjmlekdgipinfaa
